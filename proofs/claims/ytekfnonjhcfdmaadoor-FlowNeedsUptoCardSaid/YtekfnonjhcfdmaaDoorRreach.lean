/- The reference's Reach. -/
import Derived.Test.YtekfnonjhcfdmaaDoorRef1
import Derived.Test.YtekfnonjhcfdmaaDoorRef2
import Derived.Test.YtekfnonjhcfdmaaDoorReach
namespace Go.Proofs.YtekfnonjhcfdmaaDoor
open Go.RowKit Go.Rt Go.Rw

def oweW (l : List In) (m : Nat) (W : World) : Nat := sumN (fun i => match W.cell? ⟨m, i, none⟩ with | some (.bool true) => 0 | _ => wtI l i) l.length
def lenS : Value → Nat
  | .slice _ n _ => n
  | _ => 0
theorem seen_cell {W : World} {m n : Nat} {Q : Nat → Bool} (h : Blk W m 4 ((List.range n).map fun i => Value.bool (Q i)).toArray) {i : Nat} (hi : i < n) : W.cell? ⟨m, i, none⟩ = some (.bool (Q i)) := by
  rw [h.cell i]
  simp [hi]
theorem oweW_eq {l : List In} {m n : Nat} {W : World} {Q : Nat → Bool} (h : Blk W m 4 ((List.range n).map fun i => Value.bool (Q i)).toArray) (hn : n = l.length) : oweW l m W = owe l Q := by
  unfold oweW owe
  refine sumN_congr _ fun i hi => ?_
  rw [seen_cell h (by omega)]
  cases Q i <;> rfl
set_option maxRecDepth 100000 in
set_option maxHeartbeats 8000000 in
theorem rreach28 (l : List In) (fr : List Int) (v fv : Value) (w : World) (h : InsAt w l v) (hfv : SlAt w 1 inC fv fr) (hb1 : l.length ≤ 1048576) (hb2 : ∀ x ∈ l, x.cases.length ≤ 1048576) (hb3 : fr.length + owe l (fun _ => false) ≤ 100000000) :
    Calls Tryd.prog 28 #[v, fv] w (ReR l fr w) := by
  obtain ⟨_, sa, cap, rfl⟩ := h.form
  obtain ⟨_, sf, cf, ef⟩ := hfv.len
  obtain ⟨n, hn⟩ : ∃ n, n = l.length := ⟨_, rfl⟩
  obtain ⟨nf, hnf⟩ : ∃ n, n = fr.length := ⟨_, rfl⟩
  rw [← hnf] at ef hb3
  subst ef
  have CR := Lib.hid (fun (i : Int) (W : World) (q : InsAt W l (.slice sa l.length cap)) => rnext17 l _ i W q hb1 hb2)
  rw [← hn] at h hb1 CR ⊢
  have HH := Lib.hid h
  have HN := Lib.hid hn
  have HNF := Lib.hid hnf
  have HFV := Lib.hid hfv
  have HB3 := Lib.hid hb3
  have hnf8 : nf ≤ 100000000 := by omega
  clear h hfv hn hnf hb2 hb3
  have mk2 := fun (W : World) => mk47 n (by omega) W
  have X := Lib.hid (Blk.new w 4 (Array.replicate n (.bool false)))
  have B := Lib.hid ((Below.refl w.heap.size w).alloc (Nat.le_refl _) (.cells (Array.replicate n (.bool false)) 4))
  obtain ⟨m, hm⟩ : ∃ q, q = w.heap.size := ⟨_, rfl⟩
  have HZ1 : Hid ((w.alloc (.cells (Array.replicate n (.bool false)) 4)).heap.size = m + 1) := Lib.hid (by rw [World.size_alloc, hm])
  have HM := Lib.hid hm
  rw [← hm] at X B
  go_enter Tryd.func28, Tryd.ntmps28
  go_upto_region 2 with fail
  rw [← hm]
  generalize w.alloc (.cells (Array.replicate n (.bool false)) 4) = w1 at X B HZ1 ⊢
  clear hm mk2
  have X1 : Hid (Blk w1 m 4 ((List.range n).map fun i => Value.bool ((fun _ => false) i)).toArray) := Lib.hid (by
    have := blk_replicate X.out
    simpa [List.map_const'] using this)
  have HO1 : Hid (Sl w1 (m + 1) 3 1 inC (.slice none 0 0) ((fr.take 0).filter (inR l))) := Lib.hid (by rw [List.take_zero]; exact Sl.nil _ _ _ _ _)
  clear X
  go_wp2_with fail
  go_loopw [6, 7] (fun z6 z7 wr => ∃ (k : Nat) (S : Option Addr) (N C : Nat), k ≤ nf ∧ z7 = .int .i64 (k : Int) ∧ z6 = .slice S N C ∧ Hid (Sl wr (m + 1) 3 1 inC (.slice S N C) ((fr.take k).filter (inR l))) ∧ Hid (Blk wr m 4 ((List.range n).map fun i => Value.bool ((fun _ => false) i)).toArray) ∧ Hid (Below m w wr)) (fun _ z _ => nf - (intOf z).toNat)
  case atStart => exact ⟨0, _, _, _, Nat.zero_le _, rfl, rfl, HO1, X1, B⟩
  case round =>
    obtain ⟨k, S, N, C, hk, rfl, rfl, HO, HX, HB⟩ := hrel
    clear HO1 X1 B
    by_cases hkn : k < nf
    · have hkni : (k : Int) < (nf : Int) := by omega
      have hkl : k < fr.length := by rw [← HNF.out]; exact hkn
      obtain ⟨bf, of, rfl, hbf, hcf⟩ := HFV.out.get (by omega)
      have ck := (HB.out.cell (p := ⟨bf, of + k * 1 + 0, none⟩) (by rw [HM.out]; exact hbf)).trans (hcf k 0 hkl (by omega))
      obtain ⟨x, hx⟩ : ∃ x, x = fr[k] := ⟨_, rfl⟩
      rw [← hx] at ck
      simp only [inC, List.getElem?_cons_zero, Nat.add_zero, Nat.mul_one] at ck
      have hts := List.take_succ_eq_append_getElem hkl
      rw [← hx] at hts
      have HTS := Lib.hid hts
      have HLE : Hid (((fr.take k).filter (inR l)).length ≤ nf) := Lib.hid (by
        have h1 := List.length_filter_le (inR l) (fr.take k)
        have h2 := List.length_take_le' k fr
        have := HNF.out
        omega)
      clear hx hts hkl hbf hcf
      by_cases hr0 : 0 ≤ x
      · by_cases hrn : x < (n : Int)
        · obtain ⟨sx2, cx2, w4, hr2, s5, b4⟩ := lit23 HO.out [x] (by have := HLE.out; have := HB3.out; simp only [List.length_cons, List.length_nil]; omega) (by have := HX.out.lt; omega)
          rw [show (fr.take k).filter (inR l) ++ [x] = (fr.take (k + 1)).filter (inR l) by rw [HTS.out, List.filter_append, List.filter_cons_of_pos (by unfold inR; rw [← HN.out, decide_eq_true hr0, decide_eq_true hrn]; rfl), List.filter_nil]] at hr2 s5
          have HR2 := Lib.hid hr2
          have HS2 := Lib.hid s5
          have HB4 := Lib.hid (HB.out.trans (b4.mono (by omega)))
          have HX4 := Lib.hid (show Blk w4 m 4 _ from (b4.block m (by omega)).trans HX.out)
          clear hr2 s5 b4 HO HX HB HTS HLE
          go_wp2_with (at_builtin; refine wpList_append_run rfl _ _ 23 23 rfl rfl rfl HR2.out ?_)
          go_roundw
          case rel => exact ⟨k + 1, _, _, _, by omega, by go_num, rfl, HS2, HX4, HB4⟩
          case measure => simp [intOf]; omega
        · have HO2 := Lib.hid HO.out
          rw [show (fr.take k).filter (inR l) = (fr.take (k + 1)).filter (inR l) by rw [HTS.out, List.filter_append, List.filter_cons_of_neg (by unfold inR; rw [← HN.out, decide_eq_false hrn, Bool.and_false]; simp), List.filter_nil, List.append_nil]] at HO2
          clear HO HTS HLE
          go_wp2_with fail
          go_roundw
          case rel => exact ⟨k + 1, _, _, _, by omega, by go_num, rfl, HO2, HX, HB⟩
          case measure => simp [intOf]; omega
      · have HO2 := Lib.hid HO.out
        rw [show (fr.take k).filter (inR l) = (fr.take (k + 1)).filter (inR l) by rw [HTS.out, List.filter_append, List.filter_cons_of_neg (by unfold inR; rw [decide_eq_false hr0, Bool.false_and]; simp), List.filter_nil, List.append_nil]] at HO2
        clear HO HTS HLE
        go_wp2_with fail
        go_roundw
        case rel => exact ⟨k + 1, _, _, _, by omega, by go_num, rfl, HO2, HX, HB⟩
        case measure => simp [intOf]; omega
    · have hkni : ¬ (k : Int) < (nf : Int) := by omega
      have hke : k = fr.length := by rw [← HNF.out]; omega
      have HO2 := Lib.hid HO.out
      rw [hke, List.take_length] at HO2
      obtain ⟨O0, hO0⟩ : ∃ q, q = fr.filter (inR l) := ⟨_, rfl⟩
      have HQ0 : Hid (QI l fr (fun _ => false) O0 0) := Lib.hid (by rw [hO0]; exact QI.start l fr)
      have HC0 : Hid (O0.length + owe l (fun _ => false) ≤ 100000000) := Lib.hid (by
        have h1 := List.length_filter_le (inR l) fr
        rw [← hO0] at h1
        have := HNF.out
        have := HB3.out
        omega)
      rw [← hO0] at HO2
      have HN0 : Hid (N = O0.length) := Lib.hid (by
        rcases HO2.out.form with ⟨e, e2⟩ | ⟨g, c, e, _⟩
        · simp only [Value.slice.injEq] at e
          rw [e2]
          exact e.2.1
        · simp only [Value.slice.injEq] at e
          exact e.2.1)
      have HXA := Lib.hid HX.out
      have HBA := Lib.hid HB.out
      clear hke HO hO0 HB3 HX HB
      go_wp2_with fail
      go_loopw [6, 8] (fun z6 z8 wr => ∃ (k : Nat) (S : Option Addr) (N C : Nat) (Q : Nat → Bool) (O : List Int), k ≤ N ∧ z8 = .int .i64 (k : Int) ∧ z6 = .slice S N C ∧ Hid (N = O.length) ∧ Hid (Sl wr (m + 1) 3 1 inC (.slice S N C) O) ∧ Hid (Blk wr m 4 ((List.range n).map fun i => Value.bool (Q i)).toArray) ∧ Hid (Below m w wr) ∧ Hid (QI l fr Q O k) ∧ Hid (O.length + owe l Q ≤ 100000000)) (fun z6 z8 W => oweW l m W + lenS z6 - (intOf z8).toNat)
      case atStart => exact ⟨0, _, _, _, _, _, Nat.zero_le _, rfl, rfl, HN0, HO2, HXA, HBA, HQ0, HC0⟩
      case round =>
        obtain ⟨k, S, N, C, Q, O, hk, rfl, rfl, HNO, HO, HX, HB, HQ, HC⟩ := hrel
        clear HN0 HO2 HXA HBA HQ0 HC0
        by_cases hkn : k < N
        · have hkni : (k : Int) < (N : Int) := by omega
          have hkl : k < O.length := by rw [← HNO.out]; exact hkn
          have HMS := Lib.hid (oweW_eq HX.out HN.out)
          obtain ⟨g7, hg7⟩ : ∃ g : Nat, S = some ⟨g, 0, none⟩ := by
            rcases HO.out.form with ⟨e, e2⟩ | ⟨g, cap, e, _⟩
            · rw [e2] at hkl
              simp at hkl
            · simp only [Value.slice.injEq] at e
              exact ⟨g, e.1⟩
          subst hg7
          have ck := HO.out.cell in_len k 0 hkl (by omega)
          obtain ⟨j, hj, hjl, hjr⟩ := HQ.out.sound _ (List.getElem_mem hkl)
          have HJ := Lib.hid hj
          have HJL := Lib.hid hjl
          have hjn : j < n := by rw [HN.out]; exact hjl
          have hjni : (j : Int) < (n : Int) := by omega
          rw [hj] at ck
          simp only [inC, List.getElem?_cons_zero, Nat.add_zero, Nat.mul_one] at ck
          have HQJ := Lib.hid (seen_cell HX.out hjn)
          have HKL := Lib.hid hkl
          have HFZ := Lib.hid (HX.out.frozen j)
          have hn8 : N ≤ 100000000 := by have := HNO.out; have := HC.out; omega
          clear hj hjl hjr
          cases hq : Q j with
          | true =>
            have qj : wr.cell? ⟨m, j, none⟩ = some (.bool true) := by rw [HQJ.out, hq]
            have HQ2 := Lib.hid (HQ.out.skip HKL.out HJ.out hq)
            clear hq
            go_wp2_with fail
            go_roundw
            case rel => exact ⟨k + 1, _, _, _, Q, O, by omega, by go_num, rfl, HNO, HO, HX, HB, HQ2, HC⟩
            case measure => simp only [intOf, lenS]; omega
          | false =>
            have qj : wr.cell? ⟨m, j, none⟩ = some (.bool false) := by rw [HQJ.out, hq]
            have HQ2 := Lib.hid (HQ.out.pop HKL.out HJ.out HJL.out)
            have HOW := Lib.hid (owe_mark HJL.out hq)
            have qf : wr.frozen? ⟨m, j, none⟩ = false := HFZ.out
            clear hq
            have X2 := Lib.hid (HX.out.set_ j (.bool true))
            rw [← map_setB Q n j hjn] at X2
            have B2 := Lib.hid (HB.out.setCell (p := ⟨m, j, none⟩) (Nat.le_refl m) (.bool true))
            have HO2 := Lib.hid (HO.out.only (bs := [m]) (Only.setCell wr ⟨m, j, none⟩ (.bool true) (by simp)) (fun g hg hm => by
              have := (HO.out.lt g hg).1
              simp only [List.mem_singleton] at hm
              omega))
            clear HX HB HO HQJ HFZ
            go_upto_region 14 with fail
            clear ck qj qf
            generalize wr.setCell ⟨m, j, none⟩ (.bool true) = w2 at X2 B2 HO2 ⊢
            have H2 := Lib.hid (HH.out.keep (by rw [← HM.out]; exact B2.out))
            have C17 := Lib.hid (CR.out (j : Int) w2 H2.out)
            go_wp2_with fail
            refine C17.out.mono ?_
            rintro e w3 ⟨b3, u, rfl, s3⟩
            have hz2 := X2.out.lt
            have hlen : O.length + (nextF l j).length + 2 ≤ 100000000 := by
              have h1 := next_len l j HJL.out
              have h2 : wtI l j = (targF (l[j]'HJL.out) j).length + 2 := dif_pos HJL.out
              have := HOW.out
              have := HC.out
              omega
            have b3m := b3.mono (show m + 1 ≤ w2.heap.size by omega)
            have o3 := HO2.out.below b3 (fun g hg => (HO2.out.lt g hg).2)
            obtain ⟨su, cu, eu, _⟩ := s3.2
            subst eu
            obtain ⟨s4, c4, w4, r4, o4, g4⟩ := apps23 o3 s3.1 (by omega) (by have := b3.size; omega)
            have b4 : Below (m + 1) w3 w4 := (grown_only g4).below (fun r hr => by rw [Option.mem_toList] at hr; exact (o3.lt r hr).1) (by have := b3.size; omega)
            have HR4 := Lib.hid r4
            have HO4 := Lib.hid o4
            have HB4 := Lib.hid (B2.out.trans ((b3m.trans b4).mono (by omega)))
            have HX4 := Lib.hid (show Blk w4 m 4 _ from ((b3m.trans b4).block m (by omega)).trans X2.out)
            have HH4 := Lib.hid (HH.out.keep (by rw [← HM.out]; exact HB4.out))
            have HAQ : Hid (addQ l j = nextF l j ++ (if handB (l[j]'HJL.out).op (l[j]'HJL.out).to n then [(l[j]'HJL.out).to] else [])) := Lib.hid (by unfold addQ; rw [dif_pos HJL.out, HN.out])
            obtain ⟨goal, hgoal⟩ : ∃ q, q = (l[j]'HJL.out).to := ⟨_, rfl⟩
            obtain ⟨hb, hhb⟩ : ∃ q, q = handB (l[j]'HJL.out).op (l[j]'HJL.out).to n := ⟨_, rfl⟩
            rw [← hhb, ← hgoal] at HAQ
            have C49 : Hid (Calls Tryd.prog 49 #[.slice sa n cap, .int .i64 j] w4 fun e w' => e = .returned (.tuple #[.int .i64 goal, .bool hb]) ∧ Below w4.heap.size w4 w') := Lib.hid (by
              rw [hgoal, hhb, HN.out]
              have := HH4.out
              rw [HN.out] at this
              exact hand49 l _ w4 this j HJL.out)
            have HLE := Lib.hid hlen
            obtain ⟨NN, hNN⟩ : ∃ q, q = (O ++ nextF l j).length := ⟨_, rfl⟩
            rw [← hNN] at HR4 HO4
            have HNN := Lib.hid hNN
            clear hz2 hlen b3m o3 s3 r4 o4 g4 b4 b3 hgoal hhb hNN C17 H2 HO2 B2 X2
            go_wp2_with (at_builtin; refine wpList_append_run rfl _ _ 23 23 rfl rfl rfl HR4.out ?_)
            refine C49.out.mono ?_
            rintro e w5 ⟨rfl, b5⟩
            have hz4 := HX4.out.lt
            have HO5 := Lib.hid (HO4.out.below b5 (fun g hg => (HO4.out.lt g hg).2))
            have HB5 := Lib.hid (HB4.out.trans (b5.mono (by omega)))
            have HX5 := Lib.hid (show Blk w5 m 4 _ from (b5.block m (by omega)).trans HX4.out)
            clear b5 hz4 C49 HH4 HR4 HO4 HB4 HX4
            cases hb with
            | true =>
              obtain ⟨s6, c6, w6, r6, o6, b6⟩ := lit23 HO5.out [goal] (by have := HLE.out; rw [List.length_append]; simp only [List.length_cons, List.length_nil]; omega) (by have := HX5.out.lt; omega)
              have HO6 := Lib.hid o6
              rw [show (O ++ nextF l j) ++ [goal] = O ++ addQ l j by rw [HAQ.out, if_pos rfl, List.append_assoc]] at HO6 r6
              have HR6 := Lib.hid r6
              have HX6 := Lib.hid (show Blk w6 m 4 _ from (b6.block m (by have := HX5.out.lt; omega)).trans HX5.out)
              have HB6 := Lib.hid (HB5.out.trans (b6.mono (by omega)))
              have HMS2 := Lib.hid (oweW_eq HX6.out HN.out)
              have hle2 := addQ_len l j HJL.out
              clear r6 o6 b6 HO5 HB5 HX5
              obtain ⟨N6, hN6⟩ : ∃ q, q = (O ++ addQ l j).length := ⟨_, rfl⟩
              rw [← hN6] at HO6 HR6
              have HN6 := Lib.hid hN6
              have HLE6 : Hid (N6 = N + (addQ l j).length) := Lib.hid (by rw [hN6, List.length_append, HNO.out])
              clear hN6
              go_wp2_with (at_builtin; refine wpList_append_run rfl _ _ 23 23 rfl rfl rfl HR6.out ?_)
              go_roundw
              case rel => exact ⟨k + 1, _, _, _, setB Q j, O ++ addQ l j, by have := HLE6.out; omega, by go_num, rfl, HN6, HO6, HX6, HB6, HQ2, Lib.hid (by have := HN6.out; have := HLE6.out; have := HOW.out; have := HC.out; have := HNO.out; omega)⟩
              case measure => simp only [intOf, lenS]; rw [HMS.out, HMS2.out]; have := HLE6.out; have := HOW.out; omega
            | false =>
              have HO6 := Lib.hid HO5.out
              rw [show O ++ nextF l j = O ++ addQ l j by rw [HAQ.out, if_neg (by simp), List.append_nil]] at HO6
              have HMS2 := Lib.hid (oweW_eq HX5.out HN.out)
              have hle2 := addQ_len l j HJL.out
              have HN6 : Hid (NN = (O ++ addQ l j).length) := Lib.hid (by rw [HNN.out, HAQ.out, if_neg (by simp), List.append_nil])
              have HLE6 : Hid (NN = N + (addQ l j).length) := Lib.hid (by rw [HN6.out, List.length_append, HNO.out])
              clear HO5
              go_wp2_with fail
              go_roundw
              case rel => exact ⟨k + 1, _, _, _, setB Q j, O ++ addQ l j, by have := HLE6.out; omega, by go_num, rfl, HN6, HO6, HX5, HB5, HQ2, Lib.hid (by have := HN6.out; have := HLE6.out; have := HOW.out; have := HC.out; have := HNO.out; omega)⟩
              case measure => simp only [intOf, lenS]; rw [HMS.out, HMS2.out]; have := HLE6.out; have := HOW.out; omega
        · have hkni : ¬ (k : Int) < (N : Int) := by omega
          have HF := Lib.hid (HQ.out.fin (by have := HNO.out; omega))
          have HXF := Lib.hid HX.out
          have HBF := Lib.hid HB.out
          rw [HN.out] at HXF
          go_wp2_with fail
          go_ret
          exact ⟨by rw [← HM.out]; exact HBF.out, m, Q, by rw [← HN.out]; rfl, HXF.out, by rw [← HM.out]; exact Nat.le_refl _, HF.out⟩
end Go.Proofs.YtekfnonjhcfdmaaDoor
