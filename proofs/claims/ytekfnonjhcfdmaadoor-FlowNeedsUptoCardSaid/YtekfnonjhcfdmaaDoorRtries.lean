/- The reference's Tries. -/
import Derived.Test.YtekfnonjhcfdmaaDoorRef2
import Derived.Test.YtekfnonjhcfdmaaDoorTries
import Derived.Test.YtekfnonjhcfdmaaDoorFix1
import Derived.Deep.CutRange
namespace Go.Proofs.YtekfnonjhcfdmaaDoor
open Go.RowKit Go.Rt Go.Rw

def lackW (n g : Nat) (W : World) : Nat := sumN (fun i => match W.cell? ⟨g, i, none⟩ with | some (.bool true) => 0 | _ => 1) n
theorem lackW_eq {n g : Nat} {W : World} {D : Nat → Bool} (h : Blk W g 4 (boolsV n D)) : lackW n g W = lackN D n := by
  unfold lackW lackN
  refine sumN_congr _ fun i hi => ?_
  rw [boolsV_cell h hi]
  cases D i <;> rfl
/-- The entries, the first k. -/
def entK (fr : List Int) (k : Nat) (i : Nat) : Option (List Int) := if (i : Int) ∈ fr.take k then some [] else none
theorem entK_step (fr : List Int) (k i : Nat) (hk : k < fr.length) (he : fr[k] = i) : (fun j => (entK fr (k + 1) j).isSome) = setB (fun j => (entK fr k j).isSome) i := by
  funext j
  unfold entK setB
  rw [List.take_succ_eq_append_getElem hk, he]
  by_cases e : j = i
  · subst e
    simp
  · have e2 : ¬ (j : Int) = (i : Int) := by omega
    rw [if_neg e]
    simp only [List.mem_append, List.mem_singleton, e2, or_false]
/-- The list at a place. -/
theorem TS.list {n g1 g2 g3 B : Nat} {Q : Nat → Option (List Int)} {D : Nat → Bool} {w : World} (h : TS n g1 g2 g3 B Q D w) {i : Nat} (hi : i < n) {t : List Int} (hq : Q i = some t) : ∃ v, w.cell? ⟨g1, i, none⟩ = some v ∧ SlH w B v t := by
  obtain ⟨Vs, h1, h2, h3⟩ := h.lists
  refine ⟨Vs[i]'(by omega), ?_, ?_⟩
  · rw [h2.cell i, List.getElem?_toArray, List.getElem?_eq_getElem]
  · have := h3 i (by omega)
    rwa [hq] at this
theorem TS.ls {n g1 g2 g3 B : Nat} {Q : Nat → Option (List Int)} {D : Nat → Bool} {w : World} (h : TS n g1 g2 g3 B Q D w) (hn : n ≤ 9223372036854775807) : LsAt w ((List.range n).map fun i => (Q i).getD []) (.slice (some ⟨g1, 0, none⟩) n n) := by
  obtain ⟨Vs, h1, h2, h3⟩ := h.lists
  refine ⟨Vs, ?_, by rw [h1]; simp, fun i a b => ?_⟩
  · have := blk_slAt (cap := n) h2 (by rw [h1]; exact hn)
    rwa [h1] at this
  · rw [List.getElem_map, List.getElem_range]
    exact (h3 i a).1
theorem TS.far {n g1 g2 g3 B : Nat} {Q : Nat → Option (List Int)} {D : Nat → Bool} {w w' : World} (h : TS n g1 g2 g3 B Q D w) {v : Value} {L : List Int} (k : SlAt w 1 inC v L) (o : Only [g2, g1] w w') : SlAt w' 1 inC v L := by
  rcases k with k | ⟨b, of, c, e1, h2, h3, h4⟩
  · exact .inl k
  · by_cases h0 : L = []
    · subst h0
      exact .inl ⟨rfl, _, _, e1⟩
    · have hl := List.length_pos_iff.2 h0
      have hc := h4 0 0 hl (by omega)
      simp only [inC, List.getElem?_cons_zero] at hc
      have hb : b ∉ [g2, g1] := by
        intro hm
        simp only [List.mem_cons, List.not_mem_nil, or_false] at hm
        rcases hm with rfl | rfl
        · rw [h.known.cell] at hc
          unfold boolsV at hc
          simp only [List.getElem?_toArray, List.getElem?_map, Option.map_eq_some_iff] at hc
          obtain ⟨_, _, hc⟩ := hc
          cases hc
        · obtain ⟨Vs, _, q2, q3⟩ := h.lists
          rw [q2.cell, List.getElem?_toArray, List.getElem?_eq_some_iff] at hc
          obtain ⟨hi, hc⟩ := hc
          obtain ⟨_, _, _, e, _⟩ := q3 _ hi
          rw [e] at hc
          cases hc
      have hbl := o.block b h3 hb
      refine .inr ⟨b, of, c, e1, h2, Nat.lt_of_lt_of_le h3 o.size, fun i j hi hj => ?_⟩
      rw [← h4 i j hi hj]
      unfold World.cell?
      dsimp only
      rw [hbl]
/-- Behind the handler: none fits, or the search goes on. -/
def HandP (l : List In) (fr : List Int) (n g1 g2 g3 B : Nat) (D : Nat → Bool) (j : Nat) (t L : List Int) (v : Value) (r : Bool) (W : World) : Prop :=
  if r then ¬ ∃ T, Fits l fr T else ∃ Q1, TS n g1 g2 g3 B Q1 D W ∧ TI l fr Q1 D j ∧ Q1 j = some t ∧ SlH W B v L ∧ ∀ (hi : j < l.length) (k : Nat), k < l.length → l[j].op = 28 → l[j].to = k → Q1 k = some t
def HandC (l : List In) (fr : List Int) (n g1 g2 g3 B : Nat) (D : Nat → Bool) (j : Nat) (t L : List Int) (v : Value) (m : Nat) (w : World) (z : Value) (W : World) : Prop :=
  ∃ r : Bool, z = .bool r ∧ Below m w W ∧ HandP l fr n g1 g2 g3 B D j t L v r W
set_option maxRecDepth 100000 in
set_option maxHeartbeats 8000000 in
theorem rtries29 (l : List In) (fr : List Int) (v fv : Value) (w : World) (h : InsAt w l v) (hfv : SlAt w 1 inC fv fr) (hb1 : l.length ≤ 1048576) (hb2 : ∀ x ∈ l, x.cases.length ≤ 1048576) :
    Calls Tryd.prog 29 #[v, fv] w (TrR l fr w) := by
  obtain ⟨_, sa, cap, rfl⟩ := h.form
  obtain ⟨hf0, sf, cf, ef⟩ := hfv.len
  obtain ⟨n, hn⟩ : ∃ n, n = l.length := ⟨_, rfl⟩
  obtain ⟨nf, hnf⟩ : ∃ n, n = fr.length := ⟨_, rfl⟩
  rw [← hnf] at ef
  subst ef
  obtain ⟨m, hm⟩ : ∃ q, q = w.heap.size := ⟨_, rfl⟩
  have C17 := Lib.hid (fun (i : Int) (W : World) (q : Below m w W) => rnext17 l (.slice sa l.length cap) i W (h.keep (by rw [← hm]; exact q)) hb1 hb2)
  have C49 : Hid (∀ (W : World) (_ : Below m w W) (i : Nat) (x : In) (_ : l[i]? = some x), Calls Tryd.prog 49 #[.slice sa l.length cap, .int .i64 i] W fun e w' => e = .returned (.tuple #[.int .i64 x.to, .bool (handB x.op x.to l.length)]) ∧ Below W.heap.size W w') := Lib.hid (fun W q i x hx => by
    obtain ⟨hi, rfl⟩ := List.getElem?_eq_some_iff.1 hx
    exact hand49 l _ W (h.keep (by rw [← hm]; exact q)) i hi)
  rw [← hn] at h hb1 C17 C49 ⊢
  have HH := Lib.hid h
  have HN := Lib.hid hn
  have HNF := Lib.hid hnf
  have HFV := Lib.hid hfv
  have hnf8 : nf ≤ 9223372036854775807 := by omega
  clear h hfv hn hnf hb2
  have mk2 := fun (W : World) => mk47 n (by omega) W
  have mk3 := fun (W : World) => mk26 n (by omega) W
  have Z1 := World.size_alloc w (.cells (Array.replicate n (.slice none 0 0)) 23)
  have Z2 := World.size_alloc (w.alloc (.cells (Array.replicate n (.slice none 0 0)) 23)) (.cells (Array.replicate n (.bool false)) 4)
  have X1 := Lib.hid ((Blk.new w 23 (Array.replicate n (.slice none 0 0))).alloc (.cells (Array.replicate n (.bool false)) 4))
  have X2 := Lib.hid (Blk.new (w.alloc (.cells (Array.replicate n (.slice none 0 0)) 23)) 4 (Array.replicate n (.bool false)))
  rw [Z1] at X2
  have B := Lib.hid (((Below.refl w.heap.size w).alloc (Nat.le_refl _) (.cells (Array.replicate n (.slice none 0 0)) 23)).alloc (by rw [Z1]; omega) (.cells (Array.replicate n (.bool false)) 4))
  rw [Z1] at Z2
  rw [← hm] at X1 X2 B Z2
  have HZ := Lib.hid Z2
  have HM := Lib.hid hm
  clear Z1 Z2
  go_enter Tryd.func29, Tryd.ntmps29
  go_upto_region 3 with fail
  rw [← hm]
  generalize (w.alloc (.cells (Array.replicate n (.slice none 0 0)) 23)).alloc (.cells (Array.replicate n (.bool false)) 4) = w1 at X1 X2 B HZ ⊢
  clear hm
  have K2 : Hid (Blk w1 (m + 1) 4 (boolsV n fun j => (entK fr 0 j).isSome)) := Lib.hid (by
    have := blk_replicate X2.out
    have e : (fun j => (entK fr 0 j).isSome) = fun _ => false := by
      funext j
      simp [entK]
    rw [e]
    simpa [boolsV, List.map_const'] using this)
  clear X2
  go_wp2_with fail
  go_loopw [8] (fun z wr => ∃ (k : Nat), k ≤ nf ∧ z = .int .i64 (k : Int) ∧ Hid (Blk wr m 23 (Array.replicate n (.slice none 0 0))) ∧ Hid (Blk wr (m + 1) 4 (boolsV n fun j => (entK fr k j).isSome)) ∧ Hid (Below m w wr) ∧ Hid (∀ i (hi : i < fr.length), i < k → inR l fr[i] = true)) (fun z _ => nf - (intOf z).toNat)
  case atStart => exact ⟨0, Nat.zero_le _, rfl, X1, K2, B, Lib.hid (fun _ _ h => by omega)⟩
  case round =>
    obtain ⟨k, hk, rfl, HX1, HX2, HB, HE⟩ := hrel
    clear X1 K2 B
    by_cases hkn : k < nf
    · as_aux_lemma =>
      have hkni : (k : Int) < (nf : Int) := by omega
      have hkl : k < fr.length := by rw [← HNF.out]; exact hkn
      obtain ⟨bf, of, rfl, hbf, hcf⟩ := HFV.out.get (by omega)
      have ck := (HB.out.cell (p := ⟨bf, of + k * 1 + 0, none⟩) (by rw [HM.out]; exact hbf)).trans (hcf k 0 hkl (by omega))
      obtain ⟨x, hx⟩ : ∃ x, x = fr[k] := ⟨_, rfl⟩
      rw [← hx] at ck
      simp only [inC, List.getElem?_cons_zero, Nat.add_zero, Nat.mul_one] at ck
      have HXE := Lib.hid hx
      have HKL := Lib.hid hkl
      have HXM : Hid (x ∈ fr) := Lib.hid (by rw [hx]; exact List.getElem_mem _)
      clear hx hbf hcf
      by_cases hr0 : 0 ≤ x
      · by_cases hrn : x < (n : Int)
        · obtain ⟨i, rfl⟩ : ∃ i : Nat, x = i := ⟨x.toNat, by omega⟩
          have hin : i < n := by omega
          have qk := boolsV_cell HX2.out hin
          have fk := HX2.out.frozen i
          have HX2' := Lib.hid (HX2.out.set_ i (.bool true))
          rw [← boolsV_set _ n i hin, ← entK_step fr k i HKL.out HXE.out.symm] at HX2'
          have HX1' := Lib.hid (HX1.out.far (p := ⟨m + 1, i, none⟩) (show m ≠ m + 1 by omega) (.bool true))
          have HB' := Lib.hid (HB.out.setCell (p := ⟨m + 1, i, none⟩) (Nat.le_succ m) (.bool true))
          have HE' : Hid (∀ q (hi : q < fr.length), q < k + 1 → inR l fr[q] = true) := Lib.hid (fun q hq hqk => by
            rcases Nat.lt_succ_iff_lt_or_eq.1 hqk with e | e
            · exact HE.out q hq e
            · subst e
              rw [← HXE.out]
              unfold inR
              rw [← HN.out, decide_eq_true hr0, decide_eq_true hrn]
              rfl)
          clear HX1 HX2 HB HE HXE HXM HKL
          obtain ⟨bv, hbv⟩ : ∃ q, q = (entK fr k i).isSome := ⟨_, rfl⟩
          rw [← hbv] at qk
          clear hbv
          go_wp2_with fail
          go_roundw
          case rel => exact ⟨k + 1, by omega, by go_num, HX1', HX2', HB', HE'⟩
          case measure => simp [intOf]; omega
        · have HNO : Hid (triesF l fr = ([], 2)) := Lib.hid (triesF_arg HXM.out (by unfold inR; rw [← HN.out, decide_eq_false hrn, Bool.and_false]))
          clear HX1 HX2 HE HXE HXM HKL
          go_wp2_with fail
          exact bodyPost_ret (results_tt (a := 4) (b := 5) rfl _ _ _ _ rfl rfl) rfl ⟨by rw [← HM.out]; exact HB.out, .slice none 0 0, [], 2, rfl, ⟨[], .inl ⟨rfl, none, 0, rfl⟩, rfl, fun i a => by simp at a⟩, HNO.out⟩
      · have HNO : Hid (triesF l fr = ([], 2)) := Lib.hid (triesF_arg HXM.out (by unfold inR; rw [decide_eq_false hr0, Bool.false_and]))
        clear HX1 HX2 HE HXE HXM HKL
        go_wp2_with fail
        exact bodyPost_ret (results_tt (a := 4) (b := 5) rfl _ _ _ _ rfl rfl) rfl ⟨by rw [← HM.out]; exact HB.out, .slice none 0 0, [], 2, rfl, ⟨[], .inl ⟨rfl, none, 0, rfl⟩, rfl, fun i a => by simp at a⟩, HNO.out⟩
    · as_aux_lemma =>
      have hkni : ¬ (k : Int) < (nf : Int) := by omega
      have hke : k = fr.length := by rw [← HNF.out]; omega
      subst hke
      have HEA : Hid (∀ x, x ∈ fr → inR l x = true) := Lib.hid (fun x hx => by
        obtain ⟨i, hi, rfl⟩ := List.getElem_of_mem hx
        exact HE.out i hi hi)
      obtain ⟨Q0, hQ0⟩ : ∃ q, q = entK fr fr.length := ⟨_, rfl⟩
      have HTI : Hid (TI l fr Q0 (fun _ => false) (-1)) := Lib.hid (by
        rw [hQ0]
        refine TI.start l fr _ (fun i t hi => ?_) (fun i hi hl => ?_)
        · unfold entK at hi
          rw [List.take_length] at hi
          split at hi
          · rename_i hm
            cases hi
            have := HEA.out _ hm
            unfold inR at this
            simp only [Bool.and_eq_true, decide_eq_true_eq] at this
            exact ⟨rfl, by omega, hm⟩
          · cases hi
        · unfold entK
          rw [List.take_length, if_pos hi])
      rw [← hQ0] at HX2
      obtain ⟨g3, hg3⟩ : ∃ q, q = wr.heap.size := ⟨_, rfl⟩
      have hl2 := HX2.out.lt
      have HTS : Hid (TS n m (m + 1) g3 (g3 + 1) Q0 (fun _ => false) (wr.alloc (.cells (Array.replicate n (.bool false)) 4))) := Lib.hid (by
        refine ⟨HX2.out.alloc _, ?_, ⟨List.replicate n (.slice none 0 0), by simp, blk_replicate (HX1.out.alloc _), fun i hi => ?_⟩, by rw [World.size_alloc, ← hg3]; omega⟩
        · have := blk_replicate (Blk.new wr 4 (Array.replicate n (.bool false)))
          rw [← hg3] at this
          simpa [boolsV, List.map_const'] using this
        · rw [List.getElem_replicate]
          have e : (Q0 i).getD [] = [] := by
            rw [hQ0]
            unfold entK
            split <;> rfl
          rw [e]
          exact SlH.nil _ _)
      have HB2 := Lib.hid (HB.out.alloc (by omega) (.cells (Array.replicate n (.bool false)) 4))
      have HLT : Hid (m + 1 < g3) := Lib.hid (by rw [hg3]; exact hl2)
      clear hl2 hQ0 HX1 HX2 HB HE
      go_upto_region 10 with fail
      rw [← hg3]
      generalize wr.alloc (.cells (Array.replicate n (.bool false)) 4) = w2 at HTS HB2 ⊢
      clear hg3 mk2 mk3
      go_loopw [10] (fun _ wr => ∃ (Q : Nat → Option (List Int)) (D : Nat → Bool), Hid (TS n m (m + 1) g3 (g3 + 1) Q D wr) ∧ Hid (TI l fr Q D (-1)) ∧ Hid (Below m w wr)) (fun _ W => lackW n g3 W)
      case atStart => exact ⟨Q0, fun _ => false, HTS, HTI, HB2⟩
      case round =>
        obtain ⟨Q, D, HT, HI, HB⟩ := hrel
        clear HTS HTI HB2
        obtain ⟨wS, hwS⟩ : ∃ q, q = wr := ⟨_, rfl⟩
        have HMS := Lib.hid (lackW_eq HT.out.dn)
        rw [← hwS] at HT HB HMS ⊢
        clear hwS
        go_wp2_with fail
        go_loopw [10] (fun z W => ∃ (i : Nat), i ≤ n ∧ z = .int .i64 (i : Int) ∧ Hid (∀ k, k < i → Q k = none ∨ D k = true) ∧ wS = W) (fun z _ => n - (intOf z).toNat)
        case atStart => exact ⟨0, Nat.zero_le _, rfl, Lib.hid (fun _ h => by omega), rfl⟩
        case round =>
          obtain ⟨j, hj, rfl, HP, rfl⟩ := hrel
          by_cases hjn : j < n
          · have hjni : (j : Int) < (n : Int) := by omega
            have hnjj : ¬ (j : Int) = (n : Int) := by omega
            have qk := boolsV_cell HT.out.known hjn
            have qd := boolsV_cell HT.out.dn hjn
            have fd := HT.out.dn.frozen j
            cases hq : Q j with
            | none =>
              rw [hq] at qk
              simp only [Option.isSome_none] at qk
              have HP2 : Hid (∀ k, k < j + 1 → Q k = none ∨ D k = true) := Lib.hid (fun k hk => by
                rcases Nat.lt_succ_iff_lt_or_eq.1 hk with e | rfl
                · exact HP.out k e
                · exact .inl hq)
              clear hq HP qd fd
              go_wp2_with fail
              go_roundw
              case rel => exact ⟨j + 1, by omega, by go_num, HP2, trivial⟩
              case measure => simp [intOf]; omega
            | some t =>
              rw [hq] at qk
              simp only [Option.isSome_some] at qk
              cases hd : D j with
              | true =>
                rw [hd] at qd
                have HP2 : Hid (∀ k, k < j + 1 → Q k = none ∨ D k = true) := Lib.hid (fun k hk => by
                  rcases Nat.lt_succ_iff_lt_or_eq.1 hk with e | rfl
                  · exact HP.out k e
                  · exact .inr hd)
                clear hq hd HP fd
                go_wp2_with fail
                go_roundw
                case rel => exact ⟨j + 1, by omega, by go_num, HP2, trivial⟩
                case measure => simp [intOf]; omega
              | false =>
                rw [hd] at qd
                have hjl : j < l.length := by rw [← HN.out]; exact hjn
                obtain ⟨HI1', hct⟩ := HI.out.mark hjl hq hd
                have HI1 := Lib.hid HI1'
                have HCT := Lib.hid hct
                have HT1 := Lib.hid (HT.out.mark hjn)
                have HLK := Lib.hid (lackN_mark hjl hd)
                have HB1 := Lib.hid (HB.out.setCell (p := ⟨g3, j, none⟩) (show m ≤ g3 by have := HLT.out; omega) (.bool true))
                have HQJ := Lib.hid hq
                clear hq hd HP HI HT HB HI1' hct
                go_upto_region 16 with fail
                clear qk qd fd
                generalize wS.setCell ⟨g3, j, none⟩ (.bool true) = wS at HT1 HB1 ⊢
                obtain ⟨b, o, rfl, hb, hc⟩ := HH.out.get (by omega)
                obtain ⟨f, hf, hfa, hcell⟩ := hc j hjl
                have HFX : Hid (l[j]? = some f.x) := Lib.hid (by rw [List.getElem?_eq_getElem hjl, hf])
                have HFG := Lib.hid hf
                have HZS : Hid (g3 + 1 ≤ wS.heap.size) := Lib.hid HT1.out.lt.2.2.2.2.2.2
                have HUP : Hid (∀ W, Below wS.heap.size wS W → Below m w W) := Lib.hid (fun W hW => HB1.out.trans (hW.mono (by have := HZS.out; have := HLT.out; omega)))
                have HCI : Hid (∀ W, Below wS.heap.size wS W → ∀ t, t < 10 → W.cell? ⟨b, o + j * 10 + t, none⟩ = (imC f)[t]?) := Lib.hid (fun W hW t ht => by rw [← hcell t ht]; exact (HUP.out W hW).cell (p := ⟨b, _, none⟩) (by rw [HM.out]; exact hb))
                have HFA : Hid (∀ W, Below wS.heap.size wS W → ImAt W f) := Lib.hid (fun W hW => hfa.keep (by rw [← HM.out]; exact HUP.out W hW))
                obtain ⟨u, hu1, hu2⟩ := HT1.out.list hjn HQJ.out
                obtain ⟨su, cu, eu, _⟩ := hu2.2
                subst eu
                have HCV : Hid (∀ W, Below wS.heap.size wS W → W.cell? ⟨m, j, none⟩ = some (.slice su t.length cu)) := Lib.hid (fun W hW => (hW.cell (p := ⟨m, j, none⟩) (show m < _ by have := HZS.out; have := HLT.out; omega)).trans hu1)
                have HUV := Lib.hid (fun W (hW : Below wS.heap.size wS W) => hu2.keep hW)
                have HTB : Hid (t.length + 1 ≤ 1048576) := Lib.hid (by have := HCT.out; have := HN.out; omega)
                have C50 : Hid (∀ W, Below wS.heap.size wS W → Calls Tryd.prog 50 #[imV f, .slice su t.length cu] W (AfR (g3 + 1) (aftF f.x t) W)) := Lib.hid (fun W hW => after50 f (g3 + 1) _ t W (HFA.out W hW) (HUV.out W hW) (Nat.le_trans HZS.out hW.size) (by have := HTB.out; omega))
                unfold imV at C50
                clear hc hcell hf hfa hb hu1 hu2
                obtain ⟨nt, hnt⟩ : ∃ q, q = t.length := ⟨_, rfl⟩
                rw [← hnt] at C50 HCV HUV
                have HNT := Lib.hid hnt
                clear hnt
                refine wp_region_held_drew (S := (fun w' => Below wS.heap.size wS w')) (by kernel_rfl) ((Below.refl _ _).drew) (fun hS => ?_)
                have HBD := Lib.hid (Below.refl wS.heap.size wS).drew
                generalize wS.drew = w0 at *
                refine tk (i := 0) (v := ?_) rfl (by rfl) ?_ (by assumption) ?_
                rotate_left
                · intro w hSw
                  go_simp
                  with_reducible rfl
                change wpAnyH _ _ _ _ _ _ _ (Act.put _ (some 80) _) _
                simp only [Act.put, List.setIfInBounds_toArray, List.set_cons_zero, List.set_cons_succ]
                refine tk (i := 1) (v := ?_) rfl (by rfl) ?_ (by assumption) ?_
                rotate_left
                · intro w hSw
                  go_simp
                  with_reducible rfl
                change wpAnyH _ _ _ _ _ _ _ (Act.put _ (some 81) _) _
                simp only [Act.put, List.setIfInBounds_toArray, List.set_cons_zero, List.set_cons_succ]
                refine tk (i := 2) (v := ?_) rfl (by rfl) ?_ (by assumption) ?_
                rotate_left
                · intro w hSw
                  go_simp
                  with_reducible rfl
                change wpAnyH _ _ _ _ _ _ _ (Act.put _ (some 82) _) _
                simp only [Act.put, List.setIfInBounds_toArray, List.set_cons_zero, List.set_cons_succ]
                refine tk (i := 3) (v := ?_) rfl (by rfl) ?_ (by assumption) ?_
                rotate_left
                · intro w hSw
                  obtain ⟨e0, e1, e2, e3, e4, e5, e6, e7, e8, e9⟩ := cells10 (HCI.out _ hSw)
                  go_simp
                  with_reducible rfl
                change wpAnyH _ _ _ _ _ _ _ (Act.put _ (some 83) _) _
                simp only [Act.put, List.setIfInBounds_toArray, List.set_cons_zero, List.set_cons_succ]
                refine tk (i := 4) (v := ?_) rfl (by rfl) ?_ (by assumption) ?_
                rotate_left
                · intro w hSw
                  go_simp
                  with_reducible rfl
                change wpAnyH _ _ _ _ _ _ _ (Act.put _ (some 84) _) _
                simp only [Act.put, List.setIfInBounds_toArray, List.set_cons_zero, List.set_cons_succ]
                refine tk (i := 5) (v := ?_) rfl (by rfl) ?_ (by assumption) ?_
                rotate_left
                · intro w hSw
                  go_simp
                  with_reducible rfl
                change wpAnyH _ _ _ _ _ _ _ (Act.put _ (some 85) _) _
                simp only [Act.put, List.setIfInBounds_toArray, List.set_cons_zero, List.set_cons_succ]
                refine tk (i := 6) (v := ?_) rfl (by rfl) ?_ (by assumption) ?_
                rotate_left
                · intro w hSw
                  go_simp
                  with_reducible rfl
                change wpAnyH _ _ _ _ _ _ _ (Act.put _ (some 86) _) _
                simp only [Act.put, List.setIfInBounds_toArray, List.set_cons_zero, List.set_cons_succ]
                refine tk (i := 7) (v := ?_) rfl (by rfl) ?_ (by assumption) ?_
                rotate_left
                · intro w hSw
                  have cc := HCV.out _ hSw
                  go_simp
                  with_reducible rfl
                change wpAnyH _ _ _ _ _ _ _ (Act.put _ (some 87) _) _
                simp only [Act.put, List.setIfInBounds_toArray, List.set_cons_zero, List.set_cons_succ]
                refine wpAnyH_ready (rs := [8]) (by kernel_rfl) (by simp) ?_
                refine AllReadyH.cons rfl (fun K hK => ?_) AllReadyH.nil
                go_simp
                refine (C50.out w0 HBD.out).mono ?_
                rintro e w1 ⟨b1, v1, r1, rfl, hres⟩
                have HRES := Lib.hid hres
                replace HBD := Lib.hid (HBD.out.trans (b1.mono HBD.out.size))
                clear b1 hres
                go_wp2_with fail
                refine hK.out _ _ (HBD.out) (fun hS => ?_)
                clear hK K
                try simp only [Act.put, List.setIfInBounds_toArray, List.set_cons_zero, List.set_cons_succ]
                refine tk (i := 9) (v := ?_) rfl (by rfl) ?_ (by assumption) ?_
                rotate_left
                · intro w hSw
                  go_simp
                  with_reducible rfl
                change wpAnyH _ _ _ _ _ _ _ (Act.put _ (some 79) _) _
                simp only [Act.put, List.setIfInBounds_toArray, List.set_cons_zero, List.set_cons_succ]
                refine tk (i := 10) (v := ?_) rfl (by rfl) ?_ (by assumption) ?_
                rotate_left
                · intro w hSw
                  go_simp
                  with_reducible rfl
                change wpAnyH _ _ _ _ _ _ _ (Act.put _ (some 89) _) _
                simp only [Act.put, List.setIfInBounds_toArray, List.set_cons_zero, List.set_cons_succ]
                refine tk (i := 11) (v := ?_) rfl (by rfl) ?_ (by assumption) ?_
                rotate_left
                · intro w hSw
                  go_simp
                  with_reducible rfl
                change wpAnyH _ _ _ _ _ _ _ (Act.put _ (some 90) _) _
                simp only [Act.put, List.setIfInBounds_toArray, List.set_cons_zero, List.set_cons_succ]
                refine tk (i := 12) (v := ?_) rfl (by rfl) ?_ (by assumption) ?_
                rotate_left
                · intro w hSw
                  go_simp
                  with_reducible rfl
                change wpAnyH _ _ _ _ _ _ _ (Act.put _ (some 11) _) _
                simp only [Act.put, List.setIfInBounds_toArray, List.set_cons_zero, List.set_cons_succ]
                refine tk (i := 13) (v := ?_) rfl (by rfl) ?_ (by assumption) ?_
                rotate_left
                · intro w hSw
                  go_simp
                  with_reducible rfl
                change wpAnyH _ _ _ _ _ _ _ (Act.put _ (some 12) _) _
                simp only [Act.put, List.setIfInBounds_toArray, List.set_cons_zero, List.set_cons_succ]
                refine wpAnyH_done (by kernel_rfl) ?_ _
                cases r1 with
                | false =>
                  have hno : aftF f.x t = none := by
                    rcases HRES.out with ⟨e, _⟩ | ⟨_, e⟩
                    · cases e
                    · exact e
                  have HNO : Hid (triesF l fr = ([], 182)) := Lib.hid (triesF_try HEA.out (Forced.shut hjl (HI1.out.forced j t HQJ.out) (by rw [HFG.out] at hno; exact hno)))
                  have HB := Lib.hid (HUP.out w1 HBD.out)
                  clear hno HRES
                  go_wp2_with fail
                  exact bodyPost_ret (results_tt (a := 4) (b := 5) rfl _ _ _ _ rfl rfl) rfl ⟨by rw [← HM.out]; exact HB.out, .slice none 0 0, [], 182, rfl, ⟨[], .inl ⟨rfl, none, 0, rfl⟩, rfl, fun i a => by simp at a⟩, HNO.out⟩
                | true =>
                  obtain ⟨L, hL, hv⟩ : ∃ L, aftF f.x t = some L ∧ SlH w1 (g3 + 1) v1 L := by
                    rcases HRES.out with ⟨_, h⟩ | ⟨e, _⟩
                    · exact h
                    · cases e
                  have HL := Lib.hid hL
                  have HV := Lib.hid hv
                  clear hL hv HRES
                  have C49' := Lib.hid (C49.out w1 (HUP.out w1 HBD.out) j f.x HFX.out)
                  obtain ⟨goal, hgoal⟩ : ∃ q, q = f.x.to := ⟨_, rfl⟩
                  obtain ⟨hb, hhb⟩ : ∃ q, q = handB f.x.op f.x.to n := ⟨_, rfl⟩
                  rw [← hhb, ← hgoal] at C49'
                  have HGO := Lib.hid hgoal
                  have HHB := Lib.hid hhb
                  clear hgoal hhb
                  have HHX : Hid (f.x = l[j]) := Lib.hid HFG.out
                  go_wp2_with fail
                  refine C49'.out.mono ?_
                  rintro e w3 ⟨rfl, b3⟩
                  have HBE := Lib.hid (HBD.out.trans (b3.mono HBD.out.size))
                  have HV3 := Lib.hid (HV.out.keep b3)
                  have HT3 := Lib.hid (HT1.out.keep HBE.out)
                  have HB3 := Lib.hid (HUP.out w3 HBE.out)
                  have q3 := HCV.out w3 HBE.out
                  have HU3 := Lib.hid (HUV.out w3 HBE.out)
                  clear b3 C49' HBD HV HT1 HCV HUV HCI HFA C50 HUP HBE HB1
                  go_upto_region 20 with fail
                  go_cut [110] from 99 to 128 (fun z wx => HandC l fr n m (m + 1) g3 (g3 + 1) (setB D j) j t L v1 m w z wx)
                  case first =>
                    cases hb with
                    | false =>
                      have HP0 : Hid (HandP l fr n m (m + 1) g3 (g3 + 1) (setB D j) j t L v1 false w3) := Lib.hid (by
                        unfold HandP
                        rw [if_neg (by simp)]
                        refine ⟨Q, HT3.out, HI1.out, HQJ.out, HV3.out, fun hi k hk h1 h2 => ?_⟩
                        have := HHB.out
                        rw [HHX.out, h1, h2, HN.out] at this
                        unfold handB at this
                        simp [hk] at this)
                      clear q3
                      go_wp2_with fail
                      go_meet
                      exact ⟨false, rfl, HB3.out, HP0.out⟩
                    | true =>
                      obtain ⟨k, hk, hkn, h28⟩ : ∃ k : Nat, goal = k ∧ k < n ∧ f.x.op = 28 := by
                        have h1 := HHB.out
                        unfold handB at h1
                        rw [← HGO.out] at h1
                        have h2 := h1.symm
                        simp only [Bool.and_eq_true, decide_eq_true_eq] at h2
                        exact ⟨goal.toNat, by omega, by omega, h2.1⟩
                      subst hk
                      have HFK : Hid (Forced l fr k t) := Lib.hid (Forced.hand hjl (HI1.out.forced j t HQJ.out) (by rw [← HN.out]; exact hkn) (by rw [← HHX.out]; exact h28) (by rw [← HHX.out]; exact HGO.out.symm))
                      have CP := Lib.hid (pass51 n m (m + 1) g3 (g3 + 1) Q (setB D j) k _ t w3 HT3.out hkn HU3.out (by omega))
                      have HKN := Lib.hid hkn
                      clear hkn h28
                      go_wp2_with fail
                      refine CP.out.mono ?_
                      rintro e w4 ⟨rfl, T4, o4⟩
                      have HT4 := Lib.hid T4
                      have HB4 := Lib.hid (HB3.out.trans (o4.below (n := m) (by intro r hr; simp at hr; omega) (by have := HB3.out.size; have := HM.out; omega)))
                      have HV4 := Lib.hid (HV3.out.only o4 (by intro r hr; simp at hr; have := HLT.out; omega))
                      clear o4 T4 CP HT3 HV3 HB3 HU3 q3
                      obtain ⟨p, hp⟩ : ∃ p, (passG Q k t).1 = p := ⟨_, rfl⟩
                      rw [hp]
                      cases p with
                      | false =>
                        have HP0 : Hid (HandP l fr n m (m + 1) g3 (g3 + 1) (setB D j) j t L v1 true w4) := Lib.hid (by
                          unfold HandP
                          rw [if_pos rfl]
                          exact HI1.out.no HFK.out hp)
                        clear hp
                        go_wp2_with fail
                        go_meet
                        exact ⟨true, rfl, HB4.out, HP0.out⟩
                      | true =>
                        have HP0 : Hid (HandP l fr n m (m + 1) g3 (g3 + 1) (setB D j) j t L v1 false w4) := Lib.hid (by
                          obtain ⟨y1, y2⟩ := HI1.out.yes HFK.out (by have := HCT.out; omega) hp
                          unfold HandP
                          rw [if_neg (by simp)]
                          refine ⟨_, HT4.out, y1, passG_le Q k t _ _ HQJ.out, HV4.out, fun hi k2 hk2 h1 h2 => ?_⟩
                          rw [← HHX.out, ← HGO.out] at h2
                          obtain rfl : k = k2 := by omega
                          exact y2)
                        clear hp
                        go_wp2_with fail
                        go_meet
                        exact ⟨false, rfl, HB4.out, HP0.out⟩
                  case rest =>
                    obtain ⟨r, rfl, hb4, hp4⟩ := hcut
                    have HB := Lib.hid hb4
                    clear HV3 HT3 HB3 HU3 q3 hb4
                    cases r with
                    | true =>
                      unfold HandP at hp4
                      rw [if_pos rfl] at hp4
                      have HNO : Hid (triesF l fr = ([], 182)) := Lib.hid (triesF_try HEA.out hp4)
                      clear hp4
                      go_wp2_with fail
                      exact bodyPost_ret (results_tt (a := 4) (b := 5) rfl _ _ _ _ rfl rfl) rfl ⟨by rw [← HM.out]; exact HB.out, .slice none 0 0, [], 182, rfl, ⟨[], .inl ⟨rfl, none, 0, rfl⟩, rfl, fun i a => by simp at a⟩, HNO.out⟩
                    | false =>
                      unfold HandP at hp4
                      rw [if_neg (by simp)] at hp4
                      obtain ⟨Q1, t1, i1, q1, v1', hand1⟩ := hp4
                      have HT1 := Lib.hid t1
                      have HI := Lib.hid i1
                      have HQ1 := Lib.hid q1
                      have HV1 := Lib.hid v1'
                      have HH1 := Lib.hid hand1
                      have CN := Lib.hid (C17.out (j : Int) wc HB.out)
                      clear t1 i1 q1 v1' hand1 HI1
                      go_wp2_with fail
                      refine CN.out.mono ?_
                      rintro e w5 ⟨b5, u5, rfl, s5⟩
                      have HT5 := Lib.hid (HT1.out.keep b5)
                      have HV5 := Lib.hid (HV1.out.keep b5)
                      have HB5 := Lib.hid (HB.out.trans (b5.mono (by have := HB.out.size; have := HM.out; omega)))
                      obtain ⟨sn, cn, en, _⟩ := s5.2
                      subst en
                      have HS5 := Lib.hid s5.1
                      obtain ⟨NX, hNX⟩ : ∃ q, q = nextF l j := ⟨_, rfl⟩
                      rw [← hNX] at HS5 ⊢
                      have HNX := Lib.hid hNX
                      obtain ⟨N, hN⟩ : ∃ q, q = NX.length := ⟨_, rfl⟩
                      rw [← hN] at HS5 ⊢
                      have HNN := Lib.hid hN
                      have hN8 : N ≤ 9223372036854775807 := by have := HS5.out.len.1; omega
                      clear b5 s5 hNX hN CN HT1 HV1 HB
                      go_wp2_with fail
                      go_loopw [16] (fun z W => ∃ (k : Nat) (Q2 : Nat → Option (List Int)), k ≤ N ∧ z = .int .i64 (k : Int) ∧ Hid (TS n m (m + 1) g3 (g3 + 1) Q2 (setB D j) W) ∧ Hid (TI l fr Q2 (setB D j) j) ∧ Hid (LeQ Q1 Q2) ∧ Hid (∀ i (hi : i < NX.length), i < k → ∀ q : Nat, NX[i] = q → Q2 q = some L) ∧ Hid (SlAt W 1 inC (.slice sn N cn) NX) ∧ Hid (SlH W (g3 + 1) v1 L) ∧ Hid (Below m w W)) (fun z _ => N - (intOf z).toNat)
                      case atStart => exact ⟨0, Q1, Nat.zero_le _, rfl, HT5, HI, Lib.hid (LeQ.refl _), Lib.hid (fun _ _ h => by omega), HS5, HV5, HB5⟩
                      case round =>
                        obtain ⟨k, Q2, hk, rfl, HT, HI2, HLQ, HDN, HS, HV, HB⟩ := hrel
                        clear HT5 HI HS5 HV5 HB5
                        by_cases hkn : k < N
                        · have hkni : (k : Int) < (N : Int) := by omega
                          have hkl : k < NX.length := by rw [← HNN.out]; exact hkn
                          obtain ⟨bn, on_, rfl, hbn, hcn⟩ := HS.out.get (by omega)
                          obtain ⟨x, hx⟩ : ∃ x, x = NX[k] := ⟨_, rfl⟩
                          have ck := hcn k 0 hkl (by omega)
                          rw [← hx] at ck
                          simp only [inC, List.getElem?_cons_zero, Nat.add_zero, Nat.mul_one] at ck
                          have hmem : x ∈ nextF l j := by rw [← HNX.out, hx]; exact List.getElem_mem _
                          obtain ⟨⟨hx0, hxn⟩, hxt⟩ := (mem_nextF l j hjl x).1 hmem
                          obtain ⟨q, rfl⟩ : ∃ q : Nat, x = q := ⟨x.toNat, by omega⟩
                          have hqn : q < n := by rw [HN.out]; omega
                          have HFQ : Hid (Forced l fr q L) := Lib.hid (Forced.step hjl (HI2.out.forced j t (HLQ.out _ _ HQ1.out)) (by rw [← HHX.out]; exact HL.out) (by omega) hxt)
                          have CP := Lib.hid (pass51 n m (m + 1) g3 (g3 + 1) Q2 (setB D j) q _ L wr HT.out hqn HV.out (by omega))
                          have HXK := Lib.hid hx
                          clear hx hmem hx0 hxn hxt hbn hcn
                          go_wp2_with fail
                          refine CP.out.mono ?_
                          rintro e w6 ⟨rfl, T6, o6⟩
                          have HB6 := Lib.hid (HB.out.trans (o6.below (n := m) (by intro r hr; simp at hr; omega) (by have := HB.out.size; have := HM.out; omega)))
                          have HV6 := Lib.hid (HV.out.only o6 (by intro r hr; simp at hr; have := HLT.out; omega))
                          have HS6 := Lib.hid (HT.out.far HS.out o6)
                          have HT6 := Lib.hid T6
                          clear o6 T6 CP HT HS HV HB ck
                          obtain ⟨p, hp⟩ : ∃ p, (passG Q2 q L).1 = p := ⟨_, rfl⟩
                          rw [hp]
                          cases p with
                          | false =>
                            have HNO : Hid (triesF l fr = ([], 182)) := Lib.hid (triesF_try HEA.out (HI2.out.no HFQ.out hp))
                            have HB := HB6
                            clear hp
                            go_wp2_with fail
                            exact bodyPost_ret (results_tt (a := 4) (b := 5) rfl _ _ _ _ rfl rfl) rfl ⟨by rw [← HM.out]; exact HB.out, .slice none 0 0, [], 182, rfl, ⟨[], .inl ⟨rfl, none, 0, rfl⟩, rfl, fun i a => by simp at a⟩, HNO.out⟩
                          | true =>
                            have hy := HI2.out.yes HFQ.out (by
                              have h1 := HL.out
                              have := HCT.out
                              unfold aftF at h1
                              split at h1
                              · cases h1
                                simp only [List.length_append, List.length_cons, List.length_nil]
                                omega
                              · split at h1
                                · split at h1
                                  · cases h1
                                  · cases h1
                                    rw [List.length_dropLast]
                                    omega
                                · cases h1
                                  omega) hp
                            have HI7 := Lib.hid hy.1
                            have HLQ7 : Hid (LeQ Q1 (passG Q2 q L).2) := Lib.hid (HLQ.out.trans (passG_le Q2 q L))
                            have HDN7 : Hid (∀ i (hi : i < NX.length), i < k + 1 → ∀ q' : Nat, NX[i] = q' → (passG Q2 q L).2 q' = some L) := Lib.hid (fun i hi hik q' hq' => by
                              rcases Nat.lt_succ_iff_lt_or_eq.1 hik with e | e
                              · exact passG_le Q2 q L _ _ (HDN.out i hi e q' hq')
                              · subst e
                                rw [← HXK.out] at hq'
                                obtain rfl : q = q' := by omega
                                exact hy.2)
                            clear hp hy
                            go_wp2_with fail
                            go_roundw
                            case rel => exact ⟨k + 1, _, by omega, by go_num, HT6, HI7, HLQ7, HDN7, HS6, HV6, HB6⟩
                            case measure => simp [intOf]; omega
                        · have hkni : ¬ (k : Int) < (N : Int) := by omega
                          have HDO : Hid (TI l fr Q2 (setB D j) (-1)) := Lib.hid (HI2.out.done (HLQ.out _ _ HQ1.out) (fun hi => ⟨fun k2 hk2 h1 h2 => HLQ.out _ _ (HH1.out hi k2 hk2 h1 h2), L, by rw [← HHX.out]; exact HL.out, fun k2 hk2 hm => by
                            have hmem : (k2 : Int) ∈ nextF l j := (mem_nextF l j hi k2).2 ⟨⟨by omega, by omega⟩, hm⟩
                            rw [← HNX.out] at hmem
                            obtain ⟨i, hil, e⟩ := List.getElem_of_mem hmem
                            exact HDN.out i hil (by have := HNN.out; omega) k2 e⟩))
                          have HM2 := Lib.hid (lackW_eq HT.out.dn)
                          go_wp2_with fail
                          go_roundw
                          case rel => exact ⟨Q2, setB D j, HT, HDO, HB⟩
                          case measure => rw [HM2.out, HMS.out]; have := HLK.out; rw [← HN.out] at this; omega
          · have hjni : ¬ (j : Int) < (n : Int) := by omega
            have hke : n = j := by omega
            subst hke
            have HSH := Lib.hid (triesF_shut HEA.out (HI.out.shut (fun i hi => HP.out i (by rw [HN.out]; exact hi))))
            have HLS := Lib.hid (HT.out.ls (by omega))
            rw [← HN.out] at HSH
            go_wp2_with fail
            exact bodyPost_ret (results_tt (a := 4) (b := 5) rfl _ _ _ _ rfl rfl) rfl ⟨by rw [← HM.out]; exact HB.out, _, _, 0, rfl, HLS.out, HSH.out⟩
end Go.Proofs.YtekfnonjhcfdmaaDoor
