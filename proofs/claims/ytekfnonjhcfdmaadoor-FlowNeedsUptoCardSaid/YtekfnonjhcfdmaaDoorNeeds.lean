/- FlowNeeds: a place is live before an instruction exactly if a path leads from there to an instruction that reads it. -/
import Derived.Test.YtekfnonjhcfdmaaDoorClosed
import Derived.Test.YtekfnonjhcfdmaaDoorNeeded
import Derived.Test.YtekfnonjhcfdmaaDoorLives
namespace Go.Proofs.YtekfnonjhcfdmaaDoor
open Go.RowKit Go.Shelf Go.Rt Go.Rw

theorem LsAt.unfold_ {w : World} {R : List (List Int)} {sa : Option Addr} {n cap : Nat} (h : LsAt w R (.slice sa n cap)) (hne : 0 < R.length) : ∃ bt ot, sa = some ⟨bt, ot, none⟩ ∧ ∀ j (hj : j < R.length), ∃ sj cj, (∀ W, Below w.heap.size w W → W.cell? ⟨bt, ot + j, none⟩ = some (.slice sj R[j].length cj)) ∧ SlAt w 1 inC (.slice sj R[j].length cj) R[j] := by
  obtain ⟨Vs, h1, h2, h3⟩ := h
  obtain ⟨bt, ot, e, hbt, hc⟩ := h1.get (by omega)
  refine ⟨bt, ot, e, fun i hi => ?_⟩
  have hi2 : i < Vs.length := by omega
  have k1 := hc i 0 hi2 (by omega)
  have k2 := h3 i hi2 hi
  obtain ⟨_, si, ci, e4⟩ := k2.len
  rw [e4] at k2
  simp only [vlC, List.getElem?_cons_zero, Nat.add_zero, Nat.mul_one, e4] at k1
  exact ⟨si, ci, fun W hW => (hW.cell (p := ⟨bt, _, none⟩) hbt).trans k1, k2⟩
theorem Lv.rch {l : List In} {fr : List Int} {T : Nat → List Int} {kd : Int} {i : Nat} {n : Int} (h : Lv l fr T kd i n) : Rch l fr i := by
  cases h <;> assumption
set_option maxRecDepth 100000 in
set_option maxHeartbeats 8000000 in
theorem needs8 (l : List In) (fr : List Int) (kd : Int) (v fv : Value) (w : World) (h : InsAt w l v) (hf : SlAt w 1 inC fv fr) (hb1 : l.length ≤ 1048576) (hb2 : ∀ x ∈ l, x.cases.length ≤ 1048576) (hb3 : ∀ x ∈ l, x.src.length ≤ 1048576) (hb4 : ∀ x ∈ l, x.segs.length ≤ 1048576)
    (hb5 : (argsF l).length ≤ 1000000000) (hb6 : owe l (fun _ => false) ≤ 90000000) (hT : TabAt 0 Lib.deBruijn64tab w) (hz : 0 < w.heap.size) : Calls Tryd.prog 8 #[v, fv, .int .i64 kd] w (Yes w) := by
  obtain ⟨_, sa, cap, rfl⟩ := h.form
  obtain ⟨hf0, sf, cf, rfl⟩ := hf.len
  have CL := Lib.hid (large_any l (.slice sa l.length cap) (.slice sf fr.length cf) fr.length sf cf w h rfl hf0)
  obtain ⟨m, hm⟩ : ∃ q, q = w.heap.size := ⟨_, rfl⟩
  have CA := Lib.hid (fun (W : World) (hW : Below m w W) => awake11 W (tab_below hT (by rw [← hm]; exact hW) hz) (Nat.lt_of_lt_of_le hz hW.size))
  have C12 := Lib.hid (fun (W : World) (hW : Below m w W) => live12 l fr (.slice sa l.length cap) (.slice sf fr.length cf) kd W (h.keep (by rw [← hm]; exact hW)) (hf.keep (by rw [← hm]; exact hW)) (by omega) (fun x hx => Nat.le_trans (hb2 x hx) (by omega)) (fun x hx => by have := hb3 x hx; have := hb4 x hx; omega) hb5 (tab_below hT (by rw [← hm]; exact hW) hz) (Nat.lt_of_lt_of_le hz hW.size))
  have C26 := Lib.hid (fun (W : World) (hW : Below m w W) => tries26 l fr (.slice sa l.length cap) (.slice sf fr.length cf) W (h.keep (by rw [← hm]; exact hW)) (hf.keep (by rw [← hm]; exact hW)) (by omega) (fun x hx => Nat.le_trans (hb2 x hx) (by omega)))
  have C27 := Lib.hid (fun (W : World) (hW : Below m w W) => reach27 l fr (.slice sa l.length cap) (.slice sf fr.length cf) W (h.keep (by rw [← hm]; exact hW)) (hf.keep (by rw [← hm]; exact hW)) (by omega))
  have C30 := Lib.hid (fun (W : World) (hW : Below m w W) (T : Nat → List Int) (n0 : Int) (i : Nat) (tv : Value) (ht : LsAt W ((List.range l.length).map T) tv) (hi : i < l.length) (hr : Rch l fr i) (ho : ∀ i, Rch l fr i → ∀ x : Nat, (x : Int) ∈ T i → x < l.length → Rch l fr x) =>
    needed30 l fr T kd n0 i (.slice sa l.length cap) tv W (h.keep (by rw [← hm]; exact hW)) ht hi hr ho hb1 hb2 hb3 hb4 hb6)
  obtain ⟨n, hn⟩ : ∃ q, q = l.length := ⟨_, rfl⟩
  obtain ⟨nf, hnf⟩ : ∃ q, q = fr.length := ⟨_, rfl⟩
  rw [← hn, ← hnf] at CL C12 C26 C27 ⊢
  rw [← hn] at hb1
  have C30' : Hid (∀ (W : World) (_ : Below m w W) (T : Nat → List Int) (n0 : Int) (i : Nat) (tv : Value) (_ : LsAt W ((List.range n).map T) tv) (_ : i < l.length) (_ : Rch l fr i) (_ : ∀ i, Rch l fr i → ∀ x : Nat, (x : Int) ∈ T i → x < l.length → Rch l fr x),
      Calls Tryd.prog 30 #[.slice sa n cap, tv, .int .i64 i, .agg #[.int .i64 kd, .int .i64 n0]] W (NdR l fr T kd n0 i W)) := Lib.hid (by rw [hn]; exact C30.out)
  have HN := Lib.hid hn
  have HM := Lib.hid hm
  clear C30 h hf hb2 hb3 hb4 hb5 hb6 hT hz hn hnf hf0
  go_enter Tryd.func8, Tryd.ntmps8
  go_wp2_with fail
  refine CL.out.mono ?_
  rintro e w1 ⟨b1, b, rfl, _⟩
  have B1 : Hid (Below m w w1) := Lib.hid (by rw [hm]; exact b1)
  clear b1 CL hm
  have hfin : ∀ W, Below m w W → Below w.heap.size w W := fun W hW => by rw [← HM.out]; exact hW
  have HFIN := Lib.hid hfin
  have HTR : Hid (∀ W W', Below m w W → Below W.heap.size W W' → Below m w W') := Lib.hid (fun W W' h1 h2 => h1.trans (h2.mono (by have := h1.size; have := HM.out; omega)))
  clear hfin
  cases b with
  | true =>
    go_wp2_with fail
    refine (CA.out w1 B1.out).mono ?_
    rintro e w2 ⟨rfl, b2⟩
    have B2 := Lib.hid (HTR.out _ _ B1.out b2)
    clear b2
    go_wp2_with fail
    go_ret
    exact ⟨rfl, HFIN.out _ B2.out⟩
  | false =>
    go_wp2_with fail
    refine (C12.out _ B1.out).mono ?_
    rintro e w2 ⟨b2, u1, RL, er, rfl, L1, t1⟩
    have B2 := Lib.hid (HTR.out _ _ B1.out b2)
    have HL1 := Lib.hid L1
    have HS1 := Lib.hid t1
    clear b2 L1 t1
    go_wp2_with fail
    refine (C26.out _ B2.out).mono ?_
    rintro e w3 ⟨b3, u2, RT, et, rfl, L2, t2⟩
    have B3 := Lib.hid (HTR.out _ _ B2.out b3)
    have HL2 := Lib.hid L2
    have HL1' := Lib.hid (HL1.out.keep b3)
    have HS2 := Lib.hid t2
    clear b3 L2 t2 HL1
    obtain ⟨hl0, s1, c1, e1⟩ := HL1'.out.form
    obtain ⟨hl00, s2, c2, e2⟩ := HL2.out.form
    by_cases he : er = 0
    · subst he
      have hok : (∀ k, k ∈ fr → inR l k = true) ∧ ∃ Q, Shut l fr Q ∧ LvL l fr (fun i => (Q i).getD []) kd RL := by
        rcases HS1.out with ⟨_, _, e⟩ | ⟨_, ⟨e, _⟩ | ⟨_, k1, k2⟩⟩
        · cases e
        · exact absurd rfl e
        · exact ⟨k1, k2⟩
      obtain ⟨hin, Q, hsh, hlv⟩ := hok
      have hrt := (triesF_shut hin hsh).symm.trans HS2.out
      have het : et = 0 := (congrArg Prod.snd hrt).symm
      have hRT : RT = (List.range n).map fun i => (Q i).getD [] := by rw [HN.out]; exact (congrArg Prod.fst hrt).symm
      subst het
      have hRL : RL.length = n := by rw [hlv.1, HN.out]
      have hRTl : RT.length = n := by rw [hRT, List.length_map, List.length_range]
      rw [hRL] at e1
      rw [hRTl] at e2
      subst e1 e2
      rw [hRT] at HL2
      have HLV := Lib.hid hlv
      have HOP := Lib.hid (hsh.opens)
      have HRL := Lib.hid hRL
      clear hin hsh hlv hrt hRT hRTl HS1 HS2 hRL hl0 hl00
      go_wp2_with fail
      refine (C27.out _ B3.out).mono ?_
      rintro e w4 ⟨b4, g, Qr, rfl, k4, _, r4⟩
      rw [← HN.out] at k4 ⊢
      have B4 := Lib.hid (HTR.out _ _ B3.out b4)
      have HLL := Lib.hid (HL1'.out.keep b4)
      have HTT := Lib.hid (HL2.out.keep b4)
      have HKK := Lib.hid k4
      have HRR := Lib.hid r4
      obtain ⟨m4, hm4⟩ : ∃ q, q = w4.heap.size := ⟨_, rfl⟩
      have HM4 := Lib.hid hm4
      have HB4 : Hid (∀ W, Below m4 w4 W → Below m w W) := Lib.hid (fun W hW => HTR.out _ _ B4.out (by rw [← hm4]; exact hW))
      have BB : Hid (Below m4 w4 w4) := Lib.hid (Below.refl _ _)
      have HT4 : Hid (∀ W W', Below m4 w4 W → Below W.heap.size W W' → Below m4 w4 W') := Lib.hid (fun W W' h1 h2 => h1.trans (h2.mono (by have := h1.size; have := HM4.out; omega)))
      clear b4 k4 r4 hm4 HL1' HL2 B1 B2 B3
      go_wp2_with fail
      go_loopw [12] (fun z W => ∃ (i : Nat), i ≤ n ∧ z = .int .i64 (i : Int) ∧ Hid (Below m4 w4 W)) (fun z _ => n - (intOf z).toNat)
      case atStart => exact ⟨0, Nat.zero_le _, rfl, BB⟩
      case round =>
        obtain ⟨i, hi, rfl, HW⟩ := hrel
        clear BB
        by_cases hin : i < n
        · have hini : (i : Int) < (n : Int) := by omega
          have hil : i < l.length := by rw [← HN.out]; exact hin
          have hiR : i < RL.length := by rw [HRL.out]; exact hin
          obtain ⟨bl, ol, rfl, hop⟩ := HLL.out.unfold_ (by omega)
          obtain ⟨sj, cj, hcg, hsj⟩ := hop i hiR
          obtain ⟨hup, hmem⟩ := HLV.out.2 i hiR
          obtain ⟨X, hX⟩ : ∃ q, q = RL[i] := ⟨_, rfl⟩
          rw [← hX] at hcg hsj hup hmem
          obtain ⟨nX, hnX⟩ : ∃ q, q = X.length := ⟨_, rfl⟩
          rw [← hnX] at hcg hsj
          have HCG : Hid (∀ W, Below m4 w4 W → W.cell? ⟨bl, ol + i, none⟩ = some (.slice sj nX cj)) := Lib.hid (fun W hW => hcg W (by rw [← HM4.out]; exact hW))
          have HSJ := Lib.hid hsj
          have hnX8 : nX ≤ 9223372036854775807 := by rw [hnX]; exact hsj.len.1
          have HUPX := Lib.hid hup
          have HMEM := Lib.hid hmem
          have HNX := Lib.hid hnX
          have HQI : Hid (∀ W, Below m4 w4 W → W.cell? ⟨g, i, none⟩ = some (.bool (Qr i))) := Lib.hid (fun W hW => seen_cell (HKK.out.below (show Below w4.heap.size w4 W by rw [← HM4.out]; exact hW) HKK.out.lt) hin)
          clear hop hcg hsj hup hmem hX hnX
          go_wp2_with fail
          go_loopw [13] (fun z W => ∃ (q : Nat), q ≤ 6 ∧ z = .int .i64 (q : Int) ∧ Hid (Below m4 w4 W)) (fun z _ => 6 - (intOf z).toNat)
          case atStart => exact ⟨0, Nat.zero_le _, rfl, HW⟩
          case round =>
            obtain ⟨q, hq, rfl, HX⟩ := hrel
            clear HW
            by_cases hq6 : q < 6
            · have hq6i : (q : Int) < 6 := by omega
              have ck := HQI.out wr HX.out
              cases hqr : Qr i with
              | false =>
                rw [hqr] at ck
                have hno : decide ((q : Int) ∈ X) = false := decide_eq_false (fun hx => by
                  have := (HRR.out i).2 ((HMEM.out _).1 hx).rch
                  rw [hqr] at this
                  cases this)
                have cg := HCG.out wr HX.out
                have CH := Lib.hid (holds_any X (q : Int) _ wr (HSJ.out.keep (by rw [← HM4.out]; exact HX.out)))
                rw [hno] at CH
                clear hqr hno
                go_wp2_with fail
                refine CH.out.mono ?_
                rintro e w5 ⟨rfl, b5⟩
                have HX5 := Lib.hid (HT4.out _ _ HX.out b5)
                clear b5 CH HX cg ck
                go_wp2_with fail
                go_roundw
                case rel => exact ⟨q + 1, by omega, by go_num, HX5⟩
                case measure => simp [intOf]; omega
              | true =>
                rw [hqr] at ck
                have CN := Lib.hid (C30'.out wr (HB4.out wr HX.out) (fun i => (Q i).getD []) (q : Int) i _ (HTT.out.keep (by rw [← HM4.out]; exact HX.out)) hil ((HRR.out i).1 hqr) HOP.out)
                clear hqr
                go_wp2_with fail
                refine CN.out.mono ?_
                rintro e w5 ⟨b5, r, rfl, hr⟩
                have HX5 := Lib.hid (HT4.out _ _ HX.out b5)
                have cg := HCG.out w5 HX5.out
                have CH := Lib.hid (holds_any X (q : Int) _ w5 (HSJ.out.keep (by rw [← HM4.out]; exact HX5.out)))
                rw [show decide ((q : Int) ∈ X) = r by
                  cases r with
                  | true => exact decide_eq_true ((HMEM.out _).2 (hr.1 rfl))
                  | false => exact decide_eq_false (fun hx => by have := hr.2 ((HMEM.out _).1 hx); cases this)] at CH
                clear b5 CN HX hr ck
                go_wp2_with fail
                refine CH.out.mono ?_
                rintro e w6 ⟨rfl, b6⟩
                have HX6 := Lib.hid (HT4.out _ _ HX5.out b6)
                clear b6 CH HX5 cg
                cases r
                all_goals
                  go_wp2_with fail
                  go_roundw
                  case rel => exact ⟨q + 1, by omega, by go_num, HX6⟩
                  case measure => simp [intOf]; omega
            · have hq6i : ¬ (q : Int) < 6 := by omega
              have cg := HCG.out wr HX.out
              go_wp2_with fail
              go_loopw [15] (fun z W => ∃ (k : Nat), (k ≤ nX ∨ k = 0) ∧ z = .int .i64 ((k : Int) + 1) ∧ Hid (Below m4 w4 W)) (fun z _ => nX + 1 - (intOf z).toNat)
              case atStart => exact ⟨0, .inr rfl, rfl, HX⟩
              case round =>
                obtain ⟨k, hk, rfl, HX⟩ := hrel
                have cg := HCG.out wr HX.out
                by_cases hkn : k + 1 < nX
                · have hkni : (k : Int) + 1 < (nX : Int) := by omega
                  have hk1 : k + 1 < X.length := by rw [← HNX.out]; exact hkn
                  obtain ⟨bj, oj, rfl, hbj, hcj⟩ := HSJ.out.get (by omega)
                  have c0 := hcj k 0 (by omega) (by omega)
                  have c1 := hcj (k + 1) 0 hk1 (by omega)
                  obtain ⟨x, hx⟩ : ∃ x, x = X[k]'(by omega) := ⟨_, rfl⟩
                  obtain ⟨y, hy⟩ : ∃ y, y = X[k + 1] := ⟨_, rfl⟩
                  rw [← hx] at c0
                  rw [← hy] at c1
                  simp only [inC, List.getElem?_cons_zero, Nat.add_zero, Nat.mul_one] at c0 c1
                  have hxy : x < y := by
                    rw [hx, hy]
                    exact (List.pairwise_iff_getElem.1 HUPX.out) k (k + 1) (by omega) hk1 (by omega)
                  have HC0 : Hid (∀ W, Below m4 w4 W → W.cell? ⟨bj, oj + k, none⟩ = some (.int .i64 x)) := Lib.hid (fun W hW => (hW.cell (p := ⟨bj, _, none⟩) (by rw [HM4.out]; exact hbj)).trans c0)
                  have HC1 : Hid (∀ W, Below m4 w4 W → W.cell? ⟨bj, oj + (k + 1), none⟩ = some (.int .i64 y)) := Lib.hid (fun W hW => (hW.cell (p := ⟨bj, _, none⟩) (by rw [HM4.out]; exact hbj)).trans c1)
                  have hxyi : ¬ y ≤ x := by omega
                  have hwd : IntKind.i64.wrap (k : Int) = (k : Int) := wrap_id (k : Int) (by omega)
                  have hkl : (k : Int) < (nX : Int) := by omega
                  have hk0 : (0 : Int) ≤ (k : Int) + 1 := by omega
                  clear c0 c1 hcj hbj hx hy hk1
                  go_upto_region 22 with fail
                  clear cg
                  refine wp_region_held_drew (S := (fun w' => Below m4 w4 w')) (by kernel_rfl) (HX.out.drew) (fun hS => ?_)
                  have HXD := Lib.hid HX.out.drew
                  clear HX
                  generalize wr.drew = w0 at *
                  refine tk (i := 0) (v := ?_) rfl (by rfl) ?_ (by assumption) ?_
                  rotate_left
                  · intro w hSw
                    go_simp
                    with_reducible rfl
                  change wpAnyH _ _ _ _ _ _ _ (Act.put _ (some 107) _) _
                  simp only [Act.put, List.setIfInBounds_toArray, List.set_cons_zero, List.set_cons_succ]
                  refine tk (i := 1) (v := ?_) rfl (by rfl) ?_ (by assumption) ?_
                  rotate_left
                  · intro w hSw
                    go_simp
                    with_reducible rfl
                  change wpAnyH _ _ _ _ _ _ _ (Act.put _ (some 108) _) _
                  simp only [Act.put, List.setIfInBounds_toArray, List.set_cons_zero, List.set_cons_succ]
                  refine tk (i := 2) (v := ?_) rfl (by rfl) ?_ (by assumption) ?_
                  rotate_left
                  · intro w hSw
                    go_simp
                    with_reducible rfl
                  change wpAnyH _ _ _ _ _ _ _ (Act.put _ (some 109) _) _
                  simp only [Act.put, List.setIfInBounds_toArray, List.set_cons_zero, List.set_cons_succ]
                  refine tk (i := 3) (v := ?_) rfl (by rfl) ?_ (by assumption) ?_
                  rotate_left
                  · intro w hSw
                    have cc := HCG.out _ hSw
                    go_simp
                    with_reducible rfl
                  change wpAnyH _ _ _ _ _ _ _ (Act.put _ (some 110) _) _
                  simp only [Act.put, List.setIfInBounds_toArray, List.set_cons_zero, List.set_cons_succ]
                  refine tk (i := 4) (v := ?_) rfl (by rfl) ?_ (by assumption) ?_
                  rotate_left
                  · intro w hSw
                    go_simp
                    with_reducible rfl
                  change wpAnyH _ _ _ _ _ _ _ (Act.put _ (some 111) _) _
                  simp only [Act.put, List.setIfInBounds_toArray, List.set_cons_zero, List.set_cons_succ]
                  refine tk (i := 5) (v := ?_) rfl (by rfl) ?_ (by assumption) ?_
                  rotate_left
                  · intro w hSw
                    go_simp
                    with_reducible rfl
                  change wpAnyH _ _ _ _ _ _ _ (Act.put _ (some 112) _) _
                  simp only [Act.put, List.setIfInBounds_toArray, List.set_cons_zero, List.set_cons_succ]
                  refine tk (i := 6) (v := ?_) rfl (by rfl) ?_ (by assumption) ?_
                  rotate_left
                  · intro w hSw
                    go_simp
                    with_reducible rfl
                  change wpAnyH _ _ _ _ _ _ _ (Act.put _ (some 113) _) _
                  simp only [Act.put, List.setIfInBounds_toArray, List.set_cons_zero, List.set_cons_succ]
                  refine tk (i := 7) (v := ?_) rfl (by rfl) ?_ (by assumption) ?_
                  rotate_left
                  · intro w hSw
                    have cc := HC0.out _ hSw
                    go_simp
                    with_reducible rfl
                  change wpAnyH _ _ _ _ _ _ _ (Act.put _ (some 114) _) _
                  simp only [Act.put, List.setIfInBounds_toArray, List.set_cons_zero, List.set_cons_succ]
                  refine tk (i := 8) (v := ?_) rfl (by rfl) ?_ (by assumption) ?_
                  rotate_left
                  · intro w hSw
                    go_simp
                    with_reducible rfl
                  change wpAnyH _ _ _ _ _ _ _ (Act.put _ (some 115) _) _
                  simp only [Act.put, List.setIfInBounds_toArray, List.set_cons_zero, List.set_cons_succ]
                  refine tk (i := 9) (v := ?_) rfl (by rfl) ?_ (by assumption) ?_
                  rotate_left
                  · intro w hSw
                    go_simp
                    with_reducible rfl
                  change wpAnyH _ _ _ _ _ _ _ (Act.put _ (some 116) _) _
                  simp only [Act.put, List.setIfInBounds_toArray, List.set_cons_zero, List.set_cons_succ]
                  refine tk (i := 10) (v := ?_) rfl (by rfl) ?_ (by assumption) ?_
                  rotate_left
                  · intro w hSw
                    go_simp
                    with_reducible rfl
                  change wpAnyH _ _ _ _ _ _ _ (Act.put _ (some 117) _) _
                  simp only [Act.put, List.setIfInBounds_toArray, List.set_cons_zero, List.set_cons_succ]
                  refine tk (i := 11) (v := ?_) rfl (by rfl) ?_ (by assumption) ?_
                  rotate_left
                  · intro w hSw
                    have cc := HCG.out _ hSw
                    go_simp
                    with_reducible rfl
                  change wpAnyH _ _ _ _ _ _ _ (Act.put _ (some 118) _) _
                  simp only [Act.put, List.setIfInBounds_toArray, List.set_cons_zero, List.set_cons_succ]
                  refine tk (i := 12) (v := ?_) rfl (by rfl) ?_ (by assumption) ?_
                  rotate_left
                  · intro w hSw
                    go_simp
                    with_reducible rfl
                  change wpAnyH _ _ _ _ _ _ _ (Act.put _ (some 119) _) _
                  simp only [Act.put, List.setIfInBounds_toArray, List.set_cons_zero, List.set_cons_succ]
                  refine tk (i := 13) (v := ?_) rfl (by rfl) ?_ (by assumption) ?_
                  rotate_left
                  · intro w hSw
                    go_simp
                    with_reducible rfl
                  change wpAnyH _ _ _ _ _ _ _ (Act.put _ (some 120) _) _
                  simp only [Act.put, List.setIfInBounds_toArray, List.set_cons_zero, List.set_cons_succ]
                  refine tk (i := 14) (v := ?_) rfl (by rfl) ?_ (by assumption) ?_
                  rotate_left
                  · intro w hSw
                    have cc := HC1.out _ hSw
                    go_simp
                    with_reducible rfl
                  change wpAnyH _ _ _ _ _ _ _ (Act.put _ (some 121) _) _
                  simp only [Act.put, List.setIfInBounds_toArray, List.set_cons_zero, List.set_cons_succ]
                  refine tk (i := 15) (v := ?_) rfl (by rfl) ?_ (by assumption) ?_
                  rotate_left
                  · intro w hSw
                    go_simp
                    with_reducible rfl
                  change wpAnyH _ _ _ _ _ _ _ (Act.put _ (some 122) _) _
                  simp only [Act.put, List.setIfInBounds_toArray, List.set_cons_zero, List.set_cons_succ]
                  refine wpAnyH_done (by kernel_rfl) ?_ _
                  go_wp2_with fail
                  go_roundw
                  case rel => exact ⟨k + 1, .inl (by omega), by go_num, HXD⟩
                  case measure => simp [intOf]; omega
                · have hkni : ¬ (k : Int) + 1 < (nX : Int) := by omega
                  go_wp2_with fail
                  go_roundw
                  case rel => exact ⟨i + 1, by omega, by go_num, HX⟩
                  case measure => simp [intOf]; omega
        · have hini : ¬ (i : Int) < (n : Int) := by omega
          go_wp2_with fail
          refine (CA.out wr (HB4.out wr HW.out)).mono ?_
          rintro e w5 ⟨rfl, b5⟩
          have B5 := Lib.hid (HTR.out _ _ (HB4.out wr HW.out) b5)
          clear b5
          go_wp2_with fail
          go_ret
          exact ⟨rfl, HFIN.out _ B5.out⟩
    · have hne : (er != 0) = true := i64_bne er 0 he
      have hRL : RL = [] := by
        rcases HS1.out with ⟨_, e, _⟩ | ⟨_, ⟨_, e, _⟩ | ⟨e, _⟩⟩
        · exact e
        · exact e
        · exact absurd e he
      rw [hRL] at e1
      simp only [List.length_nil] at e1
      subst e1 e2
      clear he hRL hl0 hl00
      go_wp2_with fail
      refine (CA.out w3 B3.out).mono ?_
      rintro e w5 ⟨rfl, b5⟩
      have B5 := Lib.hid (HTR.out _ _ B3.out b5)
      clear b5
      go_wp2_with fail
      go_ret
      exact ⟨rfl, HFIN.out _ B5.out⟩
end Go.Proofs.YtekfnonjhcfdmaaDoor
