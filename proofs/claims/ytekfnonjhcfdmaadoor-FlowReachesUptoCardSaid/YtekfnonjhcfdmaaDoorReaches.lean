/- FlowReaches: which instructions can be reached, and which handlers are open before them. -/
import Derived.Test.YtekfnonjhcfdmaaDoorClosed
import Derived.Test.YtekfnonjhcfdmaaDoorRreach
import Derived.Test.YtekfnonjhcfdmaaDoorRtries
namespace Go.Proofs.YtekfnonjhcfdmaaDoor
open Go.RowKit Go.Shelf Go.Rt Go.Rw

set_option maxRecDepth 100000 in
set_option maxHeartbeats 8000000 in
theorem reaches7 (l : List In) (fr : List Int) (v fv : Value) (w : World) (h : InsAt w l v) (hf : SlAt w 1 inC fv fr) (hb1 : l.length ≤ 1048576) (hb2 : ∀ x ∈ l, x.cases.length ≤ 1048576) (hb3 : fr.length + owe l (fun _ => false) ≤ 100000000)
    (hT : TabAt 0 Lib.deBruijn64tab w) (hz : 0 < w.heap.size) : Calls Tryd.prog 7 #[v, fv] w (Yes w) := by
  obtain ⟨_, sa, cap, rfl⟩ := h.form
  obtain ⟨hf0, sf, cf, rfl⟩ := hf.len
  have CL := Lib.hid (large_any l (.slice sa l.length cap) (.slice sf fr.length cf) fr.length sf cf w h rfl hf0)
  have CA := Lib.hid (fun (W : World) (hW : Below w.heap.size w W) => awake11 W (tab_below hT hW hz) (Nat.lt_of_lt_of_le hz hW.size))
  obtain ⟨n, hn⟩ : ∃ q, q = l.length := ⟨_, rfl⟩
  obtain ⟨nf, hnf⟩ : ∃ q, q = fr.length := ⟨_, rfl⟩
  have C27 := Lib.hid (fun (W : World) (hW : Below w.heap.size w W) => reach27 l fr (.slice sa l.length cap) (.slice sf fr.length cf) W (h.keep hW) (hf.keep hW) (by omega))
  have C28 := Lib.hid (fun (W : World) (hW : Below w.heap.size w W) => rreach28 l fr (.slice sa l.length cap) (.slice sf fr.length cf) W (h.keep hW) (hf.keep hW) hb1 hb2 hb3)
  have C26 := Lib.hid (fun (W : World) (hW : Below w.heap.size w W) => tries26 l fr (.slice sa l.length cap) (.slice sf fr.length cf) W (h.keep hW) (hf.keep hW) (by omega) (fun x hx => Nat.le_trans (hb2 x hx) (by omega)))
  have C29 := Lib.hid (fun (W : World) (hW : Below w.heap.size w W) => rtries29 l fr (.slice sa l.length cap) (.slice sf fr.length cf) W (h.keep hW) (hf.keep hW) hb1 hb2)
  rw [← hn, ← hnf] at CL C27 C28 C26 C29 ⊢
  rw [← hn] at hb1
  have HN := Lib.hid hn
  have HNF := Lib.hid hnf
  clear h hf hb2 hb3 hT hz hn hnf hf0
  go_enter Tryd.func7, Tryd.ntmps7
  go_wp2_with fail
  refine CL.out.mono ?_
  rintro e w1 ⟨b1, b, rfl, _⟩
  have B1 := Lib.hid b1
  clear b1 CL
  cases b with
  | true =>
    go_wp2_with fail
    refine (CA.out w1 B1.out).mono ?_
    rintro e w2 ⟨rfl, b2⟩
    have B2 := Lib.hid (B1.out.trans (b2.mono B1.out.size))
    clear b2
    go_wp2_with fail
    go_ret
    exact ⟨rfl, B2.out⟩
  | false =>
    go_wp2_with fail
    refine (C27.out w1 B1.out).mono ?_
    rintro e w2 ⟨b2, g1, Q1, rfl, k1, _, r1⟩
    rw [← HN.out] at k1 ⊢
    have B2 := Lib.hid (B1.out.trans (b2.mono B1.out.size))
    have K1 := Lib.hid k1
    have R1 := Lib.hid r1
    clear b2 k1 r1
    go_wp2_with fail
    refine (C28.out w2 B2.out).mono ?_
    rintro e w3 ⟨b3, g2, Q2, rfl, k2, _, r2⟩
    rw [← HN.out] at k2 ⊢
    have B3 := Lib.hid (B2.out.trans (b3.mono B2.out.size))
    have K3 := Lib.hid (K1.out.below b3 K1.out.lt)
    have HQ : Q2 = Q1 := by
      funext i
      have h1 := R1.out i
      have h2 := r2 i
      cases e1 : Q1 i <;> cases e2 : Q2 i <;> simp_all
    subst HQ
    have K4 := Lib.hid k2
    have HL3 := Lib.hid K3.out.lt
    have HL4 := Lib.hid K4.out.lt
    have BB := Lib.hid (Below.refl w3.heap.size w3)
    clear b3 k2 r2 K1 R1 B1 B2
    go_wp2_with fail
    go_loopw [7] (fun z W => ∃ (i : Nat), i ≤ n ∧ z = .int .i64 (i : Int) ∧ Hid (Below w3.heap.size w3 W)) (fun z _ => n - (intOf z).toNat)
    case atStart => exact ⟨0, Nat.zero_le _, rfl, BB⟩
    case round =>
      obtain ⟨i, hi, rfl, HW⟩ := hrel
      clear BB
      by_cases hlt : i < n
      · have hlti : (i : Int) < (n : Int) := by omega
        have q1 := bools_cell (K3.out.below HW.out HL3.out) hlt
        have q2 := bools_cell (K4.out.below HW.out HL4.out) hlt
        obtain ⟨q, hq⟩ : ∃ q, q = Q2 i := ⟨_, rfl⟩
        rw [← hq] at q1 q2
        clear hq
        cases q
        all_goals
          go_wp2_with fail
          go_quiet (fail)
          have BX := Lib.hid (below_drewN HW.out nq)
          go_wp2_with fail
          go_roundw
          case rel => exact ⟨i + 1, by omega, by go_num, BX⟩
          case measure => simp [intOf]; omega
      · have hlti : ¬ (i : Int) < (n : Int) := by omega
        go_wp2_with fail
        have BR := Lib.hid (B3.out.trans (HW.out.mono B3.out.size))
        refine (C26.out _ BR.out).mono ?_
        rintro e w4 ⟨b4, u1, R, er, rfl, L1, t1⟩
        have B4 := Lib.hid (BR.out.trans (b4.mono BR.out.size))
        have HL1 := Lib.hid L1
        have HT1 := Lib.hid t1
        clear b4 L1 t1
        go_wp2_with fail
        refine (C29.out w4 B4.out).mono ?_
        rintro e w5 ⟨b5, u2, R2, er2, rfl, L2, t2⟩
        have e12 : R = R2 ∧ er = er2 := by
          have := HT1.out.symm.trans t2
          simpa using this
        obtain ⟨rfl, rfl⟩ := e12
        have B5 := Lib.hid (B4.out.trans (b5.mono B4.out.size))
        have CS := Lib.hid (samels_any R R u1 u2 w5 (HL1.out.keep b5) L2)
        rw [(eqB_iff R R).2 rfl] at CS
        clear b5 L2 t2 HL1 HT1
        go_wp2_with fail
        refine CS.out.mono ?_
        rintro e w6 ⟨rfl, b6⟩
        have B6 := Lib.hid (B5.out.trans (b6.mono B5.out.size))
        clear b6 CS
        go_wp2_with fail
        refine (CA.out w6 B6.out).mono ?_
        rintro e w7 ⟨rfl, b7⟩
        have B7 := Lib.hid (B6.out.trans (b7.mono B6.out.size))
        clear b7
        go_wp2_with fail
        go_ret
        exact ⟨rfl, B7.out⟩
end Go.Proofs.YtekfnonjhcfdmaaDoor
