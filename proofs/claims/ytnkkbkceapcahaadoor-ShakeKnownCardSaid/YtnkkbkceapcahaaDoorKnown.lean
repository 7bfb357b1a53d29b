/- ShakeKnown: the walk. -/
import Derived.Test.YtnkkbkceapcahaaDoorMeetsR
import Derived.Deep.RegionHeld3
namespace Go.Proofs.YtnkkbkceapcahaaDoor
open Go.RowKit Go.Rt Go.Rw

theorem ktake_nil (b : ByteArray) (w : World) : Calls Tryd.prog 14 #[.pointer none, .string b] w fun e w' => e = .returned (.tuple #[.string ⟨#[]⟩, .int .i64 1]) ∧ w = w' := by
  go_enter Tryd.func14, Tryd.ntmps14
  go_wp2
  go_ret2
  exact ⟨rfl, rfl⟩
theorem kstate_nil (w : World) : Calls Tryd.prog 16 #[.pointer none] w fun e w' => e = .returned (.int .i64 0) ∧ w = w' := by
  go_enter Tryd.func16, Tryd.ntmps16
  go_wp2
  go_ret
  exact ⟨rfl, rfl⟩
def zeroS : Sd := ⟨⟨⟨#[]⟩, 0⟩, ⟨⟨#[]⟩, 0⟩, ⟨#[]⟩, ⟨#[]⟩, 0, 0, false, false, 0⟩
theorem kanswer_zero (B : Nat) (w : World) (hB : Blk w B 46 (sdC zeroS)) : Calls Tryd.prog 15 #[.pointer (some ⟨B, 0, none⟩), .int .i64 1] w fun e w' => e = .returned (.tuple #[.string ⟨#[]⟩, .int .i64 1]) ∧ w = w' := by
  have c10 : w.cell? ⟨B, 10, none⟩ = some (.int .i64 0) := (sd_cells hB).c10
  clear hB
  go_enter Tryd.func15, Tryd.ntmps15
  go_wp2
  go_ret2
  exact ⟨rfl, rfl⟩
abbrev kA : ByteArray := ⟨#[97]⟩
abbrev kB : ByteArray := ⟨#[98]⟩
abbrev kX : ByteArray := ⟨#[120]⟩
abbrev kY : ByteArray := ⟨#[121]⟩
theorem known_no : dialB kA 1 kA = false := by decide +kernel
theorem known_offer : offerM wB 6 = ⟨#[2, 1, 1, 98, 0, 0, 0, 2, 0, 0, 0, 0, 0, 0, 0, 6]⟩ := ba_ext (by decide +kernel)
set_option maxRecDepth 100000 in
theorem known_apart : seqB (proofD wA wB kX 5 6) (proofD wA wB kY 5 6) = false := by decide +kernel
set_option maxRecDepth 100000 in
set_option maxHeartbeats 4000000 in
theorem known_walk (w : World) (ht : Tabs w) : Calls Tryd.prog 4 #[] w fun e w' => e = .returned (.bool true) ∧ Below w.heap.size w w' := by
  have E1 := step_hello wA wB wA_ok kX 6 kB (by decide +kernel) (by decide +kernel) (by decide +kernel)
  have E1y := step_hello wA wB wA_ok kY 6 kB (by decide +kernel) (by decide +kernel) (by decide +kernel)
  have E2 := step_offer wA wB kX 6
  have E2y := step_offer wA wB kY 6
  have E3 := step_reply wA wB wB_ok kB kX 5 6 (by decide) (by decide +kernel)
  have E4 : takeF (lis2 wB kY 6 wA) (replyM 5 (proofD wA wB kX 5 6)) = failS { lis2 wB kY 6 wA with their := 5 } 350 := by
    rw [step_ack wA wB kY _ 5 6 (by decide) (proofD_size _ _ _ _ _), known_apart, if_pos rfl]
  have E5 : takeF (dia1 wA kB kX 5 wB 6) ⟨#[]⟩ = failS (dia1 wA kB kX 5 wB 6) 6 := by
    rw [take_ack' _ rfl rfl rfl]
    unfold ackF
    exact if_pos (.inl (by decide))
  have E6 : takeF (dialS wA kB kX 5) busyC = failS (dialS wA kB kX 5) 351 := by
    rw [take_offer' _ rfl rfl rfl]
    exact offerF_refused _ _ (.inl (seqB_refl _))
  have F1 : Fine (dialS wA kB kX 5) := Fine.dialS wA_ok (by decide) (by decide) (by decide)
  have F2 : Fine (listenS wB kX 6) := Fine.listenS wB_ok (by decide) (by decide)
  have F3 : Fine (listenS wB kY 6) := Fine.listenS wB_ok (by decide) (by decide)
  have G1 := F2.take (helloF wA kB)
  have G2 := F3.take (helloF wA kB)
  rw [E1] at G1
  rw [E1y] at G2
  have G3 := G2.answer 1
  rw [E2y] at G3
  have G4 := F1.take (offerM wB 6)
  rw [E3] at G4
  simp only at G1 G2 G3 G4
  have HE := wake_hello
  have OE := known_offer
  have Z2 := replyM_size 5 _ (proofD_size wA wB kX 5 6)
  rw [HE] at E1 E1y
  rw [OE] at E2 E2y E3
  have DN : Hid (∀ W, Calls Tryd.prog 12 #[.agg #[.string kA, .int .i64 1], .string kA, .string kX, .int .u64 5] W fun e w' => e = .returned (.tuple #[.pointer none, .string ⟨#[]⟩, .int .i64 2]) ∧ Below W.heap.size W w') := Lib.hid (fun W => dial_no kA 1 kA kX 5 known_no W)
  obtain ⟨d0, hd0⟩ : ∃ s, s = dialS wA kB kX 5 := ⟨_, rfl⟩
  obtain ⟨d1, hd1⟩ : ∃ s, s = dia1 wA kB kX 5 wB 6 := ⟨_, rfl⟩
  obtain ⟨l0, hl0⟩ : ∃ s, s = listenS wB kX 6 := ⟨_, rfl⟩
  obtain ⟨l1, hl1⟩ : ∃ s, s = lis1 wB kX 6 wA := ⟨_, rfl⟩
  obtain ⟨l2, hl2⟩ : ∃ s, s = lis2 wB kX 6 wA := ⟨_, rfl⟩
  obtain ⟨m0, hm0⟩ : ∃ s, s = listenS wB kY 6 := ⟨_, rfl⟩
  obtain ⟨m1, hm1⟩ : ∃ s, s = lis1 wB kY 6 wA := ⟨_, rfl⟩
  obtain ⟨m2, hm2⟩ : ∃ s, s = lis2 wB kY 6 wA := ⟨_, rfl⟩
  obtain ⟨rp, hrp⟩ : ∃ b, b = replyM 5 (proofD wA wB kX 5 6) := ⟨_, rfl⟩
  rw [← hl0, ← hl1] at E1
  rw [← hm0, ← hm1] at E1y
  rw [← hl1, ← hl2] at E2
  rw [← hm1, ← hm2] at E2y
  rw [← hd0, ← hd1, ← hrp] at E3
  rw [← hm2, ← hrp] at E4
  rw [← hd1] at E5
  rw [← hd0] at E6
  rw [← hrp] at Z2
  rw [← hd0] at F1
  rw [← hl0] at F2
  rw [← hm0] at F3
  rw [← hl1] at G1
  rw [← hm1] at G2
  rw [← hm2] at G3
  rw [← hd1] at G4
  have DC : Hid (∀ wb W L, Ss wb W L → Calls Tryd.prog 12 #[.agg #[.string kA, .int .i64 1], .string kB, .string kX, .int .u64 5] W (SawNew wb L 46 d0 fun B => .tuple #[.pointer (some ⟨B, 0, none⟩), .string ⟨#[1, 1, 1, 97, 0, 0, 0, 1, 1, 98]⟩, .int .i64 0])) := by
    refine Lib.hid fun wb W L h => ?_
    have := h.dial46 kA 1 kB kX 5 wake_dial
    rw [HE, ← hd0] at this
    exact this
  have LC : Hid (∀ wb W L, Ss wb W L → Calls Tryd.prog 13 #[.agg #[.string kB, .int .i64 2], .string kX, .int .u64 6] W (SawNew wb L 46 l0 fun B => .tuple #[.pointer (some ⟨B, 0, none⟩), .int .i64 0])) := by
    refine Lib.hid fun wb W L h => ?_
    have := h.listen46 kB 2 kX 6 wake_listen
    rw [← hl0] at this
    exact this
  have MC : Hid (∀ wb W L, Ss wb W L → Calls Tryd.prog 13 #[.agg #[.string kB, .int .i64 2], .string kY, .int .u64 6] W (SawNew wb L 46 m0 fun B => .tuple #[.pointer (some ⟨B, 0, none⟩), .int .i64 0])) := by
    refine Lib.hid fun wb W L h => ?_
    have := h.listen46 kB 2 kY 6 wake_listen
    rw [← hm0] at this
    exact this
  obtain ⟨d2, hd2⟩ : ∃ s : Sd, s = { d1 with state := 4 } := ⟨_, rfl⟩
  obtain ⟨m3, hm3⟩ : ∃ s : Sd, s = { m2 with their := 5, state := 4 } := ⟨_, rfl⟩
  obtain ⟨k1, hk1⟩ : ∃ s : Sd, s = { d0 with state := 4 } := ⟨_, rfl⟩
  have E4' : takeF m2 rp = (m3, ⟨#[]⟩, 350) := by rw [E4, hm3]; rfl
  have E5' : takeF d1 ⟨#[]⟩ = (d2, ⟨#[]⟩, 6) := by rw [E5, hd2]; rfl
  have E6' : takeF d0 ⟨#[2, 2]⟩ = (k1, ⟨#[]⟩, 351) := by rw [show (⟨#[2, 2]⟩ : ByteArray) = busyC from rfl, E6, hk1]; rfl
  have T1 : Hid (∀ (wb W : World) (D L M K Z : Nat), Ss wb W [(D, 46, d0), (L, 46, l0)] → Calls Tryd.prog 14 #[.pointer (some ⟨L, 0, none⟩), .string ⟨#[1, 1, 1, 97, 0, 0, 0, 1, 1, 98]⟩] W (Saw wb [(D, 46, d0), (L, 46, l1)] (.tuple #[.string ⟨#[]⟩, .int .i64 0]))) := by
    refine Lib.hid fun wb W D L M K Z h => ?_
    have := h.take46 1 rfl F2 ⟨#[1, 1, 1, 97, 0, 0, 0, 1, 1, 98]⟩ (by decide)
    rw [E1] at this
    exact this
  have T2 : Hid (∀ (wb W : World) (D L M K Z : Nat), Ss wb W [(D, 46, d0), (L, 46, l1)] → Calls Tryd.prog 15 #[.pointer (some ⟨L, 0, none⟩), .int .i64 1] W (Saw wb [(D, 46, d0), (L, 46, l2)] (.tuple #[.string ⟨#[2, 1, 1, 98, 0, 0, 0, 2, 0, 0, 0, 0, 0, 0, 0, 6]⟩, .int .i64 0]))) := by
    refine Lib.hid fun wb W D L M K Z h => ?_
    have := h.answer46 1 rfl G1 1
    rw [E2] at this
    exact this
  have T3 : Hid (∀ (wb W : World) (D L M K Z : Nat), Ss wb W [(D, 46, d0), (L, 46, l2), (M, 46, m0)] → Calls Tryd.prog 14 #[.pointer (some ⟨M, 0, none⟩), .string ⟨#[1, 1, 1, 97, 0, 0, 0, 1, 1, 98]⟩] W (Saw wb [(D, 46, d0), (L, 46, l2), (M, 46, m1)] (.tuple #[.string ⟨#[]⟩, .int .i64 0]))) := by
    refine Lib.hid fun wb W D L M K Z h => ?_
    have := h.take46 2 rfl F3 ⟨#[1, 1, 1, 97, 0, 0, 0, 1, 1, 98]⟩ (by decide)
    rw [E1y] at this
    exact this
  have T4 : Hid (∀ (wb W : World) (D L M K Z : Nat), Ss wb W [(D, 46, d0), (L, 46, l2), (M, 46, m1)] → Calls Tryd.prog 15 #[.pointer (some ⟨M, 0, none⟩), .int .i64 1] W (Saw wb [(D, 46, d0), (L, 46, l2), (M, 46, m2)] (.tuple #[.string ⟨#[2, 1, 1, 98, 0, 0, 0, 2, 0, 0, 0, 0, 0, 0, 0, 6]⟩, .int .i64 0]))) := by
    refine Lib.hid fun wb W D L M K Z h => ?_
    have := h.answer46 2 rfl G2 1
    rw [E2y] at this
    exact this
  have T5 : Hid (∀ (wb W : World) (D L M K Z : Nat), Ss wb W [(D, 46, d0), (L, 46, l2), (M, 46, m2)] → Calls Tryd.prog 14 #[.pointer (some ⟨D, 0, none⟩), .string ⟨#[2, 1, 1, 98, 0, 0, 0, 2, 0, 0, 0, 0, 0, 0, 0, 6]⟩] W (Saw wb [(D, 46, d1), (L, 46, l2), (M, 46, m2)] (.tuple #[.string rp, .int .i64 0]))) := by
    refine Lib.hid fun wb W D L M K Z h => ?_
    have := h.take46 0 rfl F1 ⟨#[2, 1, 1, 98, 0, 0, 0, 2, 0, 0, 0, 0, 0, 0, 0, 6]⟩ (by decide)
    rw [E3] at this
    exact this
  have T6 : Hid (∀ (wb W : World) (D L M K Z : Nat), Ss wb W [(D, 46, d1), (L, 46, l2), (M, 46, m2)] → Calls Tryd.prog 14 #[.pointer (some ⟨M, 0, none⟩), .string rp] W (Saw wb [(D, 46, d1), (L, 46, l2), (M, 46, m3)] (.tuple #[.string ⟨#[]⟩, .int .i64 350]))) := by
    refine Lib.hid fun wb W D L M K Z h => ?_
    have := h.take46 2 rfl G3 rp (by rw [Z2]; decide)
    rw [E4'] at this
    exact this
  have T7 : Hid (∀ (wb W : World) (D L M K Z : Nat), Ss wb W [(D, 46, d1), (L, 46, l2), (M, 46, m3)] → Calls Tryd.prog 14 #[.pointer (some ⟨D, 0, none⟩), .string ⟨#[]⟩] W (Saw wb [(D, 46, d2), (L, 46, l2), (M, 46, m3)] (.tuple #[.string ⟨#[]⟩, .int .i64 6]))) := by
    refine Lib.hid fun wb W D L M K Z h => ?_
    have := h.take46 0 rfl G4 ⟨#[]⟩ (by decide)
    rw [E5'] at this
    exact this
  have T8 : Hid (∀ (wb W : World) (D L M K Z : Nat), Ss wb W [(D, 46, d2), (L, 46, l2), (M, 46, m3), (K, 46, d0)] → Calls Tryd.prog 14 #[.pointer (some ⟨K, 0, none⟩), .string ⟨#[2, 2]⟩] W (Saw wb [(D, 46, d2), (L, 46, l2), (M, 46, m3), (K, 46, k1)] (.tuple #[.string ⟨#[]⟩, .int .i64 351]))) := by
    refine Lib.hid fun wb W D L M K Z h => ?_
    have := h.take46 3 rfl F1 ⟨#[2, 2]⟩ (by decide)
    rw [E6'] at this
    exact this
  have P1 : Hid (∀ W B, Blk W B 46 (sdC l1) → Calls Tryd.prog 17 #[.pointer (some ⟨B, 0, none⟩)] W fun e w' => e = .returned (.agg #[.string kA, .int .i64 1]) ∧ Below W.heap.size W w') := Lib.hid (fun W B h => by have := peerP_any l1 B W h; rw [hl1] at this; exact this)
  have P2 : Hid (∀ W B, Blk W B 46 (sdC l1) → Calls Tryd.prog 16 #[.pointer (some ⟨B, 0, none⟩)] W fun e w' => e = .returned (.int .i64 2) ∧ W = w') := Lib.hid (fun W B h => by have := state_any l1 B W h; rw [hl1] at this; exact this)
  have P3 : Hid (∀ W B, Blk W B 46 (sdC m3) → Calls Tryd.prog 16 #[.pointer (some ⟨B, 0, none⟩)] W fun e w' => e = .returned (.int .i64 4) ∧ W = w') := Lib.hid (fun W B h => by have := state_any m3 B W h; rw [hm3] at this; exact this)
  have P4 : Hid (∀ W B, Blk W B 46 (sdC d2) → Calls Tryd.prog 17 #[.pointer (some ⟨B, 0, none⟩)] W fun e w' => e = .returned (.agg #[.string kB, .int .i64 2]) ∧ Below W.heap.size W w') := Lib.hid (fun W B h => by have := peerP_any d2 B W h; rw [hd2, hd1] at this; exact this)
  have P5 : Hid (∀ W B, Blk W B 46 (sdC zeroS) → Calls Tryd.prog 17 #[.pointer (some ⟨B, 0, none⟩)] W fun e w' => e = .returned (.agg #[.string ⟨#[]⟩, .int .i64 0]) ∧ Below W.heap.size W w') := Lib.hid (fun W B h => peerP_any zeroS B W h)
  have AW := Lib.hid (fun W (t : Tabs W) => awakeS_any W t)
  have NT := Lib.hid (fun W => ktake_nil ⟨#[]⟩ W)
  have NS := Lib.hid (fun W => kstate_nil W)
  have AZ := Lib.hid (fun B W h => kanswer_zero B W h)
  have S0 := Lib.hid (((St.refl ht).alloc (.cells #[.string kA, .int .i64 1] 23)).alloc (.cells #[.string kB, .int .i64 2] 23))
  have BA0 := Lib.hid ((Blk.new w 23 #[.string kA, .int .i64 1]).alloc (.cells #[.string kB, .int .i64 2] 23))
  have BB0 := Lib.hid (Blk.new (w.alloc (.cells #[.string kA, .int .i64 1] 23)) 23 #[.string kB, .int .i64 2])
  clear ht E1 E1y E2 E2y E3 E4 E5 E6 E4' E5' E6' F1 F2 F3 G1 G2 G3 G4 HE OE Z2 hd0 hd1 hl0 hl1 hl2 hm0 hm1 hm2 hrp hd2 hm3 hk1
  go_enter Tryd.func4, Tryd.ntmps4
  go_wp2_with fail
  generalize (w.alloc (.cells #[.string kA, .int .i64 1] 23)).alloc (.cells #[.string kB, .int .i64 2] 23) = wb at S0 BA0 BB0 ⊢
  refine (DN.out _).mono ?_
  rintro e w1 ⟨rfl, k1b⟩
  have TB := Lib.hid (St.refl S0.out.tabs)
  have SS1 := Lib.hid (Ss.ofSt (TB.out.keep k1b))
  clear k1b TB
  have a0 := (BA0.out.below SS1.out.st.bel BA0.out.lt).cell 0
  have a1 := (BA0.out.below SS1.out.st.bel BA0.out.lt).cell 1
  have b0 := (BB0.out.below SS1.out.st.bel BB0.out.lt).cell 0
  have b1 := (BB0.out.below SS1.out.st.bel BB0.out.lt).cell 1
  simp only [List.getElem?_toArray, List.getElem?_cons_zero, List.getElem?_cons_succ, World.size_alloc] at a0 a1 b0 b1
  go_wp2_with fail
  refine (DC.out _ _ _ SS1.out).mono ?_
  rintro e w2 ⟨D, rfl, s2⟩
  have SS2 := Lib.hid s2
  clear s2 SS1 a0 a1 b0 b1
  have a0 := (BA0.out.below SS2.out.st.bel BA0.out.lt).cell 0
  have a1 := (BA0.out.below SS2.out.st.bel BA0.out.lt).cell 1
  have b0 := (BB0.out.below SS2.out.st.bel BB0.out.lt).cell 0
  have b1 := (BB0.out.below SS2.out.st.bel BB0.out.lt).cell 1
  simp only [List.getElem?_toArray, List.getElem?_cons_zero, List.getElem?_cons_succ, World.size_alloc] at a0 a1 b0 b1
  go_wp2_with fail
  refine (LC.out _ _ _ SS2.out).mono ?_
  rintro e w3 ⟨L, rfl, s3⟩
  have SS3 := Lib.hid s3
  clear s3 SS2 a0 a1 b0 b1
  go_wp2_with fail
  refine (T1.out _ _ D L 0 0 0 SS3.out).mono ?_
  rintro e w4 ⟨rfl, s4⟩
  have SS4 := Lib.hid s4
  clear s4 SS3
  have a0 := (BA0.out.below SS4.out.st.bel BA0.out.lt).cell 0
  have a1 := (BA0.out.below SS4.out.st.bel BA0.out.lt).cell 1
  have b0 := (BB0.out.below SS4.out.st.bel BB0.out.lt).cell 0
  have b1 := (BB0.out.below SS4.out.st.bel BB0.out.lt).cell 1
  simp only [List.getElem?_toArray, List.getElem?_cons_zero, List.getElem?_cons_succ, World.size_alloc] at a0 a1 b0 b1
  have HS0 : Hid (∀ n, (w4.drewN n).cell? ⟨w.heap.size, 0, none⟩ = some (.string kA) ∧ (w4.drewN n).cell? ⟨w.heap.size, 1, none⟩ = some (.int .i64 1) ∧ (w4.drewN n).cell? ⟨w.heap.size + 1, 0, none⟩ = some (.string kB) ∧ (w4.drewN n).cell? ⟨w.heap.size + 1, 1, none⟩ = some (.int .i64 2) ∧ St w4 (w4.drewN n)) := Lib.hid (fun n => ⟨a0, a1, b0, b1, (St.refl SS4.out.st.tabs).drewN n⟩)
  go_wp2
  go_region_held3 (fun w' => w'.cell? ⟨w.heap.size, 0, none⟩ = some (.string kA) ∧ w'.cell? ⟨w.heap.size, 1, none⟩ = some (.int .i64 1) ∧ w'.cell? ⟨w.heap.size + 1, 0, none⟩ = some (.string kB) ∧ w'.cell? ⟨w.heap.size + 1, 1, none⟩ = some (.int .i64 2) ∧ St w4 w')
    (first | exact HS0.out 1 | (obtain ⟨s1, s2, s3, s4, s5⟩ := (‹_ ∧ _ ∧ _ ∧ _ ∧ St _ _›); first | exact ⟨s1, s2, s3, s4, s5⟩ | exact ⟨cell_keep (by assumption) s1, cell_keep (by assumption) s2, cell_keep (by assumption) s3, cell_keep (by assumption) s4, s5.keep (by assumption)⟩))
    (first
      | (go_at_call 16; refine (P2.out _ L ((SS4.out.below (‹_ ∧ _ ∧ _ ∧ _ ∧ St _ _›).2.2.2.2.bel).get 1 rfl)).mono ?_; rintro e wz ⟨rfl, rfl⟩)
      | (go_at_call 17; refine (P1.out _ L ((SS4.out.below (‹_ ∧ _ ∧ _ ∧ _ ∧ St _ _›).2.2.2.2.bel).get 1 rfl)).mono ?_; rintro e wz ⟨rfl, bz⟩))
  have HSZ := Lib.hid (‹_ ∧ _ ∧ _ ∧ _ ∧ St w4 _›)
  clear a0 a1 b0 b1 HS0
  have SS5 := Lib.hid (SS4.out.below HSZ.out.2.2.2.2.bel)
  clear HSZ SS4
  go_wp2_with fail
  refine (T2.out _ _ D L 0 0 0 SS5.out).mono ?_
  rintro e w6 ⟨rfl, s6⟩
  have SS6 := Lib.hid s6
  clear s6 SS5
  have a0 := (BA0.out.below SS6.out.st.bel BA0.out.lt).cell 0
  have a1 := (BA0.out.below SS6.out.st.bel BA0.out.lt).cell 1
  have b0 := (BB0.out.below SS6.out.st.bel BB0.out.lt).cell 0
  have b1 := (BB0.out.below SS6.out.st.bel BB0.out.lt).cell 1
  simp only [List.getElem?_toArray, List.getElem?_cons_zero, List.getElem?_cons_succ, World.size_alloc] at a0 a1 b0 b1
  go_wp2_with fail
  refine (MC.out _ _ _ SS6.out).mono ?_
  rintro e w7 ⟨M, rfl, s7⟩
  have SS7 := Lib.hid s7
  clear s7 SS6 a0 a1 b0 b1
  go_wp2_with fail
  refine (T3.out _ _ D L M 0 0 SS7.out).mono ?_
  rintro e w8 ⟨rfl, s8⟩
  have SS8 := Lib.hid s8
  clear s8 SS7
  go_wp2_with fail
  refine (T4.out _ _ D L M 0 0 SS8.out).mono ?_
  rintro e w9 ⟨rfl, s9⟩
  have SS9 := Lib.hid s9
  clear s9 SS8
  go_wp2_with fail
  refine (T5.out _ _ D L M 0 0 SS9.out).mono ?_
  rintro e w10 ⟨rfl, s10⟩
  have SS10 := Lib.hid s10
  clear s10 SS9
  go_wp2_with fail
  refine (T6.out _ _ D L M 0 0 SS10.out).mono ?_
  rintro e w11 ⟨rfl, s11⟩
  have SS11 := Lib.hid s11
  clear s11 SS10
  go_wp2_with fail
  refine (T7.out _ _ D L M 0 0 SS11.out).mono ?_
  rintro e w12 ⟨rfl, s12⟩
  have SS12 := Lib.hid s12
  clear s12 SS11
  have a0 := (BA0.out.below SS12.out.st.bel BA0.out.lt).cell 0
  have a1 := (BA0.out.below SS12.out.st.bel BA0.out.lt).cell 1
  have b0 := (BB0.out.below SS12.out.st.bel BB0.out.lt).cell 0
  have b1 := (BB0.out.below SS12.out.st.bel BB0.out.lt).cell 1
  simp only [List.getElem?_toArray, List.getElem?_cons_zero, List.getElem?_cons_succ, World.size_alloc] at a0 a1 b0 b1
  go_wp2_with fail
  refine (DC.out _ _ _ SS12.out).mono ?_
  rintro e w13 ⟨K, rfl, s13⟩
  have SS13 := Lib.hid s13
  clear s13 SS12 a0 a1 b0 b1
  go_wp2_with fail
  refine (T8.out _ _ D L M K 0 SS13.out).mono ?_
  rintro e w14 ⟨rfl, s14⟩
  have SS14 := Lib.hid s14
  clear s14 SS13
  have a0 := (BA0.out.below SS14.out.st.bel BA0.out.lt).cell 0
  have a1 := (BA0.out.below SS14.out.st.bel BA0.out.lt).cell 1
  have b0 := (BB0.out.below SS14.out.st.bel BB0.out.lt).cell 0
  have b1 := (BB0.out.below SS14.out.st.bel BB0.out.lt).cell 1
  simp only [List.getElem?_toArray, List.getElem?_cons_zero, List.getElem?_cons_succ, World.size_alloc] at a0 a1 b0 b1
  go_wp2_with fail
  have ZB : Hid (Blk (w14.alloc (.cells #[.string ⟨#[]⟩, .int .i64 0, .string ⟨#[]⟩, .int .i64 0, .string ⟨#[]⟩, .string ⟨#[]⟩, .int .u64 0, .int .u64 0, .bool false, .bool false, .int .i64 0] 46)) w14.heap.size 46 (sdC zeroS)) := Lib.hid (Blk.new w14 46 (sdC zeroS))
  have SZ := Lib.hid (SS14.out.below ((Below.refl w14.heap.size w14).alloc (Nat.le_refl _) (.cells #[.string ⟨#[]⟩, .int .i64 0, .string ⟨#[]⟩, .int .i64 0, .string ⟨#[]⟩, .string ⟨#[]⟩, .int .u64 0, .int .u64 0, .bool false, .bool false, .int .i64 0] 46)))
  generalize w14.alloc (.cells #[.string ⟨#[]⟩, .int .i64 0, .string ⟨#[]⟩, .int .i64 0, .string ⟨#[]⟩, .string ⟨#[]⟩, .int .u64 0, .int .u64 0, .bool false, .bool false, .int .i64 0] 46) = wz at ZB SZ ⊢
  generalize w14.heap.size = Z at ZB ⊢
  clear a0 a1 b0 b1
  have b0 := (BB0.out.below SZ.out.st.bel BB0.out.lt).cell 0
  have b1 := (BB0.out.below SZ.out.st.bel BB0.out.lt).cell 1
  simp only [List.getElem?_toArray, List.getElem?_cons_zero, List.getElem?_cons_succ, World.size_alloc] at b0 b1
  refine (NT.out _).mono ?_
  rintro e w' ⟨rfl, rfl⟩
  go_wp2_with fail
  refine (AZ.out Z _ ZB.out).mono ?_
  rintro e w' ⟨rfl, rfl⟩
  have HS0 : Hid (∀ n, (wz.drewN n).cell? ⟨w.heap.size + 1, 0, none⟩ = some (.string kB) ∧ (wz.drewN n).cell? ⟨w.heap.size + 1, 1, none⟩ = some (.int .i64 2) ∧ St wz (wz.drewN n)) := Lib.hid (fun n => ⟨b0, b1, (St.refl SZ.out.st.tabs).drewN n⟩)
  have ZL := Lib.hid ZB.out.lt
  go_wp2
  go_region_held3 (fun w' => w'.cell? ⟨w.heap.size + 1, 0, none⟩ = some (.string kB) ∧ w'.cell? ⟨w.heap.size + 1, 1, none⟩ = some (.int .i64 2) ∧ St wz w')
    (first | exact HS0.out 1 | (obtain ⟨s1, s2, s3⟩ := (‹_ ∧ _ ∧ St _ _›); first | exact ⟨s1, s2, s3⟩ | exact ⟨cell_keep (by assumption) s1, cell_keep (by assumption) s2, s3.keep (by assumption)⟩))
    (first
      | (go_at_call_of 16 (Value.pointer (some ⟨M, 0, none⟩)); refine (P3.out _ M ((SZ.out.below (‹_ ∧ _ ∧ St _ _›).2.2.bel).get 2 rfl)).mono ?_; rintro e wy ⟨rfl, rfl⟩)
      | (go_at_call_of 16 (Value.pointer none); refine (NS.out _).mono ?_; rintro e wy ⟨rfl, rfl⟩)
      | (go_at_call_of 17 (Value.pointer (some ⟨D, 0, none⟩)); refine (P4.out _ D ((SZ.out.below (‹_ ∧ _ ∧ St _ _›).2.2.bel).get 0 rfl)).mono ?_; rintro e wy ⟨rfl, by1⟩)
      | (go_at_call_of 17 (Value.pointer (some ⟨Z, 0, none⟩)); refine (P5.out _ Z (ZB.out.below (‹_ ∧ _ ∧ St _ _›).2.2.bel ZL.out)).mono ?_; rintro e wy ⟨rfl, by2⟩)
      | (go_at_call 11; refine (AW.out _ (‹_ ∧ _ ∧ St _ _›).2.2.tabs).mono ?_; rintro e wy ⟨rfl, by3⟩))
  all_goals
    have stz := (‹_ ∧ _ ∧ St wz _›).2.2
    have belz := (S0.out.keep SZ.out.st.bel).keep stz.bel
    go_wp2
    go_ret
    exact ⟨rfl, belz.bel⟩
end Go.Proofs.YtnkkbkceapcahaaDoor
