/- awake: one handshake ends as the document says. -/
import Derived.Test.YtnkkbkceapcahaaDoorPack
namespace Go.Proofs.YtnkkbkceapcahaaDoor
open Go.RowKit Go.Rt Go.Rw

theorem wake_dial : dialB ⟨#[97]⟩ 1 ⟨#[98]⟩ = true := by decide +kernel
theorem wake_hello : helloF ⟨⟨#[97]⟩, 1⟩ ⟨#[98]⟩ = ⟨#[1, 1, 1, 97, 0, 0, 0, 1, 1, 98]⟩ := ba_ext (by decide +kernel)
theorem wake_listen : (nameF ⟨#[98]⟩ && genI 2) = true := by decide +kernel
abbrev wA : Pr := ⟨⟨#[97]⟩, 1⟩
abbrev wB : Pr := ⟨⟨#[98]⟩, 2⟩
theorem wA_ok : PrOk wA := ⟨by decide +kernel, by decide, by decide⟩
theorem wB_ok : PrOk wB := ⟨by decide +kernel, by decide, by decide⟩
/-- The plain handshake of two sides, the names fitting. -/
theorem take_hello (l : Sd) (h1 : l.state = 1) (hd : l.dials = false) (he : l.sent = false) (b : ByteArray) : takeF l b = greetF l b := by
  unfold takeF moveF; rw [if_neg (by simp [h1])]; simp [hd, he]
theorem take_offer' (d : Sd) (h1 : d.state = 1) (hd : d.dials = true) (he : d.sent = false) (b : ByteArray) : takeF d b = offerF d b := by
  unfold takeF moveF; rw [if_neg (by simp [h1])]; simp [hd, he]
theorem take_reply' (l : Sd) (h1 : l.state = 1) (hd : l.dials = false) (he : l.sent = true) (b : ByteArray) : takeF l b = replyF l b := by
  unfold takeF moveF; rw [if_neg (by simp [h1])]; simp [hd, he]
theorem take_ack' (d : Sd) (h1 : d.state = 1) (hd : d.dials = true) (he : d.sent = true) (b : ByteArray) : takeF d b = ackF d b := by
  unfold takeF moveF; rw [if_neg (by simp [h1])]; simp [hd, he]
/-- The sides and messages of a handshake, step by step. -/
def lis1 (y : Pr) (cy : ByteArray) (ky : Nat) (x : Pr) : Sd := { listenS y cy ky with other := x, state := 2 }
def lis2 (y : Pr) (cy : ByteArray) (ky : Nat) (x : Pr) : Sd := { listenS y cy ky with other := x, state := 1, sent := true }
def lis3 (y : Pr) (cy : ByteArray) (ky : Nat) (x : Pr) (kx : Nat) : Sd := { listenS y cy ky with other := x, state := 3, sent := true, their := kx }
def dia1 (x : Pr) (want cx : ByteArray) (kx : Nat) (y : Pr) (ky : Nat) : Sd := { dialS x want cx kx with other := y, their := ky, sent := true }
def dia2 (x : Pr) (want cx : ByteArray) (kx : Nat) (y : Pr) (ky : Nat) : Sd := { dialS x want cx kx with other := y, their := ky, sent := true, state := 3 }
def proofD (x y : Pr) (c : ByteArray) (kx ky : Nat) : ByteArray := proofF letD x y c ky kx
def proofL (x y : Pr) (c : ByteArray) (kx ky : Nat) : ByteArray := proofF letL y x c kx ky
theorem step_hello (x y : Pr) (hx : PrOk x) (cy : ByteArray) (ky : Nat) (want : ByteArray) (hw : nameF want = true) (h1 : seqB want y.name = true) (h2 : seqB x.name y.name = false) :
    takeF (listenS y cy ky) (helloF x want) = (lis1 y cy ky x, ⟨#[]⟩, 0) := by
  rw [take_hello _ rfl rfl rfl, greet_hello _ x hx want hw, if_neg]
  · rfl
  · show ¬ (seqB want y.name = false ∨ seqB x.name y.name = true)
    rw [h1, h2]
    simp
theorem step_offer (x y : Pr) (cy : ByteArray) (ky : Nat) : answerF (lis1 y cy ky x) 1 = (lis2 y cy ky x, offerM y ky, 0) := answerF_accept _ (by simp [lis1])
theorem step_reply (x y : Pr) (hy : PrOk y) (want cx : ByteArray) (kx ky : Nat) (hk : ky ≤ 18446744073709551615) (h1 : seqB y.name want = true) :
    takeF (dialS x want cx kx) (offerM y ky) = (dia1 x want cx kx y ky, replyM kx (proofD x y cx kx ky), 0) := by
  rw [take_offer' _ rfl rfl rfl, offer_offer _ y hy ky hk, if_neg]
  · rfl
  · show ¬ (seqB y.name want = false)
    rw [h1]; decide
theorem step_ack (x y : Pr) (cy P : ByteArray) (kx ky : Nat) (hk : kx ≤ 18446744073709551615) (hP : P.size = 32) :
    takeF (lis2 y cy ky x) (replyM kx P) = if seqB P (proofD x y cy kx ky) = false then failS { lis2 y cy ky x with their := kx } 350 else (lis3 y cy ky x kx, ackC ++ proofL x y cy kx ky, 0) := by
  rw [take_reply' _ rfl rfl rfl, reply_reply _ kx hk P hP]
  rfl
theorem step_done (x y : Pr) (want cx P : ByteArray) (kx ky : Nat) (hP : P.size = 32) :
    takeF (dia1 x want cx kx y ky) (ackC ++ P) = if seqB P (proofL x y cx kx ky) = false then failS (dia1 x want cx kx y ky) 350 else (dia2 x want cx kx y ky, ⟨#[]⟩, 0) := by
  rw [take_ack' _ rfl rfl rfl, ack_ack _ P hP]
  rfl
theorem proofD_size (x y : Pr) (c : ByteArray) (kx ky : Nat) : (proofD x y c kx ky).size = 32 := macS_size _ _
theorem proofL_size (x y : Pr) (c : ByteArray) (kx ky : Nat) : (proofL x y c kx ky).size = 32 := macS_size _ _
theorem Fine.dialS {x : Pr} (hx : PrOk x) {want cx : ByteArray} {kx : Nat} (hw : want.size ≤ 6000) (hc : cx.size ≤ 6000) (hk : kx ≤ 18446744073709551615) : Fine (dialS x want cx kx) :=
  ⟨⟨⟨hx.1, hx.2.2⟩, ⟨by show (0 : Nat) ≤ 32; omega, by show (0 : Nat) ≤ _; omega⟩, hw, hc, hk, by show (0 : Nat) ≤ _; omega⟩, by simp [YtnkkbkceapcahaaDoor.dialS]⟩
theorem Fine.listenS {x : Pr} (hx : PrOk x) {cx : ByteArray} {kx : Nat} (hc : cx.size ≤ 6000) (hk : kx ≤ 18446744073709551615) : Fine (listenS x cx kx) :=
  ⟨⟨⟨hx.1, hx.2.2⟩, ⟨by show (0 : Nat) ≤ 32; omega, by show (0 : Nat) ≤ _; omega⟩, by show (0 : Nat) ≤ _; omega, hc, hk, by show (0 : Nat) ≤ _; omega⟩, by simp [YtnkkbkceapcahaaDoor.listenS]⟩
theorem replyM_size (k : Nat) (P : ByteArray) (h : P.size = 32) : (replyM k P).size = 41 := by
  unfold replyM
  rw [ByteArray.size_append, ByteArray.size_append, numF_size, h]
  rfl
theorem offerM_size (y : Pr) (k : Nat) : (offerM y k).size = y.name.size + 15 := by
  unfold offerM
  rw [ByteArray.size_append, ByteArray.size_append, numF_size, encF_size]
  have : offerC.size = 2 := rfl
  omega

set_option maxRecDepth 100000 in
set_option maxHeartbeats 2000000 in
theorem awakeS_any (w : World) (ht : Tabs w) : Calls Tryd.prog 11 #[] w fun e w' => e = .returned (.bool true) ∧ Below w.heap.size w w' := by
  have S0 := Lib.hid (Ss.start ht)
  have F1 : Hid (Fine (dialS wA ⟨#[98]⟩ ⟨#[120]⟩ 5)) := Lib.hid (Fine.dialS wA_ok (by decide) (by decide) (by decide))
  have F2 : Hid (Fine (listenS wB ⟨#[120]⟩ 6)) := Lib.hid (Fine.listenS wB_ok (by decide) (by decide))
  have E1 := Lib.hid (step_hello wA wB wA_ok ⟨#[120]⟩ 6 ⟨#[98]⟩ (by decide +kernel) (by decide +kernel) (by decide +kernel))
  have E2 := Lib.hid (step_offer wA wB ⟨#[120]⟩ 6)
  have E3 := Lib.hid (step_reply wA wB wB_ok ⟨#[98]⟩ ⟨#[120]⟩ 5 6 (by decide) (by decide +kernel))
  have E4 : Hid (takeF (lis2 wB ⟨#[120]⟩ 6 wA) (replyM 5 (proofD wA wB ⟨#[120]⟩ 5 6)) = (lis3 wB ⟨#[120]⟩ 6 wA 5, ackC ++ proofL wA wB ⟨#[120]⟩ 5 6, 0)) :=
    Lib.hid (by rw [step_ack wA wB ⟨#[120]⟩ _ 5 6 (by decide) (proofD_size _ _ _ _ _), seqB_refl, if_neg (by decide)])
  have E5 : Hid (takeF (dia1 wA ⟨#[98]⟩ ⟨#[120]⟩ 5 wB 6) (ackC ++ proofL wA wB ⟨#[120]⟩ 5 6) = (dia2 wA ⟨#[98]⟩ ⟨#[120]⟩ 5 wB 6, ⟨#[]⟩, 0)) :=
    Lib.hid (by rw [step_done wA wB _ _ _ 5 6 (proofL_size _ _ _ _ _), seqB_refl, if_neg (by decide)])
  have G1 : Hid (Fine (lis1 wB ⟨#[120]⟩ 6 wA)) := Lib.hid (by have := F2.out.take (helloF wA ⟨#[98]⟩); rw [E1.out] at this; exact this)
  have G2 : Hid (Fine (lis2 wB ⟨#[120]⟩ 6 wA)) := Lib.hid (by have := G1.out.answer 1; rw [E2.out] at this; exact this)
  have G3 : Hid (Fine (dia1 wA ⟨#[98]⟩ ⟨#[120]⟩ 5 wB 6)) := Lib.hid (by have := F1.out.take (offerM wB 6); rw [E3.out] at this; exact this)
  have Z1 : Hid ((offerM wB 6).size ≤ 100000) := Lib.hid (by rw [offerM_size]; decide)
  have Z2 : Hid ((replyM 5 (proofD wA wB ⟨#[120]⟩ 5 6)).size = 41) := Lib.hid (replyM_size _ _ (proofD_size _ _ _ _ _))
  have Z3 : Hid ((ackC ++ proofL wA wB ⟨#[120]⟩ 5 6).size = 33) := Lib.hid (by rw [ByteArray.size_append, proofL_size]; rfl)
  have DC : Hid (∀ W, Ss w W [] → Calls Tryd.prog 12 #[.agg #[.string ⟨#[97]⟩, .int .i64 1], .string ⟨#[98]⟩, .string ⟨#[120]⟩, .int .u64 5] W (SawNew w [] 46 (dialS wA ⟨#[98]⟩ ⟨#[120]⟩ 5) fun B => .tuple #[.pointer (some ⟨B, 0, none⟩), .string ⟨#[1, 1, 1, 97, 0, 0, 0, 1, 1, 98]⟩, .int .i64 0])) := by
    refine Lib.hid fun W h => ?_
    have := h.dial46 ⟨#[97]⟩ 1 ⟨#[98]⟩ ⟨#[120]⟩ 5 wake_dial
    rw [wake_hello] at this
    exact this
  have EH := Lib.hid wake_hello
  have LC : Hid (∀ W L, Ss w W L → Calls Tryd.prog 13 #[.agg #[.string ⟨#[98]⟩, .int .i64 2], .string ⟨#[120]⟩, .int .u64 6] W (SawNew w L 46 (listenS wB ⟨#[120]⟩ 6) fun B => .tuple #[.pointer (some ⟨B, 0, none⟩), .int .i64 0])) :=
    Lib.hid fun W L h => h.listen46 ⟨#[98]⟩ 2 ⟨#[120]⟩ 6 wake_listen
  have T1 : Hid (∀ W D Lb, Ss w W [(D, 46, dialS wA ⟨#[98]⟩ ⟨#[120]⟩ 5), (Lb, 46, listenS wB ⟨#[120]⟩ 6)] → Calls Tryd.prog 14 #[.pointer (some ⟨Lb, 0, none⟩), .string ⟨#[1, 1, 1, 97, 0, 0, 0, 1, 1, 98]⟩] W (Saw w [(D, 46, dialS wA ⟨#[98]⟩ ⟨#[120]⟩ 5), (Lb, 46, lis1 wB ⟨#[120]⟩ 6 wA)] (.tuple #[.string ⟨#[]⟩, .int .i64 0]))) := by
    refine Lib.hid fun W D Lb h => ?_
    have := h.take46 1 rfl F2.out (helloF wA ⟨#[98]⟩) (by rw [EH.out]; decide)
    rw [E1.out, EH.out] at this
    exact this
  have T2 : Hid (∀ W D Lb, Ss w W [(D, 46, dialS wA ⟨#[98]⟩ ⟨#[120]⟩ 5), (Lb, 46, lis1 wB ⟨#[120]⟩ 6 wA)] → Calls Tryd.prog 15 #[.pointer (some ⟨Lb, 0, none⟩), .int .i64 1] W (Saw w [(D, 46, dialS wA ⟨#[98]⟩ ⟨#[120]⟩ 5), (Lb, 46, lis2 wB ⟨#[120]⟩ 6 wA)] (.tuple #[.string (offerM wB 6), .int .i64 0]))) := by
    refine Lib.hid fun W D Lb h => ?_
    have := h.answer46 1 rfl G1.out 1
    rw [E2.out] at this
    exact this
  have T3 : Hid (∀ W D Lb, Ss w W [(D, 46, dialS wA ⟨#[98]⟩ ⟨#[120]⟩ 5), (Lb, 46, lis2 wB ⟨#[120]⟩ 6 wA)] → Calls Tryd.prog 14 #[.pointer (some ⟨D, 0, none⟩), .string (offerM wB 6)] W (Saw w [(D, 46, dia1 wA ⟨#[98]⟩ ⟨#[120]⟩ 5 wB 6), (Lb, 46, lis2 wB ⟨#[120]⟩ 6 wA)] (.tuple #[.string (replyM 5 (proofD wA wB ⟨#[120]⟩ 5 6)), .int .i64 0]))) := by
    refine Lib.hid fun W D Lb h => ?_
    have := h.take46 0 rfl F1.out (offerM wB 6) Z1.out
    rw [E3.out] at this
    exact this
  have T4 : Hid (∀ W D Lb, Ss w W [(D, 46, dia1 wA ⟨#[98]⟩ ⟨#[120]⟩ 5 wB 6), (Lb, 46, lis2 wB ⟨#[120]⟩ 6 wA)] → Calls Tryd.prog 14 #[.pointer (some ⟨Lb, 0, none⟩), .string (replyM 5 (proofD wA wB ⟨#[120]⟩ 5 6))] W (Saw w [(D, 46, dia1 wA ⟨#[98]⟩ ⟨#[120]⟩ 5 wB 6), (Lb, 46, lis3 wB ⟨#[120]⟩ 6 wA 5)] (.tuple #[.string (ackC ++ proofL wA wB ⟨#[120]⟩ 5 6), .int .i64 0]))) := by
    refine Lib.hid fun W D Lb h => ?_
    have := h.take46 1 rfl G2.out (replyM 5 (proofD wA wB ⟨#[120]⟩ 5 6)) (by rw [Z2.out]; decide)
    rw [E4.out] at this
    exact this
  have T5 : Hid (∀ W D Lb, Ss w W [(D, 46, dia1 wA ⟨#[98]⟩ ⟨#[120]⟩ 5 wB 6), (Lb, 46, lis3 wB ⟨#[120]⟩ 6 wA 5)] → Calls Tryd.prog 14 #[.pointer (some ⟨D, 0, none⟩), .string (ackC ++ proofL wA wB ⟨#[120]⟩ 5 6)] W (Saw w [(D, 46, dia2 wA ⟨#[98]⟩ ⟨#[120]⟩ 5 wB 6), (Lb, 46, lis3 wB ⟨#[120]⟩ 6 wA 5)] (.tuple #[.string ⟨#[]⟩, .int .i64 0]))) := by
    refine Lib.hid fun W D Lb h => ?_
    have := h.take46 0 rfl G3.out (ackC ++ proofL wA wB ⟨#[120]⟩ 5 6) (by rw [Z3.out]; decide)
    rw [E5.out] at this
    exact this
  obtain ⟨M2, hM2⟩ : ∃ M, M = offerM wB 6 := ⟨_, rfl⟩
  obtain ⟨M3, hM3⟩ : ∃ M, M = replyM 5 (proofD wA wB ⟨#[120]⟩ 5 6) := ⟨_, rfl⟩
  obtain ⟨M4, hM4⟩ : ∃ M, M = ackC ++ proofL wA wB ⟨#[120]⟩ 5 6 := ⟨_, rfl⟩
  have Q3 : Hid (M3.size = 41) := Lib.hid (by rw [hM3]; exact Z2.out)
  have Q4 : Hid (M4.size = 33) := Lib.hid (by rw [hM4]; exact Z3.out)
  rw [← hM2] at T2 T3
  rw [← hM3] at T3 T4
  rw [← hM4] at T4 T5
  clear ht hM2 hM3 hM4 E1 E2 E3 E4 E5 F1 F2 G1 G2 G3 Z1 Z2 Z3 EH
  go_enter Tryd.func11, Tryd.ntmps11
  go_wp2_with fail
  refine (DC.out _ S0.out).mono ?_
  rintro e w1 ⟨D, rfl, s1⟩
  have S1 := Lib.hid s1
  clear s1 S0 DC
  go_wp2_with fail
  refine (LC.out _ _ S1.out).mono ?_
  rintro e w2 ⟨Lb, rfl, s2⟩
  have S2 := Lib.hid s2
  clear s2 S1 LC
  go_wp2_with fail
  refine (T1.out _ D Lb S2.out).mono ?_
  rintro e w3 ⟨rfl, s3⟩
  have S3 := Lib.hid s3
  clear s3 S2 T1
  go_wp2_with fail
  refine (T2.out _ D Lb S3.out).mono ?_
  rintro e w4 ⟨rfl, s4⟩
  have S4 := Lib.hid s4
  clear s4 S3 T2
  go_wp2_with fail
  refine (T3.out _ D Lb S4.out).mono ?_
  rintro e w5 ⟨rfl, s5⟩
  have S5 := Lib.hid s5
  clear s5 S4 T3
  go_wp2_with fail
  refine (T4.out _ D Lb S5.out).mono ?_
  rintro e w6 ⟨rfl, s6⟩
  have S6 := Lib.hid s6
  clear s6 S5 T4
  go_wp2_with fail
  refine (T5.out _ D Lb S6.out).mono ?_
  rintro e w7 ⟨rfl, s7⟩
  have S7 := Lib.hid s7
  clear s7 S6 T5
  have q3 : ((M3.size : Int) == 41) = true := by rw [beq_iff_eq, Q3.out]; rfl
  have q4 : ((M4.size : Int) == 33) = true := by rw [beq_iff_eq, Q4.out]; rfl
  have A1 : Hid (Calls Tryd.prog 16 #[.pointer (some ⟨D, 0, none⟩)] w7 fun e W' => e = .returned (.int .i64 3) ∧ w7 = W') := Lib.hid (S7.out.state46 0 rfl)
  have A2 : Hid (Calls Tryd.prog 16 #[.pointer (some ⟨Lb, 0, none⟩)] w7 fun e W' => e = .returned (.int .i64 3) ∧ w7 = W') := Lib.hid (S7.out.state46 1 rfl)
  go_wp2_with fail
  refine A1.out.mono ?_
  rintro e w8 ⟨rfl, rfl⟩
  go_wp2_with fail
  refine A2.out.mono ?_
  rintro e w9 ⟨rfl, rfl⟩
  go_wp2
  go_ret
  exact ⟨rfl, S7.out.st.bel⟩
end Go.Proofs.YtnkkbkceapcahaaDoor
