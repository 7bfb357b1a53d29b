/- ShakeReplays: the noted messages as cells; what a run of unchanged messages notes. -/
import Derived.Test.YtnkkbkceapcahaaDoorRunR
import Derived.Test.YtnkkbkceapcahaaDoorBoth
namespace Go.Proofs.YtnkkbkceapcahaaDoor
open Go.RowKit Go.Rt Go.Rw

theorem said_cells {w0 W : World} {N : Nat} {T : List Nat} {a b c d : ByteArray} (h : Said w0 W N T [a, b, c, d]) :
    ∃ g cap, W.cell? ⟨N, 0, none⟩ = some (.slice (some ⟨g, 0, none⟩) 4 cap) ∧ W.cell? ⟨g, 0, none⟩ = some (.string a) ∧ W.cell? ⟨g, 1, none⟩ = some (.string b) ∧ W.cell? ⟨g, 2, none⟩ = some (.string c) ∧ W.cell? ⟨g, 3, none⟩ = some (.string d) ∧ w0.heap.size ≤ g ∧ g < W.heap.size ∧ w0.heap.size ≤ N ∧ N < W.heap.size := by
  obtain ⟨v, h⟩ := h
  rcases h.row.form with ⟨_, h0⟩ | ⟨g, cap, rfl, l1, l2, _⟩
  · cases h0
  · exact ⟨g, cap, h.box.cell, by simpa [sC] using h.row.cell sC_len 0 0 (by simp) (by omega), by simpa [sC] using h.row.cell sC_len 1 0 (by simp) (by omega), by simpa [sC] using h.row.cell sC_len 2 0 (by simp) (by omega), by simpa [sC] using h.row.cell sC_len 3 0 (by simp) (by omega), l1, l2, h.lo, h.box.lt⟩
theorem run_done (x y : Pr) (hx : PrOk x) (hy : PrOk y) (xw xc yc : ByteArray) (kx ky : Nat) (hkx : kx ≤ 18446744073709551615) (hky : ky ≤ 18446744073709551615) (hw : nameF xw = true) (h : bothB x y xw xc yc kx ky 1 = true) :
    runF (dialS x xw xc kx) (listenS y yc ky) (helloF x xw) 1 mId = (dia2 x xw xc kx y ky, lis3 y yc ky x kx, [helloF x xw, offerM y ky, replyM kx (proofD x y xc kx ky), ackC ++ proofL x y yc kx ky]) := by
  unfold bothB firstB metB at h
  simp only [Bool.and_eq_true, Bool.not_eq_true'] at h
  obtain ⟨⟨⟨⟨h1, h2⟩, _⟩, hq⟩, hr⟩ := h
  have e1 := step_hello x y hx yc ky xw hw h1 h2
  have e2 := step_offer x y yc ky
  have e3 := step_reply x y hy xw xc kx ky hky (by rw [seqB_comm]; exact h1)
  have e4 := step_ack x y yc (proofD x y xc kx ky) kx ky hkx (proofD_size _ _ _ _ _)
  rw [hq, if_neg (by decide)] at e4
  have e5 := step_done x y xw xc (proofL x y yc kx ky) kx ky (proofL_size _ _ _ _ _)
  rw [seqB_comm, hr, if_neg (by decide)] at e5
  unfold runF run2 run3 run4 mId
  simp [e1, e2, e3, e4, e5]
theorem both_met {x y : Pr} {xw xc yc : ByteArray} {kx ky : Nat} (h : bothB x y xw xc yc kx ky 1 = true) : seqB xw y.name = true ∧ seqB x.name y.name = false := by
  unfold bothB firstB metB at h
  simp only [Bool.and_eq_true, Bool.not_eq_true'] at h
  exact ⟨h.1.1.1.1, h.1.1.1.2⟩
def fail2 (s : Sd) (k : Nat) : Sd := { s with their := k, state := 4 }
def fail1 (s : Sd) : Sd := { s with state := 4 }
/-- The noted reply, taken by a listening side with another challenge. -/
theorem replay_listen (x y : Pr) (xc yc : ByteArray) (kx ky o : Nat) (hkx : kx ≤ 18446744073709551615) (h : seqB (proofD x y yc kx o) (proofD x y xc kx ky) = false) :
    takeF (lis2 y yc o x) (replyM kx (proofD x y xc kx ky)) = (fail2 (lis2 y yc o x) kx, ⟨#[]⟩, 350) := by
  rw [step_ack x y yc _ kx o hkx (proofD_size _ _ _ _ _), if_pos (by rw [seqB_comm]; exact h)]
  rfl
/-- The noted acknowledgement, taken by a dialing side with another challenge. -/
theorem replay_dial (x y : Pr) (xw xc yc : ByteArray) (kx ky o : Nat) (h : seqB (proofL x y xc o ky) (proofL x y yc kx ky) = false) :
    takeF (dia1 x xw xc o y ky) (ackC ++ proofL x y yc kx ky) = (fail1 (dia1 x xw xc o y ky), ⟨#[]⟩, 350) := by
  rw [step_done x y xw xc _ o ky (proofL_size _ _ _ _ _), if_pos (by rw [seqB_comm]; exact h)]
  rfl
theorem reply_tail (k : Nat) (P : ByteArray) : (replyM k P).extract 9 (replyM k P).size = P := by
  unfold replyM
  have := ext_right (replyC ++ numF k 8) P
  rw [ByteArray.size_append, numF_size] at this
  exact this
theorem ack_tail (P : ByteArray) : (ackC ++ P).extract 1 (ackC ++ P).size = P := ext_right ackC P
end Go.Proofs.YtnkkbkceapcahaaDoor
