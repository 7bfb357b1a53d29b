/- The encoding of a valid term is short. -/
import Derived.Test.YtoaimoemaoinhaaGreatDoorPlain
namespace Go.Proofs.YtoaimoemaoinhaaGreatDoor
open Go.RowKit Go.Rt Go.Rw

theorem head_short {f : Fl} {l : List Tm} (h : Shape f l) (hf : fitF f) (n : Nat) (hn : n = l.length) : (headB f n).length ≤ 80 * sizeO f l.length := by
  subst hn
  cases h with
  | int n =>
    have := intB_len n hf.2.2.1
    show (intB n).length ≤ 80 * sizeO _ _
    have : sizeO ⟨1, n, 0, noB, noB, 0, noB, 0⟩ ([] : List Tm).length = 1 := rfl
    omega
  | atom s h =>
    have := nameF_size s h
    have e : (headB ⟨2, 0, 0, s, noB, 0, noB, 0⟩ ([] : List Tm).length).length = s.size + 2 := atomB_len s
    have : sizeO ⟨2, 0, 0, s, noB, 0, noB, 0⟩ ([] : List Tm).length = 1 := rfl
    omega
  | ref n g s hn hg h =>
    have := nameF_size s h
    have e : (headB ⟨3, n, g, s, noB, 0, noB, 0⟩ ([] : List Tm).length).length = s.size + 13 := by simp [headB, atomB_len, num4_len]
    have : sizeO ⟨3, n, g, s, noB, 0, noB, 0⟩ ([] : List Tm).length = 1 := rfl
    omega
  | clo n g s a l hn hg h ha hl =>
    have := nameF_size s h
    have e : (headB ⟨4, n, g, s, noB, a, noB, 0⟩ l.length).length = s.size + 11 := by simp [headB, atomB_len, num4_len, num2_len]; omega
    have : sizeO ⟨4, n, g, s, noB, a, noB, 0⟩ l.length = 1 := rfl
    omega
  | exp s f a h h2 ha =>
    have := nameF_size s h
    have := nameF_size f h2
    have := intB_len a (by omega)
    have e : (headB ⟨5, 0, 0, s, f, a, noB, 0⟩ ([] : List Tm).length).length = 1 + (s.size + 2) + (f.size + 2) + (intB a).length := by simp [headB, atomB_len]; omega
    have : sizeO ⟨5, 0, 0, s, f, a, noB, 0⟩ ([] : List Tm).length = 1 := rfl
    omega
  | pid n g s hn hg h =>
    have := nameF_size s h
    have e : (headB ⟨6, n, g, s, noB, 0, noB, 0⟩ ([] : List Tm).length).length = s.size + 15 := by simp [headB, atomB_len, num4_len]
    have : sizeO ⟨6, n, g, s, noB, 0, noB, 0⟩ ([] : List Tm).length = 1 := rfl
    omega
  | tup l hl =>
    have e : (headB ⟨7, 0, 0, noB, noB, 0, noB, 0⟩ l.length).length = 2 := by simp [headB]
    have : sizeO ⟨7, 0, 0, noB, noB, 0, noB, 0⟩ l.length = 1 := rfl
    omega
  | nil => decide
  | list l hl =>
    have e : (headB ⟨9, 0, 0, noB, noB, 0, noB, 0⟩ l.length).length = 5 := by simp [headB, num4_len]
    have : sizeO ⟨9, 0, 0, noB, noB, 0, noB, 0⟩ l.length = l.length - 1 := rfl
    omega
  | bits s bt h =>
    unfold bitsB at h
    rw [Bool.and_eq_true, Bool.and_eq_true, decide_eq_true_eq] at h
    obtain ⟨hb, hs, _⟩ := h
    have hb := inB_iff hb
    have e : (headB ⟨10, 0, 0, noB, noB, 0, s, bt⟩ ([] : List Tm).length).length ≤ s.size + 6 := by
      unfold headB
      simp
      split <;> simp [num4_len] <;> omega
    have : sizeO ⟨10, 0, 0, noB, noB, 0, s, bt⟩ ([] : List Tm).length = 1 + (bt.toNat + 63) / 64 := rfl
    omega
mutual
theorem code_short : ∀ t, formed t = true → fitT t → (codeT t).length ≤ 80 * sizeT t
  | .mk f l, h, hf => by
    rw [formed, Bool.and_eq_true] at h
    rw [fitT] at hf
    have h1 := head_short (shape h.1) hf.1 l.length rfl
    have h2 := codeL_short l h.2 hf.2
    rw [codeT, sizeT, List.length_append]
    omega
theorem codeL_short : ∀ l, formedL l = true → fitL l → (codeL l).length ≤ 80 * sizeL l
  | [], _, _ => by simp [codeL]
  | t :: r, h, hf => by
    rw [formedL, Bool.and_eq_true] at h
    rw [fitL] at hf
    have h1 := code_short t h.1 hf.1
    have h2 := codeL_short r h.2 hf.2
    rw [codeL, sizeL, List.length_append]
    omega
end
theorem putS_short {t : Tm} (hv : validB t = true) (hf : fitT t) : (putS t).size = (codeT t).length + 1 ∧ (putS t).size ≤ 160001 := by
  obtain ⟨h1, h2⟩ := validB_iff hv
  have := code_short t h1 hf
  have e : (putS t).size = (codeT t).length + 1 := by rw [size_list, putS_list hv, List.length_cons]
  omega
end Go.Proofs.YtoaimoemaoinhaaGreatDoor
