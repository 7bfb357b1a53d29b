/- Plain laws of the external term format: back, once, front, apart. -/
import Derived.Test.YtoaimoemaoinhaaGreatDoorTake
namespace Go.Proofs.YtoaimoemaoinhaaGreatDoor
open Go.RowKit Go.Rt Go.Rw

theorem validB_iff {t : Tm} (h : validB t = true) : formed t = true ∧ sizeT t ≤ 2000 := by
  unfold validB at h
  rw [Bool.and_eq_true, decide_eq_true_eq] at h
  exact h
theorem size_list (s : ByteArray) : s.size = s.data.toList.length := by simp
theorem takeF_code {t : Tm} (hv : validB t = true) (hf : fitT t) {s : ByteArray} {m : List UInt8} (hs : s.data.toList = codeT t ++ m) : takeF s = (t, (codeT t).length, 0) := by
  obtain ⟨h1, h2⟩ := validB_iff hv
  have hc := cnt_size t h1
  unfold takeF
  rw [hs, term_back t h1 hf 2000 0 m (by omega) (by omega)]
  dsimp only
  rw [if_pos hv, size_list, hs, List.length_append]
  congr 2
  omega
/-- What is taken is valid, and its encoding is what was taken. -/
theorem takeF_snd {s : ByteArray} (hs : s.size ≤ 200000) (h : (takeF s).2.2 = 0) : validB (takeF s).1 = true ∧ fitT (takeF s).1 ∧ (∃ m, s.data.toList = codeT (takeF s).1 ++ m) ∧ (takeF s).2.1 = (codeT (takeF s).1).length := by
  unfold takeF at h ⊢
  cases hq : termP 2000 0 s.data.toList with
  | none => rw [hq] at h; cases h
  | some q =>
    obtain ⟨t, p, r⟩ := q
    rw [hq] at h
    dsimp only at h ⊢
    cases hv : validB t with
    | false => rw [hv] at h; cases h
    | true =>
      rw [if_pos rfl]
      obtain ⟨h1, _, h3⟩ := term_snd 2000 _ _ _ _ _ hq
      refine ⟨hv, h3 (by rw [← size_list]; exact hs), ⟨r, h1.symm⟩, ?_⟩
      have := congrArg List.length h1
      rw [List.length_append, ← size_list] at this
      dsimp only
      omega
theorem putS_valid {t : Tm} (h : validB t = true) : putS t = ⟨(131 :: codeT t).toArray⟩ := by unfold putS; rw [if_pos h]
theorem putS_list {t : Tm} (h : validB t = true) : (putS t).data.toList = 131 :: codeT t := by rw [putS_valid h]
theorem bytes_list {a b : ByteArray} (h : a.data.toList = b.data.toList) : a = b := ByteArray.ext (Array.toList_inj.1 h)
/-- Neither of two encodings is a prefix of the other, unless the terms are equal. -/
theorem code_apart {t u : Tm} (hv : validB t = true) (hf : fitT t) (gv : validB u = true) (gf : fitT u) {m k : List UInt8} (h : codeT t ++ m = codeT u ++ k) : t = u := by
  have h1 := takeF_code hv hf (s := ⟨(codeT t ++ m).toArray⟩) (m := m) rfl
  have h2 := takeF_code gv gf (s := ⟨(codeT t ++ m).toArray⟩) (m := k) (by rw [h])
  rw [h1] at h2
  exact congrArg Prod.fst h2
theorem head_ne {f : Fl} {l : List Tm} (h : Shape f l) (n : Nat) : headB f n ≠ [] := by
  cases h with
  | int n => unfold headB; simp only [if_true]; unfold intB; split; simp; split <;> simp
  | bits s bt h => unfold headB; simp; split <;> simp
  | _ => simp [headB, atomB]
theorem code_ne {t : Tm} (h : formed t = true) : codeT t ≠ [] := by
  cases t with
  | mk f l =>
    rw [formed, Bool.and_eq_true] at h
    rw [codeT]
    intro e
    exact head_ne (shape h.1) _ (List.append_eq_nil_iff.1 e).1
theorem putS_two {t : Tm} (h : validB t = true) : 2 ≤ (putS t).size := by
  rw [size_list, putS_list h, List.length_cons]
  have := List.length_pos_iff.2 (code_ne (validB_iff h).1)
  omega
theorem putS_no {t : Tm} (h : validB t = false) : putS t = ⟨#[]⟩ := by unfold putS; rw [h]; rfl
theorem takeF_e (s : ByteArray) : (takeF s).2.2 = 0 ∨ takeF s = (zeroT, 0, 6) := by
  unfold takeF
  split
  · exact .inr rfl
  · split
    · exact .inl rfl
    · exact .inr rfl
end Go.Proofs.YtoaimoemaoinhaaGreatDoor
