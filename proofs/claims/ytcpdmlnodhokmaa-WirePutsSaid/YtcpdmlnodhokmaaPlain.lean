/- Plain laws of the external term format: back, once, front, apart. -/
import Derived.Test.YtcpdmlnodhokmaaGet
namespace Go.Proofs.Ytcpdmlnodhokmaa
open Go.RowKit Go.Rt Go.Rw

theorem validB_iff {t : Tm} (h : validB t = true) : formed t = true ∧ sizeT t ≤ 2000 := by
  unfold validB at h
  rw [Bool.and_eq_true, decide_eq_true_eq] at h
  exact h
theorem size_list (s : ByteArray) : s.size = s.data.toList.length := by simp
theorem takeF_code {t : Tm} (hv : validB t = true) (hf : fitT t) {s : ByteArray} {m : List UInt8} (hs : s.data.toList = codeT t ++ m) : takeF s = (t, (codeT t).length, 0) := by
  obtain ⟨h1, h2⟩ := validB_iff hv
  have hc := cnt_size t h1
  unfold takeF
  rw [hs, term_back t h1 hf 2000 0 m (by omega) (by omega)]
  dsimp only
  rw [if_pos hv, size_list, hs, List.length_append]
  congr 2
  omega
theorem atB_cons {s : ByteArray} {c : UInt8} {r : List UInt8} (h : s.data.toList = c :: r) : atB s 0 = c.toNat := by
  have e : s.data = (c :: r).toArray := by rw [← h]
  unfold atB
  rw [e]
  rfl
theorem getF_code {t : Tm} (hv : validB t = true) (hf : fitT t) {s : ByteArray} {m : List UInt8} (hs : s.data.toList = 131 :: codeT t ++ m) : getF s = if m = [] then (t, 0) else (zeroT, 6) := by
  have ht : (tailB s).data.toList = codeT t ++ m := by rw [tailB_list, hs]; rfl
  have hz : s.size = 1 + ((codeT t).length + m.length) := by rw [size_list, hs, List.cons_append, List.length_cons, List.length_append]; omega
  have ha : atB s 0 = 131 := atB_cons hs
  unfold getF
  rw [takeF_code hv hf ht]
  dsimp only
  cases m with
  | nil => rw [if_pos ⟨by omega, ha, rfl, by simp at hz; omega⟩, if_pos rfl]
  | cons c m => rw [if_neg (by simp at hz; omega), if_neg (by simp)]
/-- What is taken is valid, and its encoding is what was taken. -/
theorem takeF_snd {s : ByteArray} (hs : s.size ≤ 200000) (h : (takeF s).2.2 = 0) : validB (takeF s).1 = true ∧ fitT (takeF s).1 ∧ (∃ m, s.data.toList = codeT (takeF s).1 ++ m) ∧ (takeF s).2.1 = (codeT (takeF s).1).length := by
  unfold takeF at h ⊢
  cases hq : termP 2000 0 s.data.toList with
  | none => rw [hq] at h; cases h
  | some q =>
    obtain ⟨t, p, r⟩ := q
    rw [hq] at h
    dsimp only at h ⊢
    cases hv : validB t with
    | false => rw [hv] at h; cases h
    | true =>
      rw [if_pos rfl]
      obtain ⟨h1, _, h3⟩ := term_snd 2000 _ _ _ _ _ hq
      refine ⟨hv, h3 (by rw [← size_list]; exact hs), ⟨r, h1.symm⟩, ?_⟩
      have := congrArg List.length h1
      rw [List.length_append, ← size_list] at this
      dsimp only
      omega
theorem putS_valid {t : Tm} (h : validB t = true) : putS t = ⟨(131 :: codeT t).toArray⟩ := by unfold putS; rw [if_pos h]
theorem putS_list {t : Tm} (h : validB t = true) : (putS t).data.toList = 131 :: codeT t := by rw [putS_valid h]
theorem bytes_list {a b : ByteArray} (h : a.data.toList = b.data.toList) : a = b := ByteArray.ext (Array.toList_inj.1 h)
theorem getF_e (s : ByteArray) : (getF s).2 = 0 ∨ getF s = (zeroT, 6) := by
  unfold getF
  split
  · exact .inl rfl
  · exact .inr rfl
/-- What Get accepts is the external form of its result. -/
theorem getF_snd {s : ByteArray} (hs : s.size ≤ 200000) (h : (getF s).2 = 0) : validB (getF s).1 = true ∧ fitT (getF s).1 ∧ putS (getF s).1 = s := by
  unfold getF at h ⊢
  split at h
  · rename_i hc
    rw [if_pos hc]
    obtain ⟨h0, ha, he, hn⟩ := hc
    have hz := tailB_size s
    obtain ⟨h1, h2, ⟨m, h3⟩, h4⟩ := takeF_snd (s := tailB s) (by omega) he
    refine ⟨h1, h2, bytes_list ?_⟩
    rw [putS_list h1]
    have hl := congrArg List.length h3
    rw [List.length_append, ← size_list] at hl
    obtain rfl : m = [] := List.eq_nil_of_length_eq_zero (by omega)
    rw [List.append_nil, tailB_list] at h3
    rw [← h3]
    have : s.data.toList ≠ [] := by intro e; rw [size_list, e] at h0; simp at h0
    obtain ⟨c, r, hcr⟩ := List.exists_cons_of_ne_nil this
    rw [hcr]
    rw [atB_cons hcr] at ha
    have : c = 131 := UInt8.toNat_inj.1 ha
    rw [this]
    rfl
  · cases h
/-- Neither of two encodings is a prefix of the other, unless the terms are equal. -/
theorem code_apart {t u : Tm} (hv : validB t = true) (hf : fitT t) (gv : validB u = true) (gf : fitT u) {m k : List UInt8} (h : codeT t ++ m = codeT u ++ k) : t = u := by
  have h1 := takeF_code hv hf (s := ⟨(codeT t ++ m).toArray⟩) (m := m) rfl
  have h2 := takeF_code gv gf (s := ⟨(codeT t ++ m).toArray⟩) (m := k) (by rw [h])
  rw [h1] at h2
  exact congrArg Prod.fst h2
theorem head_ne {f : Fl} {l : List Tm} (h : Shape f l) (n : Nat) : headB f n ≠ [] := by
  cases h with
  | int n => unfold headB; simp only [if_true]; unfold intB; split; simp; split <;> simp
  | bits s bt h => unfold headB; simp; split <;> simp
  | _ => simp [headB, atomB]
theorem code_ne {t : Tm} (h : formed t = true) : codeT t ≠ [] := by
  cases t with
  | mk f l =>
    rw [formed, Bool.and_eq_true] at h
    rw [codeT]
    intro e
    exact head_ne (shape h.1) _ (List.append_eq_nil_iff.1 e).1
theorem putS_two {t : Tm} (h : validB t = true) : 2 ≤ (putS t).size := by
  rw [size_list, putS_list h, List.length_cons]
  have := List.length_pos_iff.2 (code_ne (validB_iff h).1)
  omega
theorem putS_no {t : Tm} (h : validB t = false) : putS t = ⟨#[]⟩ := by unfold putS; rw [h]; rfl
theorem tail_putS {t : Tm} (h : validB t = true) : (tailB (putS t)).data.toList = codeT t := by rw [tailB_list, putS_list h]; rfl
/-- The first n bytes. -/
theorem apart {t u : Tm} (hv : validB t = true) (hf : fitT t) (gv : validB u = true) (gf : fitT u) (n : Nat) (hn : n = min (putS t).size (putS u).size) : decide ((putS t).extract 0 n = (putS u).extract 0 n) = eqT t u := by
  have e1 : ((putS t).extract 0 n).data.toList = (131 :: codeT t).take n := by rw [ByteArray.data_extract, Array.toList_extract, putS_list hv]; simp [List.extract]
  have e2 : ((putS u).extract 0 n).data.toList = (131 :: codeT u).take n := by rw [ByteArray.data_extract, Array.toList_extract, putS_list gv]; simp [List.extract]
  have z1 := size_list (putS t)
  have z2 := size_list (putS u)
  rw [putS_list hv] at z1
  rw [putS_list gv] at z2
  cases hq : eqT t u with
  | true =>
    obtain rfl := (eqT_iff t u).1 hq
    exact decide_eq_true rfl
  | false =>
    refine decide_eq_false (fun e => ?_)
    have e := congrArg (fun b => b.data.toList) e
    rw [e1, e2] at e
    have hne : t ≠ u := fun h => by rw [(eqT_iff t u).2 h] at hq; cases hq
    refine hne ?_
    rcases Nat.le_total (putS t).size (putS u).size with hle | hle
    · rw [Nat.min_eq_left hle] at hn
      rw [List.take_of_length_le (by omega)] at e
      have h2 := List.take_append_drop n (131 :: codeT u)
      rw [← e, List.cons_append, List.cons.injEq] at h2
      exact code_apart hv hf gv gf (k := []) (by rw [h2.2, List.append_nil])
    · rw [Nat.min_eq_right hle] at hn
      rw [List.take_of_length_le (l := 131 :: codeT u) (by omega)] at e
      have h2 := List.take_append_drop n (131 :: codeT t)
      rw [e, List.cons_append, List.cons.injEq] at h2
      exact code_apart hv hf gv gf (m := []) (by rw [h2.2, List.append_nil])
end Go.Proofs.Ytcpdmlnodhokmaa
