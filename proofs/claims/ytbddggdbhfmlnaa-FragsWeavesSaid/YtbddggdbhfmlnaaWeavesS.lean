/- Interleaved messages: the state of the second loop. -/
import Derived.Test.YtbddggdbhfmlnaaWeavesM
namespace Go.Proofs.Ytbddggdbhfmlnaa
open Go.RowKit Go.Rt Go.Rw Go.Mp Go.Lib

/-- The messages behind the next piece of the k-th. -/
def nextA (most : Nat) (A : List Way) (k : Nat) (h : k < A.length) : List Way := if A[k].2.2 + 1 = manyK A[k].2.1 most then A.eraseIdx k else A.set k (A[k].1, A[k].2.1, A[k].2.2 + 1)
structure WS (w1 W : World) (most bg G m TOT : Nat) (vl vt : Value) (A : List Way) (τ : Nat) : Prop where
  rows : Rows2 w1 W most vl vt A (A.map (·.2.1))
  ga : ∃ O, GA W bg G m O ∧ (O.map ab).Perm (openA most A)
  keys : (A.map (·.1)).Nodup
  len : A.length ≤ 60
  each : ∀ a ∈ A, 1 ≤ a.1 ∧ a.1 ≤ 60 ∧ a.2.1.size ≤ 3000 ∧ a.2.2 < manyK a.2.1 most
  tot : τ + leftA most A = TOT
  le : w1.heap.size ≤ bg
section
variable {w1 W W' : World} {most bg G m TOT τ : Nat} {vl vt vl' vt' : Value} {A : List Way}
theorem WS.feed (h : WS w1 W most bg G m TOT vl vt A τ) {k : Nat} (hk : k < A.length) (hm : 1 ≤ most) (hm2 : most ≤ 4096) :
    Calls Try.prog 16 #[.pointer (some ⟨G, 0, none⟩), .agg #[.int .i64 A[k].1, .bool (decide (A[k].2.2 = 0)), .int .i64 ((manyK A[k].2.1 most : Int) - (A[k].2.2 : Int)), .string (partK A[k].2.1 most A[k].2.2)]] W fun e W' =>
      e = .returned (.tuple #[.string (if A[k].2.2 + 1 = manyK A[k].2.1 most then A[k].2.1 else ByteArray.empty), .bool (decide (A[k].2.2 + 1 = manyK A[k].2.1 most)), .int .i64 0]) ∧
        Rows2 w1 W' most vl vt A (A.map (·.2.1)) ∧ ∃ O, GA W' bg G m O ∧ (O.map ab).Perm (openA most (nextA most A k hk)) := by
  obtain ⟨O, g, hp⟩ := h.ga
  obtain ⟨e1, e2, e3, e4⟩ := h.each _ (List.getElem_mem hk)
  obtain ⟨f1, f2, f3, f4⟩ := weave_feed hp h.keys hk h.len e1 (by omega) hm hm2 e3 e4
  have hpl := hp.length_eq
  have hal := openA_len most A
  rw [List.length_map] at hpl
  have hlen := h.len
  have hol : O.length ≤ 1000000 := by omega
  have hsm : ∀ o ∈ O, o.2.2.1.size ≤ 262144 := by
    intro o ho
    have : ab o ∈ openA most A := hp.mem_iff.1 (List.mem_map_of_mem (f := ab) ho)
    obtain ⟨a, ha, hq⟩ := List.mem_flatMap.1 this
    exact openE_small most a (by have := (h.each a ha).2.2.1; omega) _ hq
  have hps : (partK A[k].2.1 most A[k].2.2).size ≤ 9223372036854775807 := by have := part_size A[k].2.1 most A[k].2.2; have := (at_mono A[k].2.1 most A[k].2.2).2.1; omega
  refine (feed_any W g hol hsm _ _ _ _ hps).mono fun e W' ⟨q1, ⟨O', g', q2⟩, q3⟩ => ?_
  rw [f1, f2, f3] at q1
  refine ⟨q1, h.rows.fed q3 h.le, O', g', ?_⟩
  rw [q2]
  exact f4
theorem WS.next (h : WS w1 W most bg G m TOT vl vt A τ) {k : Nat} (hk : k < A.length) (hr : Rows2 w1 W' most vl' vt' (nextA most A k hk) ((nextA most A k hk).map (·.2.1))) (hg : ∃ O, GA W' bg G m O ∧ (O.map ab).Perm (openA most (nextA most A k hk))) :
    WS w1 W' most bg G m TOT vl' vt' (nextA most A k hk) (τ + 1) := by
  obtain ⟨e1, e2, e3, e4⟩ := h.each _ (List.getElem_mem hk)
  have hlf := left_next (most := most) hk e4
  have htot := h.tot
  refine ⟨hr, hg, ?_, ?_, ?_, ?_, h.le⟩
  · unfold nextA
    split
    · exact h.keys.sublist ((List.eraseIdx_sublist _ _).map _)
    · have : (A.set k (A[k].1, A[k].2.1, A[k].2.2 + 1)).map (·.1) = A.map (·.1) := by
        rw [List.map_set]
        apply List.ext_getElem?
        intro i
        rw [List.getElem?_set]
        split
        · subst_vars; simp [hk]
        · rfl
      rw [this]
      exact h.keys
  · have := h.len
    unfold nextA
    split
    · rw [List.length_eraseIdx]; split <;> omega
    · rw [List.length_set]; exact this
  · unfold nextA
    split
    · exact fun a ha => h.each a ((List.eraseIdx_sublist _ _).subset ha)
    · intro a ha
      rcases List.mem_or_eq_of_mem_set ha with q | q
      · exact h.each a q
      · subst q
        exact ⟨e1, e2, e3, by simp only; omega⟩
  · unfold nextA
    omega
theorem WS.open (h : WS w1 W most bg G m TOT vl vt [] τ) :
    Calls Try.prog 17 #[.pointer (some ⟨G, 0, none⟩)] W fun e W' => e = .returned (.int .i64 0) ∧ W = W' := by
  obtain ⟨O, g, hp⟩ := h.ga
  have : O.map ab = [] := by
    have := hp.length_eq
    exact List.eq_nil_of_length_eq_zero this
  have hO : O = [] := by simpa using this
  subst hO
  exact open_any W g (by simp)
theorem WS.forms (h : WS w1 W most bg G m TOT vl vt A τ) : (∃ sl cl, vl = .slice sl A.length cl) ∧ (∃ st ct, vt = .slice st A.length ct) := by
  constructor
  · obtain ⟨Vs, s1, s2, _⟩ := h.rows.ll
    obtain ⟨_, a, b, e⟩ := (s1.at sc_len).len
    rw [s2] at e
    exact ⟨a, b, e⟩
  · obtain ⟨_, a, b, e⟩ := (h.rows.tt.at textC_len).len
    rw [List.length_map] at e
    exact ⟨a, b, e⟩
theorem set_texts (A : List Way) (k : Nat) (h : k < A.length) : (A.set k (A[k].1, A[k].2.1, A[k].2.2 + 1)).map (·.2.1) = A.map (·.2.1) := by
  rw [List.map_set]
  apply List.ext_getElem?
  intro i
  rw [List.getElem?_set]
  split
  · subst_vars; simp [h]
  · rfl
theorem erase_set {α : Type} (A : List α) (k : Nat) (x : α) : (A.set k x).eraseIdx k = A.eraseIdx k := by
  apply List.ext_getElem?
  intro i
  rw [List.getElem?_eraseIdx, List.getElem?_eraseIdx]
  split
  · rw [List.getElem?_set_ne (by omega)]
  · rw [List.getElem?_set_ne (by omega)]
theorem erase_texts (A : List Way) (k : Nat) : (A.eraseIdx k).map (·.2.1) = (A.map (·.2.1)).eraseIdx k := ChangeMaps.map_eraseIdx _ _ _
end
end Go.Proofs.Ytbddggdbhfmlnaa
