/- Arguments in memory as lists, with each element's datum kept beside it: for bounds on what lies inside a slice. No condition beyond the reading. -/
import Derived.Test.YtnkkbkceapcahaaDoorLists
import Derived.ChangeSame
import Derived.DataReads
import Derived.SizedLaws
namespace Go.Rw
open Go Go.RowKit Go.Rt
variable {α : Type}

theorem choose_list (p : Nat → α → Prop) : ∀ n, (∀ i, i < n → ∃ a, p i a) → ∃ l : List α, l.length = n ∧ ∀ i (h : i < l.length), p i l[i]
  | 0, _ => ⟨[], rfl, fun i h => by simp at h⟩
  | n + 1, h => by
    obtain ⟨l, h1, h2⟩ := choose_list p n (fun i hi => h i (by omega))
    obtain ⟨a, ha⟩ := h n (by omega)
    refine ⟨l ++ [a], by simp [h1], fun i hi => ?_⟩
    rcases Nat.lt_or_ge i l.length with q | q
    · rw [List.getElem_append_left q]; exact h2 i q
    · simp only [List.length_append, List.length_cons, List.length_nil] at hi
      obtain rfl : i = l.length := by omega
      rw [List.getElem_append_right (Nat.le_refl _)]
      simp only [Nat.sub_self, List.getElem_cons_zero, h1]
      exact ha
/-- A datum that is an element of a slice's datum. -/
def InSlice {H : Type} (d x : DataW H) : Prop := ∃ elems spare, x = .slice elems spare ∧ d ∈ elems
theorem weightsAll_mem {H : Type} {P : Program} {e : TypeId} {d : DataW H} {n : Nat} : ∀ {l : List (DataW H)}, d ∈ l → n ∈ d.weights P e → n ∈ DataW.weightsAll P e l
  | x :: r, h, hn => by
    simp only [DataW.weightsAll, List.mem_append]
    rcases List.mem_cons.1 h with rfl | h
    · exact .inl hn
    · exact .inr (weightsAll_mem h hn)
theorem InSlice.weights {H : Type} {P : Program} {t e : TypeId} {d x : DataW H} (h : InSlice d x) (ht : P.underlying t = some (.slice e)) {n : Nat} (hn : n ∈ d.weights P e) : n ∈ x.weights P t := by
  obtain ⟨elems, spare, rfl, hd⟩ := h
  simp only [DataW.weights, ht, List.mem_cons, List.mem_append]
  exact .inr (.inl (weightsAll_mem hd hn))
theorem slice_atD {H : Type} {enc : TypeId × Value → H} {P : Program} {W : World} {base : Nat} {sp : Nat → Bool} {held : Bool} {fuel : Nat} {t e : TypeId} {k : Nat} {v : Value} {x : DataW H × List MemPlace} (c : α → List Value) (good : DataW H → α → Prop)
    (ht : P.underlying t = some (.slice e)) (hk : P.cellsOf e = k) (hk0 : 0 < k)
    (hopen : ∀ n cs y, DataW.trod enc P W base sp held n e cs = some y → ∃ a, cs = c a ∧ good y.1 a)
    (h : DataW.trod enc P W base sp held fuel t [v] = some x) : ∃ As, SlAt W k c v As ∧ As.length ≤ 9223372036854775807 ∧ ∀ a ∈ As, ∃ d, InSlice d x.1 ∧ good d a := by
  rcases DataW.trod_slice ht h with ⟨hcs, _⟩ | ⟨a, len, cap, elems, rest, n, _, hcs, hx, _, hl, hm, hlen, hel, _⟩
  · simp only [List.cons.injEq, and_true] at hcs
    exact ⟨[], .inl ⟨rfl, none, 0, hcs⟩, by simp, by simp⟩
  · simp only [List.cons.injEq, and_true] at hcs
    subst hcs
    have hm' : len ≤ 9223372036854775807 := by unfold maxLen at hm; omega
    have each : ∀ i, i < len → ∃ u : α, (∀ j, j < k → W.cell? ((a.add (i * k)).add j) = (c u)[j]?) ∧ (c u).length = k ∧ ∃ d, InSlice d x.1 ∧ good d u := by
      intro i hi
      have := hel i hi
      rw [List.getElem?_eq_getElem (by omega), Option.bind_eq_some_iff] at this
      obtain ⟨cs, h1, h2⟩ := this
      rw [hk] at h1
      obtain ⟨_, q2, q3⟩ := World.cells?_some h1
      obtain ⟨u, rfl, hu⟩ := hopen _ _ _ h2
      refine ⟨u, q3, q2, (elems[i]'(by omega)).1, ?_, hu⟩
      exact ⟨elems.map (·.1), rest.map (·.1), by rw [hx], List.mem_map.2 ⟨_, List.getElem_mem _, rfl⟩⟩
    obtain ⟨As, hA, hg⟩ := choose_list _ len each
    refine ⟨As, ?_, by omega, fun u hu => ?_⟩
    · by_cases h0 : len = 0
      · subst h0
        exact .inl ⟨List.eq_nil_of_length_eq_zero hA, some a, cap, rfl⟩
      · have c0 := (hg 0 (by omega)).1 0 hk0
        rw [List.getElem?_eq_getElem (by rw [(hg 0 (by omega)).2.1]; exact hk0)] at c0
        obtain ⟨b, o, sp⟩ := a
        have hb : b < W.heap.size ∧ sp = none := by
          unfold World.cell? at c0
          simp only [Addr.add] at c0
          split at c0
          · rename_i hh
            cases sp with
            | none =>
              simp only [Nat.zero_mul, Nat.add_zero] at hh
              exact ⟨(Array.getElem?_eq_some_iff.1 (by simpa using hh)).1, rfl⟩
            | some q => simp at c0
          · cases c0
        obtain ⟨hb, rfl⟩ := hb
        refine .inr ⟨b, o, cap, by rw [hA], by omega, hb, ?_⟩
        intro i j hi hj
        have := (hg i hi).1 j hj
        rw [add_none, add_none] at this
        exact this
    · obtain ⟨i, hi, rfl⟩ := List.getElem_of_mem hu
      exact (hg i hi).2.2
end Go.Rw
