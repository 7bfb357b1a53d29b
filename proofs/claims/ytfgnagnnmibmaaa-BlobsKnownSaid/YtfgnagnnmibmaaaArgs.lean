/- Arguments in memory as lists: a slice whose elements can each be read becomes a SlAt of its elements. No condition beyond the reading. -/
import Derived.Test.YtfgnagnnmibmaaaLists
import Derived.ChangeSame
import Derived.DataReads
namespace Go.Rw
open Go Go.RowKit Go.Rt
variable {α : Type}

theorem choose_list (p : Nat → α → Prop) : ∀ n, (∀ i, i < n → ∃ a, p i a) → ∃ l : List α, l.length = n ∧ ∀ i (h : i < l.length), p i l[i]
  | 0, _ => ⟨[], rfl, fun i h => by simp at h⟩
  | n + 1, h => by
    obtain ⟨l, h1, h2⟩ := choose_list p n (fun i hi => h i (by omega))
    obtain ⟨a, ha⟩ := h n (by omega)
    refine ⟨l ++ [a], by simp [h1], fun i hi => ?_⟩
    rcases Nat.lt_or_ge i l.length with q | q
    · rw [List.getElem_append_left q]; exact h2 i q
    · simp only [List.length_append, List.length_cons, List.length_nil] at hi
      obtain rfl : i = l.length := by omega
      rw [List.getElem_append_right (Nat.le_refl _)]
      simp only [Nat.sub_self, List.getElem_cons_zero, h1]
      exact ha
theorem slice_at {H : Type} {enc : TypeId × Value → H} {P : Program} {W : World} {fuel : Nat} {t e : TypeId} {k : Nat} {v : Value} {x : DataW H × List MemPlace} (c : α → List Value) (good : α → Prop)
    (ht : P.underlying t = some (.slice e)) (hk : P.cellsOf e = k) (hk0 : 0 < k)
    (hopen : ∀ n cs y, DataW.trod enc P W 0 (fun _ => true) true n e cs = some y → ∃ a, cs = c a ∧ good a)
    (h : DataW.trod enc P W 0 (fun _ => true) true fuel t [v] = some x) : ∃ As, SlAt W k c v As ∧ ∀ a ∈ As, good a := by
  rcases DataW.trod_slice ht h with ⟨hcs, _⟩ | ⟨a, len, cap, elems, rest, n, _, hcs, _, _, hl, hm, hlen, hel, _⟩
  · simp only [List.cons.injEq, and_true] at hcs
    exact ⟨[], .inl ⟨rfl, none, 0, hcs⟩, by simp⟩
  · simp only [List.cons.injEq, and_true] at hcs
    subst hcs
    have each : ∀ i, i < len → ∃ u : α, (∀ j, j < k → W.cell? ((a.add (i * k)).add j) = (c u)[j]?) ∧ (c u).length = k ∧ good u := by
      intro i hi
      have := hel i hi
      rw [List.getElem?_eq_getElem (by omega), Option.bind_eq_some_iff] at this
      obtain ⟨cs, h1, h2⟩ := this
      rw [hk] at h1
      obtain ⟨_, q2, q3⟩ := World.cells?_some h1
      obtain ⟨u, rfl, hu⟩ := hopen _ _ _ h2
      exact ⟨u, q3, q2, hu⟩
    obtain ⟨As, hA, hg⟩ := choose_list _ len each
    refine ⟨As, ?_, fun u hu => ?_⟩
    · by_cases h0 : len = 0
      · subst h0
        exact .inl ⟨List.eq_nil_of_length_eq_zero hA, some a, cap, rfl⟩
      · have c0 := (hg 0 (by omega)).1 0 hk0
        rw [List.getElem?_eq_getElem (by rw [(hg 0 (by omega)).2.1]; exact hk0)] at c0
        obtain ⟨b, o, sp⟩ := a
        have hb : b < W.heap.size ∧ sp = none := by
          unfold World.cell? at c0
          simp only [Addr.add] at c0
          split at c0
          · rename_i hh
            cases sp with
            | none =>
              simp only [Nat.zero_mul, Nat.add_zero] at hh
              exact ⟨(Array.getElem?_eq_some_iff.1 (by simpa using hh)).1, rfl⟩
            | some q => simp at c0
          · cases c0
        obtain ⟨hb, rfl⟩ := hb
        refine .inr ⟨b, o, cap, by rw [hA], by rw [hA]; unfold maxLen at hm; omega, hb, ?_⟩
        intro i j hi hj
        have := (hg i hi).1 j hj
        rw [add_none, add_none] at this
        exact this
    · obtain ⟨i, hi, rfl⟩ := List.getElem_of_mem hu
      exact (hg i hi).2.2
end Go.Rw
