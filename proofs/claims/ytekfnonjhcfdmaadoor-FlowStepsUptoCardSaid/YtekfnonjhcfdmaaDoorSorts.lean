/- slices.Sort, Compact, Reverse over a slice of the call's own; a sorted, compacted list is the ascending one. -/
import Derived.Test.YtekfnonjhcfdmaaDoorShelf
import Derived.Test.YtekfnonjhcfdmaaDoorMem
import Derived.Sort.OwnSortedInts
import Derived.Lib.OwnBridge
namespace Go.Proofs.YtekfnonjhcfdmaaDoor
open Go.RowKit Go.Rt Go.Rw Go.Sort

theorem flat_in (L : List Int) : L.flatMap inC = L.map (Value.int .i64) := by
  induction L with
  | nil => rfl
  | cons a r ih => simp only [List.flatMap_cons, ih, List.map_cons]; rfl
theorem in_len (a : Int) : (inC a).length = 1 := rfl

theorem sort33 {base : Nat} {v : Value} {L : List Int} {w : World} (h : Sl w base 3 1 inC v L) (hl : L.length ≤ 1000000000000000) :
    Calls Tryd.prog 33 #[v] w fun e w' => e = .returned (.tuple #[]) ∧ Sl w' base 3 1 inC v (L.mergeSort fun x y => decide (x ≤ y)) ∧ w.grownBy w' v.ownBlock := by
  rcases h.form with ⟨rfl, rfl⟩ | ⟨g, cap, rfl, hb, hg, hc, hm, cur, hcur, hs⟩
  · refine (AnyM.slices_Sort_int_none Tryd.sortA none 0 w).mono ?_
    rintro e w' ⟨rfl, rfl⟩
    exact ⟨rfl, by simpa using Sl.nil _ _ _ _ _, ⟨rfl, rfl, rfl, Nat.le_refl _, fun _ _ _ => rfl⟩⟩
  · have hx := h.2
    have htake : cur.toList.take L.length = L.map (Value.int .i64) := by
      rcases hx with ⟨q, _⟩ | ⟨g', cap', cur', q, _, q3, _, _, _, q7⟩
      · cases q
      · cases q
        rw [hcur] at q3
        cases q3
        rw [Nat.mul_one, flat_in] at q7
        exact q7
    have hH := holds_of_blockI hcur htake
    refine (AnyM.slices_Sort_int Tryd.sortA g 0 cap L w hH hg (by omega)).mono ?_
    rintro e w' ⟨rfl, n, os, rfl⟩
    refine ⟨rfl, ?_, grownBy_sortedI _⟩
    have := ownsRow_sortedI (n := n) (os := os) (ts := L.mergeSort fun x y => decide (x ≤ y)) (List.length_mergeSort L) hb hcur hc hm hs
    unfold Sl
    rw [flat_in, List.length_mergeSort]
    exact this
theorem grown_putRow {w : World} {g n : Nat} {d : Array Int} : w.grownBy (putRow (Value.int .i64) (Sort.ahead w n) g 0 d) (some g) := by
  have := grownBy_sortedI (w := w) (g := g) (n := n) (os := #[]) d
  rwa [grow_empty] at this
theorem comp34 {base : Nat} {v : Value} {L : List Int} {w : World} (h : Sl w base 3 1 inC v L) (hl : L.length ≤ 1000000000000000) :
    Calls Tryd.prog 34 #[v] w fun e w' => ∃ v', e = .returned v' ∧ Sl w' base 3 1 inC v' (Lib.compact L) ∧ v'.ownBlock = v.ownBlock ∧ w.grownBy w' v.ownBlock := by
  have hd := h.form
  rcases hd with ⟨rfl, rfl⟩ | ⟨g, cap, rfl, hb, hg, hc, hm, cur, hcur, hs⟩
  · refine (AnyG.slices_Compact_int_empty Tryd.compA none 0 w).mono ?_
    rintro e w' ⟨rfl, rfl⟩
    exact ⟨_, rfl, Sl.nil _ _ _ _ _, rfl, ⟨rfl, rfl, rfl, Nat.le_refl _, fun _ _ _ => rfl⟩⟩
  · have h' := h
    unfold Sl at h'
    rw [flat_in] at h'
    obtain ⟨g', cap', e', _, _, _, _, _, hH⟩ := Lib.holds_of_ownsRow h' (by simp)
    cases e'
    refine (AnyG.slices_Compact_int Tryd.compA g 0 cap L w hH (by omega) (by omega)).mono ?_
    rintro e w' ⟨rfl, q, rfl⟩
    have hle := Lib.compact_length_le L
    have := Lib.ownsRow_putRow (q := q) (k := (Lib.compact L).length) (ys := Lib.compact L ++ List.replicate (L.length - (Lib.compact L).length) 0) h' (by simp; omega) hle
    refine ⟨_, rfl, ?_, rfl, grown_putRow⟩
    unfold Sl
    rw [flat_in]
    rwa [List.take_left] at this
theorem rev62 {base : Nat} {v : Value} {L : List Int} {w : World} (h : Sl w base 3 1 inC v L) (hl : L.length ≤ 1000000000000000) :
    Calls Tryd.prog 62 #[v] w fun e w' => e = .returned (.tuple #[]) ∧ Sl w' base 3 1 inC v L.reverse ∧ w.grownBy w' v.ownBlock := by
  have hd := h.form
  rcases hd with ⟨rfl, rfl⟩ | ⟨g, cap, rfl, hb, hg, hc, hm, cur, hcur, hs⟩
  · refine (AnyG.slices_Reverse_int_empty Tryd.revA none 0 w).mono ?_
    rintro e w' ⟨rfl, rfl⟩
    exact ⟨rfl, Sl.nil _ _ _ _ _, ⟨rfl, rfl, rfl, Nat.le_refl _, fun _ _ _ => rfl⟩⟩
  · have h' := h
    unfold Sl at h'
    rw [flat_in] at h'
    obtain ⟨g', cap', e', _, _, _, _, _, hH⟩ := Lib.holds_of_ownsRow h' (by simp)
    cases e'
    refine (AnyG.slices_Reverse_int Tryd.revA g 0 cap L w hH (by omega)).mono ?_
    rintro e w' ⟨rfl, q, rfl⟩
    have := Lib.ownsRow_putRow (q := q) (k := L.length) (ys := L.reverse) h' (by simp) (Nat.le_refl _)
    refine ⟨rfl, ?_, grown_putRow⟩
    unfold Sl
    rw [flat_in, List.length_reverse]
    rwa [List.take_of_length_le (by simp)] at this
/-- Sorted and compacted: ascending. -/
theorem compact_sort (L : List Int) : Lib.compact (L.mergeSort fun x y => decide (x ≤ y)) = asc L := by
  obtain ⟨M, hM⟩ : ∃ M, M = L.mergeSort fun x y => decide (x ≤ y) := ⟨_, rfl⟩
  have hp : M.Pairwise (· ≤ ·) := by
    rw [hM]
    have := List.pairwise_mergeSort (le := fun x y : Int => decide (x ≤ y)) (by intro a b c; simp; omega) (by intro a b; simp; omega) L
    exact this.imp (by simp)
  have hmem : ∀ k, k ∈ M ↔ k ∈ L := fun k => by rw [hM]; exact (List.mergeSort_perm _ _).mem_iff
  rw [← hM]
  clear hM
  have hle : ∀ i j (hi : i < M.length) (hj : j < M.length), i ≤ j → M[i] ≤ M[j] := by
    intro i j hi hj hij
    rcases Nat.lt_or_eq_of_le hij with h | rfl
    · exact List.pairwise_iff_getElem.1 hp i j hi hj h
    · exact Int.le_refl _
  have hg : ∀ i (hi : i < M.length), M.toArray[i]! = M[i] := fun i hi => by rw [getElem!_pos _ i (by simpa using hi)]; simp
  refine up_ext _ _ ?_ (up_asc L) ?_
  · unfold Up Lib.compact Lib.compactUpTo
    rw [List.pairwise_map]
    refine List.Pairwise.imp_of_mem ?_ (List.Pairwise.filter _ List.pairwise_lt_range)
    intro a b ha hb hab
    rw [List.mem_filter, List.mem_range] at ha hb
    have hk := hb.2
    unfold Lib.keeps at hk
    rw [decide_eq_true_eq] at hk
    rw [hg a ha.1, hg b hb.1] at *
    rcases hk with h | h
    · omega
    · rw [hg (b - 1) (by omega)] at h
      have h1 := hle a (b - 1) ha.1 (by omega) (by omega)
      have h2 := hle (b - 1) b (by omega) hb.1 (by omega)
      omega
  · intro k
    rw [mem_asc, ← hmem k]
    unfold Lib.compact Lib.compactUpTo
    rw [List.mem_map]
    constructor
    · rintro ⟨a, ha, rfl⟩
      rw [List.mem_filter, List.mem_range] at ha
      rw [hg a ha.1]
      exact List.getElem_mem _
    · intro hk
      obtain ⟨i, hi, rfl⟩ := List.getElem_of_mem hk
      clear hk
      induction i with
      | zero => exact ⟨0, List.mem_filter.2 ⟨List.mem_range.2 hi, by simp [Lib.keeps]⟩, hg 0 hi⟩
      | succ i ih =>
        by_cases h : M[i + 1] = M[i]
        · obtain ⟨a, ha, e⟩ := ih (by omega)
          exact ⟨a, ha, by rw [e, h]⟩
        · refine ⟨i + 1, List.mem_filter.2 ⟨List.mem_range.2 hi, ?_⟩, hg _ hi⟩
          unfold Lib.keeps
          rw [decide_eq_true_eq, hg _ hi, Nat.add_sub_cancel, hg i (by omega)]
          exact .inr h
end Go.Proofs.YtekfnonjhcfdmaaDoor
