/- A slice of bytes in a block of its own whose marks lie behind its cells; append of one byte; a string turned to bytes. -/
import Derived.Test.YtggfibheolpbiaaDoorWords
import Derived.Lib.ConvBytes
import Derived.Laws.AppendOwn
namespace Go.Proofs.YtggfibheolpbiaaDoor
open Go.RowKit Go.Rt

def Ts (w : World) (g n cap : Nat) (L : List Nat) : Prop :=
  L.length = n ∧ n ≤ cap ∧ cap ≤ maxLen ∧ ∃ cur fr, w.heap[g]? = some (.cells cur 5 fr) ∧ cur.size = cap ∧ (∀ j, j < cap → ¬ (fr.1 ≤ j ∧ j < fr.2)) ∧ cur.toList.take n = L.map bv

section
variable {w w' : World} {g n cap : Nat} {L : List Nat}
theorem Ts.lt (h : Ts w g n cap L) : g < w.heap.size := by
  obtain ⟨_, _, _, cur, fr, hb, _⟩ := h
  exact (Array.getElem?_eq_some_iff.1 hb).1
theorem Ts.same (h : Ts w g n cap L) (hb : w'.heap[g]? = w.heap[g]?) : Ts w' g n cap L := by
  obtain ⟨h1, h2, h3, cur, fr, h4, h5⟩ := h
  exact ⟨h1, h2, h3, cur, fr, hb.trans h4, h5⟩
theorem Ts.cell (h : Ts w g n cap L) (j : Nat) (hj : j < n) : w.cell? ⟨g, j, none⟩ = some (bv (L.getD j 0)) := by
  obtain ⟨h1, h2, h3, cur, fr, h4, h5, h6, h7⟩ := h
  have h8 : (cur.toList.take n)[j]? = (L.map bv)[j]? := by rw [h7]
  rw [List.getElem?_take_of_lt hj, List.getElem?_map] at h8
  rw [List.getElem?_eq_getElem (l := L) (by omega)] at h8
  simp only [World.cell?, h4]
  rw [← Array.getElem?_toList, h8, List.getD_eq_getElem?_getD, List.getElem?_eq_getElem (by omega)]
  rfl
theorem Ts.range (h : Ts w g n cap L) (o m : Nat) (hm : o + m ≤ n) : w.rangeAt g o (((L.drop o).take m).map bv) := by
  intro j v hv
  rw [List.getElem?_map] at hv
  cases hj : ((L.drop o).take m)[j]? with
  | none => rw [hj] at hv; cases hv
  | some x =>
    rw [hj] at hv
    have hlt : j < m := by have := (List.getElem?_eq_some_iff.1 hj).1; rw [List.length_take] at this; omega
    rw [List.getElem?_take_of_lt hlt, List.getElem?_drop] at hj
    rw [h.cell (o + j) (by omega), List.getD_eq_getElem?_getD, hj]
    exact hv

/-- append(v, x): the run. -/
theorem Ts.push {P : Program} {t ty : TypeId} (hu : P.underlying t = some (.slice 5)) (hi : (P.info? 5).map (fun i => (i.zero, i.size, i.bytes)) = some (some (.int .u8 0), 1, 1))
    (h : Ts w g n cap L) (x b : Nat) {e' : TypeId} {fr' : Nat × Nat} (hb : w.heap[b]? = some (.cells #[bv x] e' fr')) (hl : n + 1 ≤ 1000000000000) (cc : Nat) :
    ∃ (g' cap' : Nat) (W' : World), (Builtin.append_ #[t, t] ty #[.slice (some ⟨g, 0, none⟩) n cap, .slice (some ⟨b, 0, none⟩) 1 cc]).run P w = .ok (.slice (some ⟨g', 0, none⟩) (n + 1) cap') W' ∧
      Ts W' g' (n + 1) cap' (L ++ [x]) ∧ Only [g] w W' ∧ (g' = g ∨ w.heap.size ≤ g') := by
  have hts := h
  obtain ⟨h1, h2, h3, cur, fr, h4, h5, h6, h7⟩ := h
  obtain ⟨i, hi0, hz, hz1, hz2⟩ : ∃ i, P.info? 5 = some i ∧ i.zero = some (.int .u8 0) ∧ i.size = 1 ∧ i.bytes = 1 := by
    cases hq : P.info? 5 with
    | none => rw [hq] at hi; cases hi
    | some i => rw [hq] at hi; simp only [Option.map_some, Option.some.injEq, Prod.mk.injEq] at hi; exact ⟨i, rfl, hi⟩
  have hcb : w.cell? ⟨b, 0, none⟩ = some (bv x) := by simp [World.cell?, hb]
  have hnews : ∀ j u, [bv x][j]? = some u → w.cell? ((⟨b, 0, none⟩ : Addr).add j) = some u := by
    intro j u hj
    cases j with
    | zero => simp at hj; subst hj; simpa [Addr.add] using hcb
    | succ j => simp at hj
  by_cases hroom : n + 1 ≤ cap
  · refine ⟨g, cap, w.setCell ⟨g, n, none⟩ (bv x), ?_, ?_, Only.setCell _ _ _ (by simp), .inl rfl⟩
    · have hf := run_firstCells_some (P := P) w 1 1 ⟨b, 0, none⟩ 1 cc [bv x] (by simp) hnews
      have hc : (w.cell? ⟨g, n, none⟩).isSome = true := by simp [World.cell?, h4]; omega
      have hfz : w.frozen? ⟨g, n, none⟩ = false := by
        have := h6 n (by omega)
        simp only [World.frozen?, h4]
        simpa using this
      have hst := run_storeCells_cells (P := P) g n [bv x] 0 w (fun j hj => by simp at hj; subst hj; simpa using hc) (fun j hj => by simp at hj; subst hj; simpa using hfz) (fun v hv => by simp at hv; subst hv; rfl)
      simp only [Nat.add_zero, World.setCells] at hst
      simp [Builtin.append_, run_underlying hu, sizeOf, typeInfo, hi0, hz1, Builtin.lenOf, hroom, hf, Addr.add_lit, hst]
    · refine ⟨by simp [h1], hroom, h3, cur.setIfInBounds n (bv x), fr, ?_, by simp [h5], h6, ?_⟩
      · simp [World.setCell, Array.getElem?_modify, h4]
      · rw [Array.toList_setIfInBounds, List.take_succ_eq_append_getElem (by simp; omega), List.take_set_of_le (Nat.le_refl _), h7, List.getElem_set_self]
        simp
  · have holds : ∀ j u, (L.map bv)[j]? = some u → w.cell? ((⟨g, 0, none⟩ : Addr).add j) = some u := by
      intro j u hj
      have hlt : j < n := by have := (List.getElem?_eq_some_iff.1 hj).1; simp at this; omega
      rw [List.getElem?_map, List.getElem?_eq_getElem (by omega)] at hj
      have := hts.cell j hlt
      rw [List.getD_eq_getElem?_getD, List.getElem?_eq_getElem (by omega)] at this
      have e : (⟨g, 0, none⟩ : Addr).add j = ⟨g, j, none⟩ := by unfold Addr.add; split <;> simp_all
      rw [e, this]
      exact hj
    have hr := run_append_grow (P := P) w t ty 5 i (.int .u8 0) hu hi0 hz ⟨g, 0, none⟩ n cap (L.map bv) (by rw [hz1]; simp [h1]) holds ⟨b, 0, none⟩ 1 cc [bv x] (by simp [hz1]) hnews (by omega) (by omega) (growslice_fits (by omega) (by rw [hz2]; omega))
    refine ⟨w.heap.size, _, _, hr, ?_, ⟨rfl, rfl, rfl, by simp, fun k hk _ => Below.heap_alloc w.drew _ k hk⟩, .inr (Nat.le_refl _)⟩
    have hge := grownCap_ge w (n + 1) cap 5
    refine ⟨by simp [h1], hge, grownCap_le_maxLen w (n + 1) cap 5 (by unfold maxLen; omega), _, _, heap_alloc_new w.drew _, ?_, fun j _ => by simp, ?_⟩
    · simp only [Array.size_append, List.size_toArray, size_zeroCells, List.length_map, h1, List.length_singleton]
      simp [Value.cells]
      omega
    · simp only [Array.toList_append, List.append_assoc]
      rw [← List.append_assoc, List.take_append_of_le_length (by simp [h1]), List.take_of_length_le (by simp [h1])]
      simp
end

/-- A string's bytes. -/
def bytesN (b : ByteArray) : List Nat := b.data.toList.map UInt8.toNat
theorem bytesN_len (b : ByteArray) : (bytesN b).length = b.size := by simp [bytesN]
theorem ts_conv (w : World) (s : ByteArray) (hs : s.size ≤ 1000000000000) : Ts (Lib.bytesWorld w 5 s) w.heap.size s.size (grownCap w s.size 0 5) (bytesN s) := by
  have hge := grownCap_ge w s.size 0 5
  refine ⟨bytesN_len s, hge, grownCap_le_maxLen w s.size 0 5 (by unfold maxLen; omega), _, _, Lib.bytesWorld_at_new w 5 s, ?_, ?_, ?_⟩
  · simp [Lib.bytesCells]; omega
  · intro j hj h
    simp [Lib.bytesCells] at h
    omega
  · have e : (s.data.map fun b => Value.int .u8 b.toNat).toList = (bytesN s).map bv := by simp [bytesN, Function.comp_def]
    unfold Lib.bytesCells
    rw [Array.toList_append, e, List.take_append_of_le_length (by simp [bytesN]), List.take_of_length_le (by simp [bytesN])]
end Go.Proofs.YtggfibheolpbiaaDoor
