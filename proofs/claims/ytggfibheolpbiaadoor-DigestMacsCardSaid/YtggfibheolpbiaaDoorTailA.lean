/- append of a list of bytes; make with a capacity; what such a slice reads as. -/
import Derived.Test.YtggfibheolpbiaaDoorTail
import Derived.Laws.MakeOwn
namespace Go.Proofs.YtggfibheolpbiaaDoor
open Go.RowKit Go.Rt

theorem und29 : Tryd.prog.underlying 29 = some (.slice 5) := by kernel_rfl
theorem und9 : Tryd.prog.underlying 9 = some .string := by kernel_rfl
theorem und5 : Tryd.prog.underlying 5 = some (.int .u8) := by kernel_rfl
theorem info5 : (Tryd.prog.info? 5).map (fun i => (i.zero, i.size, i.bytes)) = some (some (.int .u8 0), 1, 1) := by kernel_rfl

theorem heap_setCells_any (b : Nat) (t : TypeId) (fr : Nat × Nat) : ∀ (L old pre post : List Value) (w : World), L.length = old.length → w.heap[b]? = some (.cells (pre ++ old ++ post).toArray t fr) → (w.setCells b pre.length L).heap[b]? = some (.cells (pre ++ L ++ post).toArray t fr)
  | [], [], pre, post, w, _, h => by simpa [World.setCells] using h
  | [], _ :: _, _, _, _, h, _ => by simp at h
  | _ :: _, [], _, _, _, h, _ => by simp at h
  | v :: r, o :: old, pre, post, w, hl, h => by
    have h1 : (w.setCell ⟨b, pre.length, none⟩ v).heap[b]? = some (.cells ((pre ++ o :: old ++ post).toArray.setIfInBounds pre.length v) t fr) := by
      simp [World.setCell, Array.getElem?_modify, h]
    have e : ((pre ++ o :: old ++ post).toArray).setIfInBounds pre.length v = ((pre ++ [v]) ++ old ++ post).toArray := by
      simp
    rw [e] at h1
    have := heap_setCells_any b t fr r old (pre ++ [v]) post _ (by simpa using hl) h1
    simpa [World.setCells] using this

section
variable {w w' : World} {g n cap : Nat} {L : List Nat}
/-- append(v, A...): the run. -/
theorem Ts.pushA {P : Program} {t ty : TypeId} (hu : P.underlying t = some (.slice 5)) (hi : (P.info? 5).map (fun i => (i.zero, i.size, i.bytes)) = some (some (.int .u8 0), 1, 1))
    (h : Ts w g n cap L) (A : List Nat) (_ : 0 < A.length) (b : Nat) {e' : TypeId} {fr' : Nat × Nat} (hb : w.heap[b]? = some (.cells (A.map bv).toArray e' fr')) (hl : n + A.length ≤ 1000000000000) (cc : Nat) :
    ∃ (g' cap' : Nat) (W' : World), (Builtin.append_ #[t, t] ty #[.slice (some ⟨g, 0, none⟩) n cap, .slice (some ⟨b, 0, none⟩) A.length cc]).run P w = .ok (.slice (some ⟨g', 0, none⟩) (n + A.length) cap') W' ∧
      Ts W' g' (n + A.length) cap' (L ++ A) ∧ Only [g] w W' ∧ (g' = g ∨ w.heap.size ≤ g') := by
  have hts := h
  obtain ⟨h1, h2, h3, cur, fr, h4, h5, h6, h7⟩ := h
  obtain ⟨i, hi0, hz, hz1, hz2⟩ : ∃ i, P.info? 5 = some i ∧ i.zero = some (.int .u8 0) ∧ i.size = 1 ∧ i.bytes = 1 := by
    cases hq : P.info? 5 with
    | none => rw [hq] at hi; cases hi
    | some i => rw [hq] at hi; simp only [Option.map_some, Option.some.injEq, Prod.mk.injEq] at hi; exact ⟨i, rfl, hi⟩
  have hadd : ∀ (b j : Nat), (⟨b, 0, none⟩ : Addr).add j = ⟨b, j, none⟩ := by intro b j; unfold Addr.add; split <;> simp_all
  have hnews : ∀ j u, (A.map bv)[j]? = some u → w.cell? ((⟨b, 0, none⟩ : Addr).add j) = some u := by
    intro j u hj
    rw [hadd]
    simp only [World.cell?, hb]
    simpa using hj
  by_cases hroom : n + A.length ≤ cap
  · refine ⟨g, cap, w.setCells g n (A.map bv), ?_, ?_, only_setCells _ _ _ _, .inl rfl⟩
    · have hf := run_firstCells_some (P := P) w 1 A.length ⟨b, 0, none⟩ A.length cc (A.map bv) (by simp) hnews
      have hst := run_storeCells_cells (P := P) g n (A.map bv) 0 w
        (fun j hj => by simp at hj; simp [World.cell?, h4]; omega)
        (fun j hj => by
          simp at hj
          have := h6 (n + j) (by omega)
          simp only [World.frozen?, h4, Nat.add_zero]
          simpa using this)
        (fun v hv => by obtain ⟨x, _, rfl⟩ := List.mem_map.1 hv; rfl)
      simp only [Nat.add_zero] at hst
      simp [Builtin.append_, run_underlying hu, sizeOf, typeInfo, hi0, hz1, Builtin.lenOf, hroom, hf, Addr.add_lit, hst]
    · have hsp : cur.toList = cur.toList.take n ++ (cur.toList.drop n).take A.length ++ cur.toList.drop (n + A.length) := by
        rw [List.append_assoc, ← List.drop_drop, List.take_append_drop, List.take_append_drop]
      have hpl : (cur.toList.take n).length = n := by simp; omega
      have hcur : w.heap[g]? = some (.cells (cur.toList.take n ++ (cur.toList.drop n).take A.length ++ cur.toList.drop (n + A.length)).toArray 5 fr) := by rw [← hsp]; simpa using h4
      have q := heap_setCells_any g 5 fr (A.map bv) ((cur.toList.drop n).take A.length) (cur.toList.take n) (cur.toList.drop (n + A.length)) w (by simp; omega) hcur
      rw [hpl] at q
      refine ⟨by simp [h1], hroom, h3, _, fr, q, by simp; omega, h6, ?_⟩
      simp only [List.map_append, ← h7]
      rw [List.take_append_of_le_length (by simp; omega), List.take_of_length_le (by simp; omega)]
  · have holds : ∀ j u, (L.map bv)[j]? = some u → w.cell? ((⟨g, 0, none⟩ : Addr).add j) = some u := by
      intro j u hj
      have hlt : j < n := by have := (List.getElem?_eq_some_iff.1 hj).1; simp at this; omega
      rw [List.getElem?_map, List.getElem?_eq_getElem (by omega)] at hj
      have := hts.cell j hlt
      rw [List.getD_eq_getElem?_getD, List.getElem?_eq_getElem (by omega)] at this
      rw [hadd, this]
      exact hj
    have hr := run_append_grow (P := P) w t ty 5 i (.int .u8 0) hu hi0 hz ⟨g, 0, none⟩ n cap (L.map bv) (by rw [hz1]; simp [h1]) holds ⟨b, 0, none⟩ A.length cc (A.map bv) (by simp [hz1]) hnews (by omega) (by omega) (growslice_fits (by omega) (by rw [hz2]; omega))
    refine ⟨w.heap.size, _, _, hr, ?_, ⟨rfl, rfl, rfl, by simp, fun k hk _ => Below.heap_alloc w.drew _ k hk⟩, .inr (Nat.le_refl _)⟩
    have hge := grownCap_ge w (n + A.length) cap 5
    refine ⟨by simp [h1], hge, grownCap_le_maxLen w (n + A.length) cap 5 (by unfold maxLen; omega), _, _, heap_alloc_new w.drew _, ?_, fun j _ => by simp, ?_⟩
    · simp only [Array.size_append, List.size_toArray, size_zeroCells, List.length_map, h1]
      simp [Value.cells]
      omega
    · simp only [Array.toList_append, List.append_assoc]
      rw [← List.append_assoc, List.take_append_of_le_length (by simp [h1]), List.take_of_length_le (by simp [h1])]
      simp

/-- string(v). -/
theorem Ts.conv (h : Ts w g n cap L) (hL : ∀ x ∈ L, x < 256) : (convert 29 9 (.slice (some ⟨g, 0, none⟩) n cap)).run Tryd.prog w = .ok (.string ⟨(L.map UInt8.ofNat).toArray⟩) w := by
  have h1 := h.1
  have q := run_convert_bytes_back (P := Tryd.prog) w 29 9 5 ⟨g, 0, none⟩ cap (L.map UInt8.ofNat) und29 und5 und9 ?_
  · rw [List.length_map, h1] at q; exact q
  · intro j hj
    rw [List.length_map] at hj
    have e : (⟨g, 0, none⟩ : Addr).add j = ⟨g, j, none⟩ := by unfold Addr.add; split <;> simp_all
    rw [e, h.cell j (by omega), List.getElem_map, List.getD_eq_getElem?_getD, List.getElem?_eq_getElem hj]
    have hlt : L[j] < 256 := hL _ (List.getElem_mem _)
    rw [UInt8.toNat_ofNat', Nat.mod_eq_of_lt hlt]
    rfl
end
theorem Ts.of_own {w : World} {base g n cap : Nat} {L : List Nat} (h : w.ownsRow base 5 1 (.slice (some ⟨g, 0, none⟩) n cap) n (L.map bv)) : Ts w g n cap L := by
  rcases h.2 with ⟨h1, _⟩ | ⟨g', cap', cur, h1, h2, h3, h4, h5, h6, h7⟩
  · cases h1
  · cases h1
    exact ⟨by simpa using h.1, h4, h5, cur, (0, 0), h3, by simpa using h6, fun j _ => by simp, by simpa using h7⟩
/-- make([]byte, 0, m). -/
theorem ts_make (w : World) (m : Nat) (hm : m ≤ 1000000) :
    ∃ w', (Instr.makeSlice 29 (.int .i64 0) (.int .i64 m)).run Tryd.prog w = .ok (.slice (some ⟨w.heap.size, 0, none⟩) 0 m) w' ∧ Ts w' w.heap.size 0 m [] ∧ Below w.heap.size w w' := by
  obtain ⟨i, hi0, hz, hz1, hz2⟩ : ∃ i, Tryd.prog.info? 5 = some i ∧ i.zero = some (.int .u8 0) ∧ i.size = 1 ∧ i.bytes = 1 := by
    have hi := info5
    cases hq : Tryd.prog.info? 5 with
    | none => rw [hq] at hi; cases hi
    | some i => rw [hq] at hi; simp only [Option.map_some, Option.some.injEq, Prod.mk.injEq] at hi; exact ⟨i, rfl, hi⟩
  obtain ⟨w', h1, h2, h3⟩ := run_make_own (P := Tryd.prog) w w.heap.size 29 5 i (.int .u8 0) 1 und29 hi0 hz hz1 .i64 .i64 m (by rw [hz2]; omega) (by unfold maxLen; omega) (Nat.le_refl _)
  exact ⟨w', h1, Ts.of_own h2, ⟨h3.os, h3.tape, h3.output, h3.size, fun k hk => h3.block k hk (by simp)⟩⟩
end Go.Proofs.YtggfibheolpbiaaDoor
