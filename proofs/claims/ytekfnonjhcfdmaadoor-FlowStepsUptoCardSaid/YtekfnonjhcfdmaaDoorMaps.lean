/- Maps as association lists: what lookup, update, delete, clear and len do to the block of a map whose keys are integers or strings and whose elements are any values. No condition beyond the block's content being the list. -/
import Derived.WalkKit
import Derived.MapKept
import Derived.Maps.Keyed
import Derived.RangeFuncRecord
namespace Go.Mp
open Go.MapKept

variable {K V : Type}

/-- Block b is a map whose entries are the list l, in the model's order, with their stamps. -/
def MapAt (w : World) (b : Nat) (kap : K → Value) (nu : V → Value) (l : List (K × V)) : Prop :=
  ∃ es c, w.heap[b]? = some (.map es c) ∧ es.toList.map (fun e => (e.key, e.val)) = l.map (fun p => (kap p.1, nu p.2)) ∧ Stamped es c

structure Emb (P : Program) (k : TypeId) (kap : K → Value) : Prop where
  kind : ∃ d, P.underlying k = some d ∧ ∀ a, IsKey d (kap a)
  inj : ∀ {a b}, kap a = kap b → a = b

theorem MapAt.lt {w : World} {b : Nat} {kap : K → Value} {nu : V → Value} {l : List (K × V)} (h : MapAt w b kap nu l) : b < w.heap.size := by
  obtain ⟨es, c, hb, _⟩ := h; exact (Array.getElem?_eq_some_iff.1 hb).1
theorem MapAt.of_heap {w w' : World} {b : Nat} {kap : K → Value} {nu : V → Value} {l : List (K × V)} (h : MapAt w b kap nu l) (he : w'.heap[b]? = w.heap[b]?) : MapAt w' b kap nu l := by
  obtain ⟨es, c, hb, hl⟩ := h; exact ⟨es, c, he.trans hb, hl⟩
theorem MapAt.new (w : World) (kap : K → Value) (nu : V → Value) : MapAt (w.alloc (.map #[] 0)) w.heap.size kap nu [] := ⟨#[], 0, (heap_alloc w _).1, rfl, stamped_empty _⟩

section
variable {P : Program} {t k e : TypeId} {kap : K → Value} {nu : V → Value} {w : World} {b : Nat} {l : List (K × V)}
theorem run_len (ty : TypeId) (ht : P.underlying t = some (.map k e)) (h : MapAt w b kap nu l) : (Builtin.len_ #[t] ty #[.map (some b)]).run P w = .ok (goInt l.length) w := by
  obtain ⟨es, c, hb, hl, hst⟩ := h
  have : es.size = l.length := by have := congrArg List.length hl; simpa using this
  simp [Builtin.len_, run_underlying ht, MapKept.run_getObj_map hb, Result.andThen, this]

theorem run_clear (ty : TypeId) (ht : P.underlying t = some (.map k e)) (h : MapAt w b kap nu l) : ∃ o, (Builtin.clear_ #[t] ty #[.map (some b)]).run P w = .ok (.tuple #[]) (w.putObj b o) ∧ MapAt (w.putObj b o) b kap nu ([] : List (K × V)) := by
  obtain ⟨es, c, hb, hl, hst⟩ := h
  have hlt := (Array.getElem?_eq_some_iff.1 hb).1
  exact ⟨.map #[] c, by simp [Builtin.clear_, run_underlying ht, MapKept.run_getObj_map hb, run_setObj_map _ hb, Result.andThen, World.putObj], _, _, World.putObj_heap_same hlt, rfl, stamped_empty _⟩
end

variable [DecidableEq K]


def get : List (K × V) → K → Option V
  | [], _ => none
  | (a, v) :: r, k => if a = k then some v else get r k
def put : List (K × V) → K → V → List (K × V)
  | [], k, v => [(k, v)]
  | (a, u) :: r, k, v => if a = k then (k, v) :: r else (a, u) :: put r k v
def del : List (K × V) → K → List (K × V)
  | [], _ => []
  | (a, u) :: r, k => if a = k then r else (a, u) :: del r k

/-- The search, on the list. -/
theorem findNow_list {d : TypeDesc} {kap : K → Value} {nu : V → Value} (hk : ∀ a, IsKey d (kap a)) (inj : ∀ {a b}, kap a = kap b → a = b) (k : K) :
    ∀ (es : List MapEntry) (l : List (K × V)) (i : Nat), es.map (fun e => (e.key, e.val)) = l.map (fun p => (kap p.1, nu p.2)) →
      (get l k = none ∧ Instr.findNow d (kap k) es i = some none) ∨
      (∃ j v e, get l k = some v ∧ Instr.findNow d (kap k) es i = some (some (i + j, nu v)) ∧ es[j]? = some e ∧ e.key = kap k ∧
        (∀ u, put l k u = l.set j (k, u)) ∧ del l k = l.eraseIdx j ∧ j < l.length)
  | [], [], _, _ => .inl ⟨rfl, rfl⟩
  | [], _ :: _, _, h => by simp at h
  | _ :: _, [], _, h => by simp at h
  | e :: es, (a, v) :: l, i, h => by
    simp only [List.map_cons, List.cons.injEq, Prod.mk.injEq] at h
    obtain ⟨⟨h1, h2⟩, h3⟩ := h
    obtain ⟨r, hr, hiff⟩ := sameNow_of_keys (hk k) (hk a)
    rw [← h1] at hr
    by_cases ha : a = k
    · subst ha
      have : r = true := hiff.2 rfl
      subst this
      exact .inr ⟨0, v, e, by simp [get], by simp [Instr.findNow, hr, h2], rfl, h1, by simp [put], by simp [del], by simp⟩
    · have : r = false := by
        cases r with
        | false => rfl
        | true => exact absurd (inj (hiff.1 rfl)).symm ha
      subst this
      rcases findNow_list hk inj k es l (i + 1) h3 with ⟨g1, g2⟩ | ⟨j, v', e', g1, g2, g3, g4, g5, g6, g7⟩
      · exact .inl ⟨by simp [get, ha, g1], by simp [Instr.findNow, hr, g2]⟩
      · exact .inr ⟨j + 1, v', e', by simp [get, ha, g1], by simp [Instr.findNow, hr, g2]; omega, by simpa using g3, g4, by simp [put, ha, g5], by simp [del, ha, g6], by simp; omega⟩

theorem put_none (l : List (K × V)) (k : K) (v : V) (h : get l k = none) : put l k v = l ++ [(k, v)] := by
  induction l with
  | nil => rfl
  | cons p r ih =>
    obtain ⟨a, u⟩ := p
    by_cases ha : a = k
    · simp [get, ha] at h
    · simp [get, ha] at h; simp [put, ha, ih h]
theorem del_none (l : List (K × V)) (k : K) (h : get l k = none) : del l k = l := by
  induction l with
  | nil => rfl
  | cons p r ih =>
    obtain ⟨a, u⟩ := p
    by_cases ha : a = k
    · simp [get, ha] at h
    · simp [get, ha] at h; simp [del, ha, ih h]

theorem get_mem {l : List (K × V)} {a : K} (h : get l a = none) : ∀ p ∈ l, p.1 ≠ a := by
  induction l with
  | nil => simp
  | cons q r ih =>
    obtain ⟨c, u⟩ := q
    by_cases hc : c = a
    · simp [get, hc] at h
    · simp only [get, hc, ↓reduceIte] at h
      intro p hp
      rcases List.mem_cons.1 hp with rfl | hp
      · exact hc
      · exact ih h p hp

theorem fresh_key {kap : K → Value} {nu : V → Value} (inj : ∀ {a b}, kap a = kap b → a = b) {es : Array MapEntry} {l : List (K × V)} {a : K}
    (hl : es.toList.map (fun e => (e.key, e.val)) = l.map (fun p => (kap p.1, nu p.2))) (h : get l a = none) : ∀ x ∈ es.toList, x.key ≠ kap a := by
  intro x hx hk
  have : (x.key, x.val) ∈ l.map (fun p => (kap p.1, nu p.2)) := hl ▸ List.mem_map.2 ⟨x, hx, rfl⟩
  obtain ⟨p, hp, e⟩ := List.mem_map.1 this
  simp only [Prod.mk.injEq] at e
  exact get_mem h p hp (inj (e.1.trans hk))

section
variable {P : Program} {t k e : TypeId} {kap : K → Value} {nu : V → Value} {w : World} {b : Nat} {l : List (K × V)}

theorem run_lookup2 (E : Emb P k kap) (ht : P.underlying t = some (.map k e)) (h : MapAt w b kap nu l) {z : Value} (hz : (zeroValue e).run P w = .ok z w) (a : K) :
    (Instr.lookup t (.map (some b)) (kap a) true).run P w = .ok (.tuple #[((get l a).map nu).getD z, .bool (get l a).isSome]) w := by
  obtain ⟨es, c, hb, hl, hst⟩ := h
  obtain ⟨d, hd, hk⟩ := E.kind
  rcases findNow_list hk E.inj a es.toList l 0 hl with ⟨g1, g2⟩ | ⟨j, v, e', g1, g2, _⟩
  · simp [Instr.lookup, run_underlying ht, MapKept.run_getObj_map hb, run_checkKey hd (hk a), run_findKey hd g2, g1, hz, Result.andThen]
  · simp [Instr.lookup, run_underlying ht, MapKept.run_getObj_map hb, run_checkKey hd (hk a), run_findKey hd g2, g1, Result.andThen]

theorem run_lookup1 (E : Emb P k kap) (ht : P.underlying t = some (.map k e)) (h : MapAt w b kap nu l) {z : Value} (hz : (zeroValue e).run P w = .ok z w) (a : K) :
    (Instr.lookup t (.map (some b)) (kap a) false).run P w = .ok (((get l a).map nu).getD z) w := by
  obtain ⟨es, c, hb, hl, hst⟩ := h
  obtain ⟨d, hd, hk⟩ := E.kind
  rcases findNow_list hk E.inj a es.toList l 0 hl with ⟨g1, g2⟩ | ⟨j, v, e', g1, g2, _⟩
  · simp [Instr.lookup, run_underlying ht, MapKept.run_getObj_map hb, run_checkKey hd (hk a), run_findKey hd g2, g1, hz, Result.andThen]
  · simp [Instr.lookup, run_underlying ht, MapKept.run_getObj_map hb, run_checkKey hd (hk a), run_findKey hd g2, g1, Result.andThen]

/-- A map's block turned. -/
theorem putObj_grown (w : World) (b : Nat) (o : Obj) : w.grownBy (w.putObj b o) (some b) := ⟨rfl, rfl, rfl, by simp, fun k _ hk => World.putObj_heap_other (fun q => hk (by rw [q]))⟩

theorem run_update (E : Emb P k kap) (ht : P.underlying t = some (.map k e)) (h : MapAt w b kap nu l) (a : K) (v : V) :
    ∃ o, (Instr.mapUpdate t (.map (some b)) (kap a) (nu v)).run P w = .ok () (w.putObj b o) ∧ MapAt (w.putObj b o) b kap nu (put l a v) := by
  obtain ⟨es, c, hb, hl, hst⟩ := h
  obtain ⟨d, hd, hk⟩ := E.kind
  have hlt := (Array.getElem?_eq_some_iff.1 hb).1
  rcases findNow_list hk E.inj a es.toList l 0 hl with ⟨g1, g2⟩ | ⟨j, v', e', g1, g2, g3, g4, g5, g6, g7⟩
  · refine ⟨.map (es.push ⟨kap a, nu v, c⟩) (c + 1), ?_, ?_⟩
    · simp [Instr.mapUpdate, run_underlying ht, MapKept.run_getObj_map hb, run_checkKey hd (hk a), run_findKey hd g2, run_setObj_map _ hb, Result.andThen, World.putObj]
    · exact ⟨_, _, World.putObj_heap_same hlt, by rw [put_none _ _ _ g1]; simp [hl], stamped_push hst (fresh_key E.inj hl g1)⟩
  · have hj : es[j]? = some e' := by simpa using g3
    refine ⟨.map (es.modify j (fun q => { q with key := kap a, val := nu v })) c, ?_, ?_⟩
    · simp only [Nat.zero_add] at g2
      simp [Instr.mapUpdate, run_underlying ht, MapKept.run_getObj_map hb, run_checkKey hd (hk a), run_findKey hd g2, hj, g4, run_keyThatStays (hk a), run_setObj_map _ hb, Result.andThen, World.putObj]
    · refine ⟨_, _, World.putObj_heap_same hlt, ?_, stamped_modify hst _ _ (fun _ _ => rfl) (fun x _ hx => by rw [hj] at hx; cases hx; exact g4.symm)⟩
      rw [g5, Array.toList_modify, ChangeMaps.modify_eq_set _ _ _ _ g3, List.map_set, List.map_set, hl]

theorem run_delete {ty : TypeId} (E : Emb P k kap) (ht : P.underlying t = some (.map k e)) (h : MapAt w b kap nu l) (a : K) :
    ∃ o, (Builtin.delete_ #[t, k] ty #[.map (some b), kap a]).run P w = .ok (.tuple #[]) (w.putObj b o) ∧ MapAt (w.putObj b o) b kap nu (del l a) := by
  obtain ⟨es, c, hb, hl, hst⟩ := h
  obtain ⟨d, hd, hk⟩ := E.kind
  have hlt := (Array.getElem?_eq_some_iff.1 hb).1
  rcases findNow_list hk E.inj a es.toList l 0 hl with ⟨g1, g2⟩ | ⟨j, v', e', g1, g2, g3, g4, g5, g6, g7⟩
  · refine ⟨.map es c, ?_, ?_⟩
    · simp [Builtin.delete_, run_underlying ht, MapKept.run_getObj_map hb, run_checkKey hd (hk a), run_findKey hd g2, run_setObj_map _ hb, Result.andThen, World.putObj]
    · exact ⟨_, _, World.putObj_heap_same hlt, by rw [del_none _ _ g1]; exact hl, hst⟩
  · refine ⟨.map (es.eraseIdxIfInBounds j) c, ?_, ?_⟩
    · simp only [Nat.zero_add] at g2
      simp [Builtin.delete_, run_underlying ht, MapKept.run_getObj_map hb, run_checkKey hd (hk a), run_findKey hd g2, run_setObj_map _ hb, Result.andThen, World.putObj]
    · refine ⟨_, _, World.putObj_heap_same hlt, ?_, stamped_erase hst _⟩
      have hjl : j < es.size := by have := (List.getElem?_eq_some_iff.1 g3).1; simpa using this
      rw [g6]
      simp only [Array.eraseIdxIfInBounds, hjl, ↓reduceDIte, Array.toList_eraseIdx]
      rw [ChangeMaps.map_eraseIdx, ChangeMaps.map_eraseIdx, hl]

end

theorem int_emb {P : Program} {k : TypeId} {q : IntKind} (hk : P.underlying k = some (.int q)) : Emb P k (fun n : Int => Value.int q n) := ⟨⟨_, hk, fun _ => by simp [IsKey]⟩, fun h => by simpa using h⟩
theorem str_emb {P : Program} {k : TypeId} (hk : P.underlying k = some .string) : Emb P k (fun s : ByteArray => Value.string s) := ⟨⟨_, hk, fun _ => by simp [IsKey]⟩, fun h => by simpa using h⟩
end Go.Mp
