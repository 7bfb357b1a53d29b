/- Maps as association lists: what lookup, update, delete, clear and len do to the block of a map whose keys are integers or strings and whose elements are any values. No condition beyond the block's content being the list. flow.numbers: the set of the places of a kind. flow's sets, plain: which bits they hold. -/
import Derived.WalkKit
import Derived.MapKept
import Derived.Maps.Keyed
import Derived.RangeFuncRecord
import Derived.Test.YtekfnonjhcfdmaaDoorSet1
import Derived.Test.YtekfnonjhcfdmaaDoorWalk1
namespace Go.Mp
open Go.MapKept

variable {K V : Type}

/-- Block b is a map whose entries are the list l, in the model's order, with their stamps. -/
def MapAt (w : World) (b : Nat) (kap : K → Value) (nu : V → Value) (l : List (K × V)) : Prop :=
  ∃ es c, w.heap[b]? = some (.map es c) ∧ es.toList.map (fun e => (e.key, e.val)) = l.map (fun p => (kap p.1, nu p.2)) ∧ Stamped es c

structure Emb (P : Program) (k : TypeId) (kap : K → Value) : Prop where
  kind : ∃ d, P.underlying k = some d ∧ ∀ a, IsKey d (kap a)
  inj : ∀ {a b}, kap a = kap b → a = b

theorem MapAt.lt {w : World} {b : Nat} {kap : K → Value} {nu : V → Value} {l : List (K × V)} (h : MapAt w b kap nu l) : b < w.heap.size := by
  obtain ⟨es, c, hb, _⟩ := h; exact (Array.getElem?_eq_some_iff.1 hb).1
theorem MapAt.of_heap {w w' : World} {b : Nat} {kap : K → Value} {nu : V → Value} {l : List (K × V)} (h : MapAt w b kap nu l) (he : w'.heap[b]? = w.heap[b]?) : MapAt w' b kap nu l := by
  obtain ⟨es, c, hb, hl⟩ := h; exact ⟨es, c, he.trans hb, hl⟩
theorem MapAt.new (w : World) (kap : K → Value) (nu : V → Value) : MapAt (w.alloc (.map #[] 0)) w.heap.size kap nu [] := ⟨#[], 0, (heap_alloc w _).1, rfl, stamped_empty _⟩

section
variable {P : Program} {t k e : TypeId} {kap : K → Value} {nu : V → Value} {w : World} {b : Nat} {l : List (K × V)}
theorem run_len (ty : TypeId) (ht : P.underlying t = some (.map k e)) (h : MapAt w b kap nu l) : (Builtin.len_ #[t] ty #[.map (some b)]).run P w = .ok (goInt l.length) w := by
  obtain ⟨es, c, hb, hl, hst⟩ := h
  have : es.size = l.length := by have := congrArg List.length hl; simpa using this
  simp [Builtin.len_, run_underlying ht, MapKept.run_getObj_map hb, Result.andThen, this]

theorem run_clear (ty : TypeId) (ht : P.underlying t = some (.map k e)) (h : MapAt w b kap nu l) : ∃ o, (Builtin.clear_ #[t] ty #[.map (some b)]).run P w = .ok (.tuple #[]) (w.putObj b o) ∧ MapAt (w.putObj b o) b kap nu ([] : List (K × V)) := by
  obtain ⟨es, c, hb, hl, hst⟩ := h
  have hlt := (Array.getElem?_eq_some_iff.1 hb).1
  exact ⟨.map #[] c, by simp [Builtin.clear_, run_underlying ht, MapKept.run_getObj_map hb, run_setObj_map _ hb, Result.andThen, World.putObj], _, _, World.putObj_heap_same hlt, rfl, stamped_empty _⟩
end

variable [DecidableEq K]


def get : List (K × V) → K → Option V
  | [], _ => none
  | (a, v) :: r, k => if a = k then some v else get r k
def put : List (K × V) → K → V → List (K × V)
  | [], k, v => [(k, v)]
  | (a, u) :: r, k, v => if a = k then (k, v) :: r else (a, u) :: put r k v
def del : List (K × V) → K → List (K × V)
  | [], _ => []
  | (a, u) :: r, k => if a = k then r else (a, u) :: del r k

/-- The search, on the list. -/
theorem findNow_list {d : TypeDesc} {kap : K → Value} {nu : V → Value} (hk : ∀ a, IsKey d (kap a)) (inj : ∀ {a b}, kap a = kap b → a = b) (k : K) :
    ∀ (es : List MapEntry) (l : List (K × V)) (i : Nat), es.map (fun e => (e.key, e.val)) = l.map (fun p => (kap p.1, nu p.2)) →
      (get l k = none ∧ Instr.findNow d (kap k) es i = some none) ∨
      (∃ j v e, get l k = some v ∧ Instr.findNow d (kap k) es i = some (some (i + j, nu v)) ∧ es[j]? = some e ∧ e.key = kap k ∧
        (∀ u, put l k u = l.set j (k, u)) ∧ del l k = l.eraseIdx j ∧ j < l.length)
  | [], [], _, _ => .inl ⟨rfl, rfl⟩
  | [], _ :: _, _, h => by simp at h
  | _ :: _, [], _, h => by simp at h
  | e :: es, (a, v) :: l, i, h => by
    simp only [List.map_cons, List.cons.injEq, Prod.mk.injEq] at h
    obtain ⟨⟨h1, h2⟩, h3⟩ := h
    obtain ⟨r, hr, hiff⟩ := sameNow_of_keys (hk k) (hk a)
    rw [← h1] at hr
    by_cases ha : a = k
    · subst ha
      have : r = true := hiff.2 rfl
      subst this
      exact .inr ⟨0, v, e, by simp [get], by simp [Instr.findNow, hr, h2], rfl, h1, by simp [put], by simp [del], by simp⟩
    · have : r = false := by
        cases r with
        | false => rfl
        | true => exact absurd (inj (hiff.1 rfl)).symm ha
      subst this
      rcases findNow_list hk inj k es l (i + 1) h3 with ⟨g1, g2⟩ | ⟨j, v', e', g1, g2, g3, g4, g5, g6, g7⟩
      · exact .inl ⟨by simp [get, ha, g1], by simp [Instr.findNow, hr, g2]⟩
      · exact .inr ⟨j + 1, v', e', by simp [get, ha, g1], by simp [Instr.findNow, hr, g2]; omega, by simpa using g3, g4, by simp [put, ha, g5], by simp [del, ha, g6], by simp; omega⟩

theorem put_none (l : List (K × V)) (k : K) (v : V) (h : get l k = none) : put l k v = l ++ [(k, v)] := by
  induction l with
  | nil => rfl
  | cons p r ih =>
    obtain ⟨a, u⟩ := p
    by_cases ha : a = k
    · simp [get, ha] at h
    · simp [get, ha] at h; simp [put, ha, ih h]
theorem del_none (l : List (K × V)) (k : K) (h : get l k = none) : del l k = l := by
  induction l with
  | nil => rfl
  | cons p r ih =>
    obtain ⟨a, u⟩ := p
    by_cases ha : a = k
    · simp [get, ha] at h
    · simp [get, ha] at h; simp [del, ha, ih h]

theorem get_mem {l : List (K × V)} {a : K} (h : get l a = none) : ∀ p ∈ l, p.1 ≠ a := by
  induction l with
  | nil => simp
  | cons q r ih =>
    obtain ⟨c, u⟩ := q
    by_cases hc : c = a
    · simp [get, hc] at h
    · simp only [get, hc, ↓reduceIte] at h
      intro p hp
      rcases List.mem_cons.1 hp with rfl | hp
      · exact hc
      · exact ih h p hp

theorem fresh_key {kap : K → Value} {nu : V → Value} (inj : ∀ {a b}, kap a = kap b → a = b) {es : Array MapEntry} {l : List (K × V)} {a : K}
    (hl : es.toList.map (fun e => (e.key, e.val)) = l.map (fun p => (kap p.1, nu p.2))) (h : get l a = none) : ∀ x ∈ es.toList, x.key ≠ kap a := by
  intro x hx hk
  have : (x.key, x.val) ∈ l.map (fun p => (kap p.1, nu p.2)) := hl ▸ List.mem_map.2 ⟨x, hx, rfl⟩
  obtain ⟨p, hp, e⟩ := List.mem_map.1 this
  simp only [Prod.mk.injEq] at e
  exact get_mem h p hp (inj (e.1.trans hk))

section
variable {P : Program} {t k e : TypeId} {kap : K → Value} {nu : V → Value} {w : World} {b : Nat} {l : List (K × V)}

theorem run_lookup2 (E : Emb P k kap) (ht : P.underlying t = some (.map k e)) (h : MapAt w b kap nu l) {z : Value} (hz : (zeroValue e).run P w = .ok z w) (a : K) :
    (Instr.lookup t (.map (some b)) (kap a) true).run P w = .ok (.tuple #[((get l a).map nu).getD z, .bool (get l a).isSome]) w := by
  obtain ⟨es, c, hb, hl, hst⟩ := h
  obtain ⟨d, hd, hk⟩ := E.kind
  rcases findNow_list hk E.inj a es.toList l 0 hl with ⟨g1, g2⟩ | ⟨j, v, e', g1, g2, _⟩
  · simp [Instr.lookup, run_underlying ht, MapKept.run_getObj_map hb, run_checkKey hd (hk a), run_findKey hd g2, g1, hz, Result.andThen]
  · simp [Instr.lookup, run_underlying ht, MapKept.run_getObj_map hb, run_checkKey hd (hk a), run_findKey hd g2, g1, Result.andThen]

theorem run_lookup1 (E : Emb P k kap) (ht : P.underlying t = some (.map k e)) (h : MapAt w b kap nu l) {z : Value} (hz : (zeroValue e).run P w = .ok z w) (a : K) :
    (Instr.lookup t (.map (some b)) (kap a) false).run P w = .ok (((get l a).map nu).getD z) w := by
  obtain ⟨es, c, hb, hl, hst⟩ := h
  obtain ⟨d, hd, hk⟩ := E.kind
  rcases findNow_list hk E.inj a es.toList l 0 hl with ⟨g1, g2⟩ | ⟨j, v, e', g1, g2, _⟩
  · simp [Instr.lookup, run_underlying ht, MapKept.run_getObj_map hb, run_checkKey hd (hk a), run_findKey hd g2, g1, hz, Result.andThen]
  · simp [Instr.lookup, run_underlying ht, MapKept.run_getObj_map hb, run_checkKey hd (hk a), run_findKey hd g2, g1, Result.andThen]

/-- A map's block turned. -/
theorem putObj_grown (w : World) (b : Nat) (o : Obj) : w.grownBy (w.putObj b o) (some b) := ⟨rfl, rfl, rfl, by simp, fun k _ hk => World.putObj_heap_other (fun q => hk (by rw [q]))⟩

theorem run_update (E : Emb P k kap) (ht : P.underlying t = some (.map k e)) (h : MapAt w b kap nu l) (a : K) (v : V) :
    ∃ o, (Instr.mapUpdate t (.map (some b)) (kap a) (nu v)).run P w = .ok () (w.putObj b o) ∧ MapAt (w.putObj b o) b kap nu (put l a v) := by
  obtain ⟨es, c, hb, hl, hst⟩ := h
  obtain ⟨d, hd, hk⟩ := E.kind
  have hlt := (Array.getElem?_eq_some_iff.1 hb).1
  rcases findNow_list hk E.inj a es.toList l 0 hl with ⟨g1, g2⟩ | ⟨j, v', e', g1, g2, g3, g4, g5, g6, g7⟩
  · refine ⟨.map (es.push ⟨kap a, nu v, c⟩) (c + 1), ?_, ?_⟩
    · simp [Instr.mapUpdate, run_underlying ht, MapKept.run_getObj_map hb, run_checkKey hd (hk a), run_findKey hd g2, run_setObj_map _ hb, Result.andThen, World.putObj]
    · exact ⟨_, _, World.putObj_heap_same hlt, by rw [put_none _ _ _ g1]; simp [hl], stamped_push hst (fresh_key E.inj hl g1)⟩
  · have hj : es[j]? = some e' := by simpa using g3
    refine ⟨.map (es.modify j (fun q => { q with key := kap a, val := nu v })) c, ?_, ?_⟩
    · simp only [Nat.zero_add] at g2
      simp [Instr.mapUpdate, run_underlying ht, MapKept.run_getObj_map hb, run_checkKey hd (hk a), run_findKey hd g2, hj, g4, run_keyThatStays (hk a), run_setObj_map _ hb, Result.andThen, World.putObj]
    · refine ⟨_, _, World.putObj_heap_same hlt, ?_, stamped_modify hst _ _ (fun _ _ => rfl) (fun x _ hx => by rw [hj] at hx; cases hx; exact g4.symm)⟩
      rw [g5, Array.toList_modify, ChangeMaps.modify_eq_set _ _ _ _ g3, List.map_set, List.map_set, hl]

theorem run_delete {ty : TypeId} (E : Emb P k kap) (ht : P.underlying t = some (.map k e)) (h : MapAt w b kap nu l) (a : K) :
    ∃ o, (Builtin.delete_ #[t, k] ty #[.map (some b), kap a]).run P w = .ok (.tuple #[]) (w.putObj b o) ∧ MapAt (w.putObj b o) b kap nu (del l a) := by
  obtain ⟨es, c, hb, hl, hst⟩ := h
  obtain ⟨d, hd, hk⟩ := E.kind
  have hlt := (Array.getElem?_eq_some_iff.1 hb).1
  rcases findNow_list hk E.inj a es.toList l 0 hl with ⟨g1, g2⟩ | ⟨j, v', e', g1, g2, g3, g4, g5, g6, g7⟩
  · refine ⟨.map es c, ?_, ?_⟩
    · simp [Builtin.delete_, run_underlying ht, MapKept.run_getObj_map hb, run_checkKey hd (hk a), run_findKey hd g2, run_setObj_map _ hb, Result.andThen, World.putObj]
    · exact ⟨_, _, World.putObj_heap_same hlt, by rw [del_none _ _ g1]; exact hl, hst⟩
  · refine ⟨.map (es.eraseIdxIfInBounds j) c, ?_, ?_⟩
    · simp only [Nat.zero_add] at g2
      simp [Builtin.delete_, run_underlying ht, MapKept.run_getObj_map hb, run_checkKey hd (hk a), run_findKey hd g2, run_setObj_map _ hb, Result.andThen, World.putObj]
    · refine ⟨_, _, World.putObj_heap_same hlt, ?_, stamped_erase hst _⟩
      have hjl : j < es.size := by have := (List.getElem?_eq_some_iff.1 g3).1; simpa using this
      rw [g6]
      simp only [Array.eraseIdxIfInBounds, hjl, ↓reduceDIte, Array.toList_eraseIdx]
      rw [ChangeMaps.map_eraseIdx, ChangeMaps.map_eraseIdx, hl]

end

theorem int_emb {P : Program} {k : TypeId} {q : IntKind} (hk : P.underlying k = some (.int q)) : Emb P k (fun n : Int => Value.int q n) := ⟨⟨_, hk, fun _ => by simp [IsKey]⟩, fun h => by simpa using h⟩
theorem str_emb {P : Program} {k : TypeId} (hk : P.underlying k = some .string) : Emb P k (fun s : ByteArray => Value.string s) := ⟨⟨_, hk, fun _ => by simp [IsKey]⟩, fun h => by simpa using h⟩
end Go.Mp
namespace Go.Proofs.YtekfnonjhcfdmaaDoor
open Go.RowKit Go.Rt Go.Rw Go.Mp

def kyV (n : Int) : Value := .int .i64 n
def ixV (k : Nat) : Value := .int .i64 (k : Int)
theorem u57 : Tryd.prog.underlying 57 = some (.map 3 3) := by kernel_rfl
theorem emb3 : Emb Tryd.prog 3 kyV := int_emb (by kernel_rfl)
/-- The index of a number. -/
def ixF (idx : List (Int × Nat)) (n : Int) : Nat := (Mp.get idx n).getD 0
theorem look57 {w : World} {mb : Nat} {idx : List (Int × Nat)} (h : MapAt w mb kyV ixV idx) (n : Int) : (Instr.lookup 57 (.map (some mb)) (.int .i64 n) false).run Tryd.prog w = .ok (.int .i64 (ixF idx n : Nat)) w := by
  have hz : (zeroValue 3).run Tryd.prog w = .ok (.int .i64 0) w := Tryd.zeroValue3 w
  have := run_lookup1 emb3 u57 h hz n
  unfold kyV at this
  rw [this]
  unfold ixF
  cases Mp.get idx n <;> rfl
/-- The set of the places of a kind. -/
def numF (idx : List (Int × Nat)) (kind : Int) : List Ar → List Nat → List Nat
  | [], ws => ws
  | a :: r, ws => numF idx kind r (if a.k = kind then bitF ws (ixF idx a.n / 64) (ixF idx a.n % 64) else ws)
theorem numF_append (idx : List (Int × Nat)) (kind : Int) : ∀ (l m : List Ar) (ws : List Nat), numF idx kind (l ++ m) ws = numF idx kind m (numF idx kind l ws)
  | [], _, _ => rfl
  | a :: r, m, ws => by simp only [List.cons_append, numF]; exact numF_append idx kind r m _
theorem add58' (b base : Nat) (o : Option Nat) (ws : List Nat) (k : Nat) (w : World) (h : SetAt w base b o ws) (hk : k ≤ 60000000000) (hz : base ≤ w.heap.size) :
    Calls Tryd.prog 58 #[.pointer (some ⟨b, 0, none⟩), .int .i64 (k : Int)] w fun e w' => e = .returned (.tuple #[]) ∧ ∃ o', SetAt w' base b o' (bitF ws (k / 64) (k % 64)) ∧ Same w o o' ∧ Only (b :: o.toList) w w' := by
  have := add58 b base o ws (k / 64) (k % 64) w h (by omega) (by omega) hz
  rwa [Nat.div_add_mod] at this
theorem SetAt.lo {w : World} {base b : Nat} {o : Option Nat} {ws : List Nat} (h : SetAt w base b o ws) : ∀ r ∈ b :: o.toList, base ≤ r ∧ r < w.heap.size := by
  obtain ⟨h0, _, sa, co, hb, hs, hown⟩ := h
  intro r hr
  rcases List.mem_cons.1 hr with rfl | hr
  · exact ⟨h0, hb.lt⟩
  · rw [Option.mem_toList] at hr
    exact hs.lt r (by rw [hown]; exact hr)
theorem SetAt.below {w w' : World} {base b m : Nat} {o : Option Nat} {ws : List Nat} (h : SetAt w base b o ws) (hb : Below m w w') (hm : w.heap.size ≤ m) : SetAt w' base b o ws := by
  obtain ⟨h0, h1, sa, co, h2, h3, h4⟩ := h
  exact ⟨h0, h1, sa, co, h2.below hb (Nat.lt_of_lt_of_le h2.lt hm), h3.below hb (fun g hg => Nat.lt_of_lt_of_le (h3.lt g hg).2 hm), h4⟩
/-- A new set that is returned. -/
def SetR (ws : List Nat) (w : World) (e : Ending) (w' : World) : Prop := Below w.heap.size w w' ∧ ∃ b o, e = .returned (.pointer (some ⟨b, 0, none⟩)) ∧ SetAt w' w.heap.size b o ws
set_option maxRecDepth 100000 in
set_option maxHeartbeats 4000000 in
theorem nums35 (l : List Ar) (v : Value) (kind : Int) (mb : Nat) (idx : List (Int × Nat)) (w : World) (h : SlAt w 2 arC v l) (hm : MapAt w mb kyV ixV idx) (hx : ∀ a ∈ l, ixF idx a.n ≤ 60000000000) :
    Calls Tryd.prog 35 #[v, .int .i64 kind, .map (some mb)] w (SetR (numF idx kind l []) w) := by
  obtain ⟨_, sa, ca, rfl⟩ := h.len
  obtain ⟨n, hn⟩ : ∃ q, q = l.length := ⟨_, rfl⟩
  rw [← hn] at h ⊢
  have HN := Lib.hid hn
  have HL := Lib.hid h
  have HM := Lib.hid hm
  have HX := Lib.hid hx
  have S0 : Hid (SetAt (w.alloc (.cells #[.slice none 0 0] 62)) w.heap.size w.heap.size none []) := Lib.hid ⟨Nat.le_refl _, (fun _ h => by cases h), none, 0, Blk.new _ _ _, Sl.nil _ _ _ _ _, rfl⟩
  have B0 := Lib.hid ((Below.refl w.heap.size w).alloc (Nat.le_refl _) (.cells #[.slice none 0 0] 62))
  clear hn h hm hx
  go_enter Tryd.func35, Tryd.ntmps35
  go_upto_region 2 with fail
  generalize w.alloc (.cells #[.slice none 0 0] 62) = w0 at S0 B0 ⊢
  go_wp2_with fail
  go_loopw [14] (fun z wr => ∃ (i : Nat) (o : Option Nat) (ws : List Nat), i ≤ n ∧ z = .int .i64 (i : Int) ∧ Hid (ws = numF idx kind (l.take i) []) ∧ Hid (SetAt wr w.heap.size w.heap.size o ws) ∧ Hid (Below w.heap.size w wr)) (fun z _ => n - (intOf z).toNat)
  case atStart => exact ⟨0, none, [], Nat.zero_le _, rfl, Lib.hid rfl, S0, B0⟩
  case round =>
    obtain ⟨i, o, ws, hi, rfl, HW, HS, HB⟩ := hrel
    clear S0 B0
    by_cases hlt : i < n
    · have hlti : (i : Int) < (n : Int) := by omega
      obtain ⟨b, q, rfl, hb, hc⟩ := HL.out.get (by rw [← HN.out]; omega)
      have hil : i < l.length := by rw [← HN.out]; exact hlt
      have k0 := hc i 0 hil (by omega)
      have k1 := hc i 1 hil (by omega)
      have ES := Lib.hid (List.take_succ_eq_append_getElem hil)
      have hmem := List.getElem_mem hil
      obtain ⟨a, ha⟩ : ∃ a, a = l[i] := ⟨_, rfl⟩
      rw [← ha] at k0 k1 ES hmem
      have HXA := Lib.hid (HX.out a hmem)
      obtain ⟨ak, an⟩ := a
      simp only [arC, List.getElem?_cons_zero, List.getElem?_cons_succ, Nat.add_zero] at k0 k1
      have k0' := (HB.out.cell (p := ⟨b, _, none⟩) hb).trans k0
      have k1' := (HB.out.cell (p := ⟨b, _, none⟩) hb).trans k1
      have BA : Hid (Below wr.heap.size wr (wr.alloc (.cells #[.int .i64 ak, .int .i64 an] 38))) := Lib.hid ((Below.refl _ wr).alloc (Nat.le_refl _) _)
      have XA := Lib.hid (Blk.new wr 38 #[.int .i64 ak, .int .i64 an])
      have hws := HB.out.size
      clear k0 k1 ha hc hmem
      go_upto_region 5 with fail
      generalize wr.alloc (.cells #[.int .i64 ak, .int .i64 an] 38) = w1 at BA XA ⊢
      have c0 : w1.cell? ⟨wr.heap.size, 0, none⟩ = some (.int .i64 ak) := XA.out.cell 0
      have c1 : w1.cell? ⟨wr.heap.size, 1, none⟩ = some (.int .i64 an) := XA.out.cell 1
      have S1 := Lib.hid (HS.out.below BA.out (Nat.le_refl _))
      have B1 := Lib.hid (HB.out.trans (BA.out.mono hws))
      have hw1 := B1.out.size
      clear BA XA HS HB
      by_cases hak : ak = kind
      · subst hak
        have HM1 : MapAt w1 mb kyV ixV idx := HM.out.of_heap (B1.out.block mb HM.out.lt)
        have hlk := look57 HM1 an
        obtain ⟨k, hk⟩ : ∃ k, k = ixF idx an := ⟨_, rfl⟩
        rw [← hk] at hlk
        have hkb : k ≤ 60000000000 := by rw [hk]; exact HXA.out
        have HNW : Hid (bitF ws (k / 64) (k % 64) = numF idx ak (l.take (i + 1)) []) := Lib.hid (by rw [ES.out, numF_append, ← HW.out]; simp [numF, hk])
        clear hk HM1
        go_wp2_with fail
        refine (add58' w.heap.size w.heap.size o ws k w1 S1.out hkb hw1).mono ?_
        rintro e w2 ⟨rfl, o2, s2, _, on2⟩
        have S2 := Lib.hid s2
        have B2 := Lib.hid (B1.out.trans (on2.below (fun r hr => (S1.out.lo r hr).1) hw1))
        clear s2 on2 S1 B1
        go_wp2_with fail
        go_roundw
        case rel => exact ⟨i + 1, o2, _, by omega, by go_num, HNW, S2, B2⟩
        case measure => simp [intOf]; omega
      · have dn := i64_bne ak kind hak
        have dn2 : (ak == kind) = false := by rw [beq_eq_false_iff_ne]; exact hak
        have HNW : Hid (ws = numF idx kind (l.take (i + 1)) []) := Lib.hid (by rw [ES.out, numF_append, ← HW.out]; simp [numF, hak])
        clear hak
        go_wp2_with fail
        go_roundw
        case rel => exact ⟨i + 1, o, ws, by omega, by go_num, HNW, S1, B1⟩
        case measure => simp [intOf]; omega
    · have hlti : ¬ (i : Int) < (n : Int) := by omega
      obtain rfl : i = n := by omega
      have HWN : Hid (ws = numF idx kind l []) := Lib.hid (by rw [HW.out, List.take_of_length_le (by rw [← HN.out]; exact Nat.le_refl _)])
      clear hlt
      go_wp2_with fail
      go_ret
      exact ⟨HB.out, _, o, rfl, by rw [← HWN.out]; exact HS.out⟩
end Go.Proofs.YtekfnonjhcfdmaaDoor
namespace Go.Proofs.YtekfnonjhcfdmaaDoor
open Go

theorem getD_pad (l : List Nat) (m i : Nat) : (l ++ List.replicate m 0).getD i 0 = l.getD i 0 := by
  rw [List.getD_eq_getElem?_getD, List.getD_eq_getElem?_getD]
  by_cases h : i < l.length
  · rw [List.getElem?_append_left h]
  · rw [List.getElem?_append_right (by omega), List.getElem?_eq_none (by omega : l.length ≤ i)]
    by_cases h2 : i - l.length < m
    · rw [List.getElem?_replicate, if_pos h2]; rfl
    · rw [List.getElem?_replicate, if_neg h2]
theorem getD_set (l : List Nat) (q x i : Nat) (hq : q < l.length) : (l.set q x).getD i 0 = if i = q then x else l.getD i 0 := by
  rw [List.getD_eq_getElem?_getD, List.getElem?_set, List.getD_eq_getElem?_getD]
  by_cases h : i = q
  · subst h; simp [hq]
  · rw [if_neg (Ne.symm h), if_neg h]
theorem has_bitF (ws : List Nat) (q r j : Nat) (hr : r < 64) : hasF (bitF ws q r) j = (hasF ws j || decide (j = 64 * q + r)) := by
  unfold hasF bitF
  rw [getD_set _ _ _ _ (by simp; omega), getD_pad, getD_pad]
  by_cases h : j / 64 = q
  · rw [if_pos h, Nat.testBit_or, Nat.testBit_two_pow, h]
    congr 1
    rw [decide_eq_decide]
    omega
  · rw [if_neg h]
    have : ¬ j = 64 * q + r := by omega
    simp [this]
theorem bitF_len (ws : List Nat) (q r : Nat) : (bitF ws q r).length = max ws.length (q + 1) := by
  unfold bitF
  simp
  omega
theorem has_numF (idx : List (Int × Nat)) (kind : Int) (j : Nat) : ∀ (l : List Ar) (ws : List Nat), hasF (numF idx kind l ws) j = true ↔ hasF ws j = true ∨ ∃ a ∈ l, a.k = kind ∧ ixF idx a.n = j
  | [], ws => by simp [numF]
  | a :: r, ws => by
    rw [numF, has_numF idx kind j r]
    by_cases h : a.k = kind
    · rw [if_pos h, has_bitF _ _ _ _ (by omega), Nat.div_add_mod]
      simp only [Bool.or_eq_true, decide_eq_true_eq, List.mem_cons, exists_eq_or_imp, h, true_and]
      constructor
      · rintro ((h1 | h1) | h1)
        · exact .inl h1
        · exact .inr (.inl h1.symm)
        · exact .inr (.inr h1)
      · rintro (h1 | h1 | h1)
        · exact .inl (.inl h1)
        · exact .inl (.inr h1.symm)
        · exact .inr h1
    · rw [if_neg h]
      simp [h]
theorem numF_len (idx : List (Int × Nat)) (kind : Int) (M : Nat) : ∀ (l : List Ar) (ws : List Nat), ws.length ≤ M → (∀ a ∈ l, ixF idx a.n < 64 * M) → (numF idx kind l ws).length ≤ M
  | [], ws, h, _ => h
  | a :: r, ws, h, hx => by
    rw [numF]
    refine numF_len idx kind M r _ ?_ (fun b hb => hx b (by simp [hb]))
    split
    · rw [bitF_len]
      have := hx a (by simp)
      omega
    · exact h
theorem has_nil (j : Nat) : hasF [] j = false := by simp [hasF]
theorem joinK_len' (us ds ws : List Nat) : ∀ i, (joinK us ds ws i).1.length = max ws.length i
  | 0 => by simp [joinK]
  | i + 1 => by
    have ih := joinK_len' us ds ws i
    simp only [joinK, stepJ]
    by_cases h : (joinK us ds ws i).1.length ≤ i
    · rw [if_pos h]
      split <;> simp <;> omega
    · rw [if_neg h]
      split <;> simp <;> omega
/-- What the first words of a join hold. -/
theorem joinK_bits (us ds ws : List Nat) : ∀ i, (∀ k, (joinK us ds ws i).1.getD k 0 = if k < i then ws.getD k 0 ||| andN (us.getD k 0) (ds.getD k 0) else ws.getD k 0) ∧
    ((joinK us ds ws i).2 = false ↔ ∀ k, k < i → andN (andN (us.getD k 0) (ds.getD k 0)) (ws.getD k 0) = 0)
  | 0 => ⟨fun k => by simp [joinK], by simp [joinK]⟩
  | i + 1 => by
    obtain ⟨ih1, ih2⟩ := joinK_bits us ds ws i
    obtain ⟨c, hc⟩ : ∃ c, c = joinK us ds ws i := ⟨_, rfl⟩
    obtain ⟨u, hu⟩ : ∃ u, u = andN (us.getD i 0) (ds.getD i 0) := ⟨_, rfl⟩
    obtain ⟨d, hd⟩ : ∃ d, d = if c.1.length ≤ i then c.1 ++ [0] else c.1 := ⟨_, rfl⟩
    have hl := joinK_len' us ds ws i
    rw [← hc] at ih1 ih2 hl
    have hdl : i < d.length := by
      rw [hd]
      split
      · simp; omega
      · omega
    have hdg : ∀ k, d.getD k 0 = c.1.getD k 0 := fun k => by
      rw [hd]
      split
      · exact getD_pad c.1 1 k
      · rfl
    have hdi : d.getD i 0 = ws.getD i 0 := by rw [hdg, ih1, if_neg (Nat.lt_irrefl i)]
    rw [joinK, stepJ, ← hc, ← hu, ← hd]
    by_cases hz : andN u (d.getD i 0) = 0
    · rw [if_pos hz]
      rw [hdi] at hz
      have hor : ws.getD i 0 ||| u = ws.getD i 0 := by
        apply Nat.eq_of_testBit_eq
        intro b
        have := congrArg (fun x => x.testBit b) hz
        simp only [andN_bit, Nat.zero_testBit] at this
        rw [Nat.testBit_or]
        revert this
        cases u.testBit b <;> cases (ws.getD i 0).testBit b <;> simp
      refine ⟨fun k => ?_, ?_⟩
      · rw [hdg, ih1]
        by_cases h1 : k < i
        · rw [if_pos h1, if_pos (by omega)]
        · rw [if_neg h1]
          by_cases h2 : k = i
          · subst h2
            rw [if_pos (by omega), ← hu, hor]
          · rw [if_neg (by omega)]
      · show c.2 = false ↔ _
        rw [ih2]
        constructor
        · intro h k hk
          by_cases h2 : k = i
          · subst h2; rw [← hu]; exact hz
          · exact h k (by omega)
        · intro h k hk
          exact h k (by omega)
    · rw [if_neg hz]
      rw [hdi] at hz
      refine ⟨fun k => ?_, ?_⟩
      · show (d.set i (d.getD i 0 ||| u)).getD k 0 = _
        rw [getD_set _ _ _ _ hdl]
        by_cases h2 : k = i
        · subst h2
          rw [if_pos rfl, if_pos (by omega), hdi, hu]
        · rw [if_neg h2, hdg, ih1]
          by_cases h1 : k < i
          · rw [if_pos h1, if_pos (by omega)]
          · rw [if_neg h1, if_neg (by omega)]
      · constructor
        · intro h; cases h
        · intro h
          exact absurd (by rw [hu]; exact h i (by omega)) hz
/-- What a join holds. -/
theorem has_join (us ds ws : List Nat) (j : Nat) : hasF (joinK us ds ws us.length).1 j = (hasF ws j || (hasF us j && !hasF ds j)) := by
  unfold hasF
  rw [(joinK_bits us ds ws us.length).1]
  by_cases h : j / 64 < us.length
  · rw [if_pos h, Nat.testBit_or, andN_bit]
  · rw [if_neg h]
    have : us.getD (j / 64) 0 = 0 := by rw [List.getD_eq_getElem?_getD, List.getElem?_eq_none (by omega)]; rfl
    rw [this]
    simp
/-- Nothing has changed. -/
theorem join_same (us ds ws : List Nat) (h : (joinK us ds ws us.length).2 = false) (j : Nat) (hu : hasF us j = true) (hd : hasF ds j = false) : hasF ws j = true := by
  have := (joinK_bits us ds ws us.length).2.1 h
  unfold hasF at hu hd ⊢
  by_cases hj : j / 64 < us.length
  · have := congrArg (fun x => x.testBit (j % 64)) (this _ hj)
    simp only [andN_bit, Nat.zero_testBit, hu, hd] at this
    simpa using this
  · have e : us.getD (j / 64) 0 = 0 := by rw [List.getD_eq_getElem?_getD, List.getElem?_eq_none (by omega)]; rfl
    rw [e] at hu
    simp at hu
/-- Something has changed. -/
theorem join_new (us ds ws : List Nat) (hu : ∀ x ∈ us, x < 18446744073709551616) (h : (joinK us ds ws us.length).2 = true) : ∃ j, hasF us j = true ∧ hasF ds j = false ∧ hasF ws j = false := by
  have := mt (joinK_bits us ds ws us.length).2.2 (by rw [h]; simp)
  have h3 : ∃ k, k < us.length ∧ andN (andN (us.getD k 0) (ds.getD k 0)) (ws.getD k 0) ≠ 0 := Classical.byContradiction fun hc => this fun k hk => Classical.byContradiction fun hn => hc ⟨k, hk, hn⟩
  obtain ⟨k, hk, hn⟩ := h3
  obtain ⟨b, hb⟩ := Nat.exists_testBit_of_ne_zero hn
  have hlt : andN (andN (us.getD k 0) (ds.getD k 0)) (ws.getD k 0) < 2 ^ 64 := andN_lt _ _ (andN_lt _ _ (getD_lt us k hu))
  have hb64 : b < 64 := Classical.byContradiction fun hc => by
    rw [Nat.testBit_lt_two_pow (Nat.lt_of_lt_of_le hlt (Nat.pow_le_pow_right (by omega) (by omega)))] at hb
    cases hb
  simp only [andN_bit, Bool.and_eq_true, Bool.not_eq_true'] at hb
  refine ⟨64 * k + b, ?_⟩
  unfold hasF
  rw [show (64 * k + b) / 64 = k by omega, show (64 * k + b) % 64 = b by omega]
  exact ⟨hb.1.1, hb.1.2, hb.2⟩
theorem mem_listK (ws : List Nat) : ∀ (i : Nat) (n : Int), n ∈ listK ws i ↔ ∃ j : Nat, j < 64 * i ∧ hasF ws j = true ∧ n = j
  | 0, n => by simp [listK]
  | i + 1, n => by
    rw [listK, List.mem_append, mem_listK ws i n, mem_bitsI]
    constructor
    · rintro (⟨j, h1, h2, h3⟩ | ⟨j, h1, h2, h3⟩)
      · exact ⟨j, by omega, h2, h3⟩
      · refine ⟨64 * i + j, by omega, ?_, by rw [h3]; simp⟩
        unfold hasF
        rw [show (64 * i + j) / 64 = i by omega, show (64 * i + j) % 64 = j by omega]
        exact h2
    · rintro ⟨j, h1, h2, h3⟩
      by_cases h : j < 64 * i
      · exact .inl ⟨j, h, h2, h3⟩
      · refine .inr ⟨j - 64 * i, by omega, ?_, by rw [h3]; omega⟩
        unfold hasF at h2
        rw [show j / 64 = i by omega, show j % 64 = j - 64 * i by omega] at h2
        exact h2
theorem up_listK (ws : List Nat) : ∀ i, Up (listK ws i)
  | 0 => List.Pairwise.nil
  | i + 1 => by
    unfold Up
    rw [listK]
    refine List.pairwise_append.2 ⟨up_listK ws i, up_bitsI i _, fun a ha b hb => ?_⟩
    obtain ⟨j, h1, _, h3⟩ := (mem_listK ws i a).1 ha
    obtain ⟨k, _, _, h4⟩ := (mem_bitsI i _ b).1 hb
    omega
theorem has_lt (ws : List Nat) (j : Nat) (h : hasF ws j = true) : j < 64 * ws.length := Classical.byContradiction fun hc => by
  unfold hasF at h
  rw [List.getD_eq_getElem?_getD, List.getElem?_eq_none (by omega)] at h
  simp at h
/-- The numbers of a set. -/
theorem mem_list (ws : List Nat) (n : Int) : n ∈ listK ws ws.length ↔ ∃ j : Nat, hasF ws j = true ∧ n = j := by
  rw [mem_listK]
  exact ⟨fun ⟨j, _, h2, h3⟩ => ⟨j, h2, h3⟩, fun ⟨j, h2, h3⟩ => ⟨j, has_lt ws j h2, h2, h3⟩⟩
theorem get_put (l : List (Int × Nat)) (a b : Int) (v : Nat) : Mp.get (Mp.put l a v) b = if a = b then some v else Mp.get l b := by
  induction l with
  | nil => simp [Mp.put, Mp.get]
  | cons p r ih =>
    obtain ⟨c, u⟩ := p
    by_cases h : c = a
    · subst h
      simp [Mp.put, Mp.get]
      split <;> rfl
    · simp only [Mp.put, h, if_false, Mp.get, ih]
      by_cases h2 : c = b
      · subst h2
        simp [Ne.symm h]
      · simp [h2]
end Go.Proofs.YtekfnonjhcfdmaaDoor
