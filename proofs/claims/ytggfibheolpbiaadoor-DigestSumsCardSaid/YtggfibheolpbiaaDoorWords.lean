/- A block that is known whole; lists of numbers as cells. -/
import Derived.Test.YtggfibheolpbiaaDoorRot
import Derived.Below
import Derived.Laws.OwnMore
import Derived.Deep.Draws
import Derived.RangeFuncRecord
import Derived.Deep.MidRow
import Derived.Test.YtggfibheolpbiaaDoorRangeB
namespace Go.Proofs.YtggfibheolpbiaaDoor
open Go.RowKit Go.Rt

/-- Block g is just the cells cs of element type t. -/
def Blk (w : World) (g : Nat) (t : TypeId) (cs : Array Value) : Prop := w.heap[g]? = some (.cells cs t (0, 0))
section
variable {w w' : World} {g : Nat} {t : TypeId} {cs : Array Value}
theorem Blk.lt (h : Blk w g t cs) : g < w.heap.size := (Array.getElem?_eq_some_iff.1 h).1
theorem Blk.cell (h : Blk w g t cs) (i : Nat) : w.cell? ⟨g, i, none⟩ = cs[i]? := by unfold Blk at h; simp [World.cell?, h]
theorem Blk.frozen (h : Blk w g t cs) (i : Nat) : w.frozen? ⟨g, i, none⟩ = false := by unfold Blk at h; simp [World.frozen?, h]
theorem Blk.new (w : World) (t : TypeId) (cs : Array Value) : Blk (w.alloc (.cells cs t)) w.heap.size t cs := World.alloc_heap_new w _
theorem Blk.drew (h : Blk w g t cs) : Blk w.drew g t cs := h
theorem Blk.drewN (h : Blk w g t cs) (n : Nat) : Blk (w.drewN n) g t cs := h
theorem Blk.alloc (h : Blk w g t cs) (o : Obj) : Blk (w.alloc o) g t cs := (Below.heap_alloc w o g h.lt).trans h
theorem Blk.set_ (h : Blk w g t cs) (i : Nat) (u : Value) : Blk (w.setCell ⟨g, i, none⟩ u) g t (cs.setIfInBounds i u) := by
  unfold Blk at h ⊢
  simp [World.setCell, Array.getElem?_modify, h]
theorem Blk.far (h : Blk w g t cs) {p : Addr} (hp : g ≠ p.block) (u : Value) : Blk (w.setCell p u) g t cs := (Below.heap_setCell w p u g hp).trans h
theorem Blk.below {B : Nat} (h : Blk w g t cs) (hb : Below B w w') (hg : g < B) : Blk w' g t cs := (hb.block g hg).trans h
theorem Blk.ne_ {g' : Nat} {t' : TypeId} {cs' : Array Value} (h : Blk w g t cs) (h' : Blk w g' t' cs') (hne : t ≠ t') : g ≠ g' := by
  rintro rfl
  unfold Blk at h h'
  rw [h] at h'
  injection h' with h'
  injection h' with _ ht
  exact hne ht
end

abbrev bv (n : Nat) : Value := .int .u8 (n : Int)
abbrev wv (n : Nat) : Value := .int .u32 (n : Int)
theorem map_get {f : Nat → Value} (L : List Nat) (i : Nat) (h : i < L.length) : ((L.map f).toArray)[i]? = some (f L[i]) := by
  simp [h]
theorem map_set {f : Nat → Value} (L : List Nat) (i x : Nat) : ((L.map f).toArray).setIfInBounds i (f x) = ((L.set i x).map f).toArray := by
  simp [List.map_set]

section
variable {w : World} {b : Nat} {t : TypeId}
theorem Blk.range {cs : Array Value} (h : Blk w b t cs) : w.rangeAt b 0 cs.toList := fun j v hv => by
  rw [Nat.zero_add, h.cell]; simpa using hv
theorem Blk.there {cs : Array Value} (h : Blk w b t cs) : w.there b 0 cs.size := fun j hj => by
  rw [Nat.zero_add, h.cell, h.frozen]; simp [hj]
theorem heap_setCells (b : Nat) (t : TypeId) : ∀ (L old pre : List Value) (w : World), L.length = old.length → Blk w b t (pre ++ old).toArray → Blk (w.setCells b pre.length L) b t (pre ++ L).toArray
  | [], [], pre, w, _, h => by simpa [World.setCells] using h
  | [], _ :: _, _, _, h, _ => by simp at h
  | _ :: _, [], _, _, h, _ => by simp at h
  | v :: r, o :: old, pre, w, hl, h => by
    have h1 := h.set_ pre.length v
    have e : ((pre ++ o :: old).toArray).setIfInBounds pre.length v = ((pre ++ [v]) ++ old).toArray := by
      simp
    rw [e] at h1
    have := heap_setCells b t r old (pre ++ [v]) _ (by simpa using hl) h1
    simpa [World.setCells] using this
theorem only_setCells (b : Nat) : ∀ (L : List Value) (o : Nat) (w : World), Only [b] w (w.setCells b o L)
  | [], _, w => Only.refl _ w
  | v :: r, o, w => (Only.setCell w ⟨b, o, none⟩ v (by simp)).trans (only_setCells b r (o + 1) _)
theorem Blk.setCells {cs : Array Value} (h : Blk w b t cs) (L : List Value) (hl : L.length = cs.size) : Blk (w.setCells b 0 L) b t L.toArray := by
  have := heap_setCells b t L cs.toList [] w (by simpa using hl) (by simpa using h)
  simpa using this
theorem Blk.only {bs : List Nat} {w' : World} {cs : Array Value} (h : Blk w b t cs) (ho : Only bs w w') (hb : b ∉ bs) : Blk w' b t cs := (ho.block b h.lt hb).trans h
end
theorem wpList_load_blk {P : Program} {ops : Array Oper} {rest : List Oper} {op : Oper} {a : Act} {w : World} {Q : Exit → Act → World → Prop} (hgd : op.guard = none) (ty : TypeId) (x : Operand) (ho : op.op = .load ty x)
    (b : Nat) (hx : a.eval x = .pointer (some ⟨b, 0, none⟩)) (cs : Array Value) (t : TypeId) (d : TypeDesc) (hc : Blk w b t cs)
    (hu : P.underlying ty = some d) (hd : d.isRow = true) (hi : (P.info? ty).map (·.size) = some cs.size)
    (h : wpList P ops Q rest (a.put op.dst (.agg cs)) w) : wpList P ops Q (op :: rest) a w :=
  wpList_load_mid hgd ty x ho b 0 hx cs.toList d hc.range hu hd (by simpa using hi) (by simpa using h)
theorem put_none (a : Act) (d : Option Tmp) (hd : d = none) (v : Value) : a.put d v = a := by subst hd; rfl
theorem wpList_store_blk {P : Program} {ops : Array Oper} {rest : List Oper} {op : Oper} {a : Act} {w : World} {Q : Exit → Act → World → Prop} (hgd : op.guard = none) (ty : TypeId) (x y : Operand) (ho : op.op = .store ty x y) (hdst : op.dst = none)
    (b : Nat) (cells cs : Array Value) (t : TypeId) (hx : a.eval x = .pointer (some ⟨b, 0, none⟩)) (hy : a.eval y = .agg cells)
    (hc : Blk w b t cs) (hs : cells.size = cs.size) (hi : (P.info? ty).map (·.size) = some cells.size) (h1 : cells.all (·.oneCell') = true)
    (h : ∀ w', Blk w' b t cells → Only [b] w w' → wpList P ops Q rest a w') : wpList P ops Q (op :: rest) a w :=
  wpList_store_mid hgd ty x y ho b 0 cells hx hy (by rw [hs]; exact hc.there) hi h1 (by rw [put_none _ _ hdst]; exact h _ (by simpa using hc.setCells cells.toList (by simpa using hs)) (only_setCells b _ 0 w))
theorem results_blk {P : Program} {fn : Func} {a : Tmp} {ty t : TypeId} (h : fn.results = #[.cell a ty]) (tmps : Array Value) (w : World) (b : Nat) (cs : Array Value) (d : TypeDesc) (hx : tmps.getD a undef = .pointer (some ⟨b, 0, none⟩))
    (hc : Blk w b t cs) (hu : P.underlying ty = some d) (hd : d.isRow = true) (hi : (P.info? ty).map (·.size) = some cs.size) : (results fn tmps).run P w = .ok (.agg cs) w := by
  have := run_loadVar_mid (P := P) w b 0 ty cs.toList d hc.range hu hd (by simpa using hi)
  rw [Array.getD_eq_getD_getElem?] at hx
  simp only [Array.toArray_toList] at this
  simp [results, h, hx, asAddr, this]
theorem one_map {f : Nat → Value} (hf : ∀ n, (f n).oneCell' = true) (L : List Nat) : ((L.map f).toArray).all (·.oneCell') = true := by
  simp [hf]
end Go.Proofs.YtggfibheolpbiaaDoor
