/- A block of memory that is known whole: its cells, loads and stores of a struct in it. No condition beyond the premises of each theorem. -/
import Derived.Test.YtoaimoemaoinhaaGreatDoorProg
import Derived.Test.YtoaimoemaoinhaaGreatDoorChecked
import Derived.WalkKit
import Derived.WalkSpells
import Derived.WalkLawsBesides
import Derived.RegionTactic
import Derived.Deep.QuietTactic
import Derived.BigQuiet
import Derived.Lib.Hide
import Derived.Outline
import Derived.IntWalk
import Derived.Below
import Derived.Laws.OwnMore
import Derived.Deep.Draws
import Derived.Deep.MidRow
import Derived.Laws.AppendOwn
import Derived.Laws.MakeOwn
import Derived.Test.YtoaimoemaoinhaaGreatDoorPush
namespace Go.Proofs.YtoaimoemaoinhaaGreatDoor
open Go.RowKit Go.Rt

/-- Block g is just the cells cs of element type t. -/
def Blk (w : World) (g : Nat) (t : TypeId) (cs : Array Value) : Prop := w.heap[g]? = some (.cells cs t (0, 0))
section
variable {w w' : World} {g : Nat} {t : TypeId} {cs : Array Value}
theorem Blk.lt (h : Blk w g t cs) : g < w.heap.size := (Array.getElem?_eq_some_iff.1 h).1
theorem Blk.cell (h : Blk w g t cs) (i : Nat) : w.cell? ⟨g, i, none⟩ = cs[i]? := by unfold Blk at h; simp [World.cell?, h]
theorem Blk.frozen (h : Blk w g t cs) (i : Nat) : w.frozen? ⟨g, i, none⟩ = false := by unfold Blk at h; simp [World.frozen?, h]
theorem Blk.new (w : World) (t : TypeId) (cs : Array Value) : Blk (w.alloc (.cells cs t)) w.heap.size t cs := World.alloc_heap_new w _
theorem Blk.drew (h : Blk w g t cs) : Blk w.drew g t cs := h
theorem Blk.drewN (h : Blk w g t cs) (n : Nat) : Blk (w.drewN n) g t cs := h
theorem Blk.alloc (h : Blk w g t cs) (o : Obj) : Blk (w.alloc o) g t cs := (Below.heap_alloc w o g h.lt).trans h
theorem Blk.set_ (h : Blk w g t cs) (i : Nat) (u : Value) : Blk (w.setCell ⟨g, i, none⟩ u) g t (cs.setIfInBounds i u) := by
  unfold Blk at h ⊢
  simp [World.setCell, Array.getElem?_modify, h]
theorem Blk.far (h : Blk w g t cs) {p : Addr} (hp : g ≠ p.block) (u : Value) : Blk (w.setCell p u) g t cs := (Below.heap_setCell w p u g hp).trans h
theorem Blk.below {B : Nat} (h : Blk w g t cs) (hb : Below B w w') (hg : g < B) : Blk w' g t cs := (hb.block g hg).trans h
theorem Blk.ne_ {g' : Nat} {t' : TypeId} {cs' : Array Value} (h : Blk w g t cs) (h' : Blk w g' t' cs') (hne : t ≠ t') : g ≠ g' := by
  rintro rfl
  unfold Blk at h h'
  rw [h] at h'
  injection h' with h'
  injection h' with _ ht
  exact hne ht
end

section
variable {w : World} {b : Nat} {t : TypeId}
theorem Blk.range {cs : Array Value} (h : Blk w b t cs) : w.rangeAt b 0 cs.toList := fun j v hv => by
  rw [Nat.zero_add, h.cell]; simpa using hv
theorem Blk.there {cs : Array Value} (h : Blk w b t cs) : w.there b 0 cs.size := fun j hj => by
  rw [Nat.zero_add, h.cell, h.frozen]; simp [hj]
theorem heap_setCells (b : Nat) (t : TypeId) : ∀ (L old pre : List Value) (w : World), L.length = old.length → Blk w b t (pre ++ old).toArray → Blk (w.setCells b pre.length L) b t (pre ++ L).toArray
  | [], [], pre, w, _, h => by simpa [World.setCells] using h
  | [], _ :: _, _, _, h, _ => by simp at h
  | _ :: _, [], _, _, h, _ => by simp at h
  | v :: r, o :: old, pre, w, hl, h => by
    have h1 := h.set_ pre.length v
    have e : ((pre ++ o :: old).toArray).setIfInBounds pre.length v = ((pre ++ [v]) ++ old).toArray := by
      simp
    rw [e] at h1
    have := heap_setCells b t r old (pre ++ [v]) _ (by simpa using hl) h1
    simpa [World.setCells] using this
theorem only_setCells (b : Nat) : ∀ (L : List Value) (o : Nat) (w : World), Only [b] w (w.setCells b o L)
  | [], _, w => Only.refl _ w
  | v :: r, o, w => (Only.setCell w ⟨b, o, none⟩ v (by simp)).trans (only_setCells b r (o + 1) _)
theorem Blk.setCells {cs : Array Value} (h : Blk w b t cs) (L : List Value) (hl : L.length = cs.size) : Blk (w.setCells b 0 L) b t L.toArray := by
  have := heap_setCells b t L cs.toList [] w (by simpa using hl) (by simpa using h)
  simpa using this
theorem Blk.only {bs : List Nat} {w' : World} {cs : Array Value} (h : Blk w b t cs) (ho : Only bs w w') (hb : b ∉ bs) : Blk w' b t cs := (ho.block b h.lt hb).trans h
end
theorem wpList_load_blk {P : Program} {ops : Array Oper} {rest : List Oper} {op : Oper} {a : Act} {w : World} {Q : Exit → Act → World → Prop} (hgd : op.guard = none) (ty : TypeId) (x : Operand) (ho : op.op = .load ty x)
    (b : Nat) (hx : a.eval x = .pointer (some ⟨b, 0, none⟩)) (cs : Array Value) (t : TypeId) (d : TypeDesc) (hc : Blk w b t cs)
    (hu : P.underlying ty = some d) (hd : d.isRow = true) (hi : (P.info? ty).map (·.size) = some cs.size)
    (h : wpList P ops Q rest (a.put op.dst (.agg cs)) w) : wpList P ops Q (op :: rest) a w :=
  wpList_load_mid hgd ty x ho b 0 hx cs.toList d hc.range hu hd (by simpa using hi) (by simpa using h)
theorem put_none (a : Act) (d : Option Tmp) (hd : d = none) (v : Value) : a.put d v = a := by subst hd; rfl
theorem wpList_store_blk {P : Program} {ops : Array Oper} {rest : List Oper} {op : Oper} {a : Act} {w : World} {Q : Exit → Act → World → Prop} (hgd : op.guard = none) (ty : TypeId) (x y : Operand) (ho : op.op = .store ty x y) (hdst : op.dst = none)
    (b : Nat) (cells cs : Array Value) (t : TypeId) (hx : a.eval x = .pointer (some ⟨b, 0, none⟩)) (hy : a.eval y = .agg cells)
    (hc : Blk w b t cs) (hs : cells.size = cs.size) (hi : (P.info? ty).map (·.size) = some cells.size) (h1 : cells.all (·.oneCell') = true)
    (h : ∀ w', Blk w' b t cells → Only [b] w w' → wpList P ops Q rest a w') : wpList P ops Q (op :: rest) a w :=
  wpList_store_mid hgd ty x y ho b 0 cells hx hy (by rw [hs]; exact hc.there) hi h1 (by rw [put_none _ _ hdst]; exact h _ (by simpa using hc.setCells cells.toList (by simpa using hs)) (only_setCells b _ 0 w))
theorem results_blk {P : Program} {fn : Func} {a : Tmp} {ty t : TypeId} (h : fn.results = #[.cell a ty]) (tmps : Array Value) (w : World) (b : Nat) (cs : Array Value) (d : TypeDesc) (hx : tmps.getD a undef = .pointer (some ⟨b, 0, none⟩))
    (hc : Blk w b t cs) (hu : P.underlying ty = some d) (hd : d.isRow = true) (hi : (P.info? ty).map (·.size) = some cs.size) : (results fn tmps).run P w = .ok (.agg cs) w := by
  have := run_loadVar_mid (P := P) w b 0 ty cs.toList d hc.range hu hd (by simpa using hi)
  rw [Array.getD_eq_getD_getElem?] at hx
  simp only [Array.toArray_toList] at this
  simp [results, h, hx, asAddr, this]

theorem run_storeVar_fld {P : Program} (w : World) (b i : Nat) (ty t : TypeId) (v : Value) (cs : Array Value) (hc : Blk w b t cs) (hi : i < cs.size) (hu : (P.info? ty).map (·.size) = some 1) (h1 : v.oneCell' = true) :
    (storeVar ty ⟨b, i, none⟩ v).run P w = .ok () (w.setCell ⟨b, i, none⟩ v) := by
  have := run_storeCells_cells (P := P) b i [v] 0 w (fun j hj => by simp at hj; subst hj; simp [hc.cell, hi]) (fun j hj => by simp at hj; subst hj; simp [hc.frozen]) (fun x hx => by simp at hx; subst hx; exact h1)
  have he : v.cells = #[v] := by cases v <;> first | rfl | cases h1
  cases hq : P.info? ty with
  | none => simp [hq] at hu
  | some k =>
    have hs : k.size = 1 := by simpa [hq] using hu
    simp only [Nat.add_zero, World.setCells] at this
    simp [storeVar, sizeOf, typeInfo, hq, he, hs, this]
/-- A store into one field of a struct that is known whole; the world behind it is a letter. -/
theorem wpList_store_fld {P : Program} {ops : Array Oper} {rest : List Oper} {op : Oper} {a : Act} {w : World} {Q : Exit → Act → World → Prop} (hgd : op.guard = none) (ty : TypeId) (x y : Operand) (ho : op.op = .store ty x y) (hdst : op.dst = none)
    (b i : Nat) (cs : Array Value) (t : TypeId) (v : Value) (hx : a.eval x = .pointer (some ⟨b, i, none⟩)) (hy : a.eval y = v)
    (hc : Blk w b t cs) (hi : i < cs.size) (hu : (P.info? ty).map (·.size) = some 1) (h1 : v.oneCell' = true)
    (h : ∀ w', w' = w.setCell ⟨b, i, none⟩ v → wpList P ops Q rest a w') : wpList P ops Q (op :: rest) a w := by
  refine wpList_plain hgd fun _ hK => ?_
  unfold Oper.wp execOp
  simp only [ho, hx, hy, Instr.storeAt, Instr.sureAddr, Sem.run_bind, Sem.run_pure, Result.andThen_ok, run_storeVar_fld w b i ty t v cs hc hi hu h1]
  refine hK _ _ ?_
  rw [put_none _ _ hdst]
  exact h _ rfl
end Go.Proofs.YtoaimoemaoinhaaGreatDoor
