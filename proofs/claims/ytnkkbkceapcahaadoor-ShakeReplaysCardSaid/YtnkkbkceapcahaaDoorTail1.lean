/- The small functions of digest. A block that is known whole; lists of numbers as cells. A slice of bytes in a block of its own whose marks lie behind its cells; append of one byte; a string turned to bytes. append of a list of bytes; make with a capacity; what such a slice reads as. -/
import Derived.Test.YtnkkbkceapcahaaDoorProg
import Derived.Test.YtnkkbkceapcahaaDoorChecked
import Derived.WalkKit
import Derived.WalkSpells
import Derived.WalkLawsBesides
import Derived.RegionTactic
import Derived.Deep.QuietTactic
import Derived.BigQuiet
import Derived.Lib.Hide
import Derived.Outline
import Derived.IntWalk
import Derived.Laws.BitsAllLaws
import Derived.Below
import Derived.Laws.OwnMore
import Derived.Deep.Draws
import Derived.RangeFuncRecord
import Derived.Deep.MidRow
import Derived.Test.YtnkkbkceapcahaaDoorRangeB
import Derived.Lib.ConvBytes
import Derived.Laws.AppendOwn
import Derived.Laws.MakeOwn
namespace Go.Proofs.YtnkkbkceapcahaaDoor
open Go.RowKit

def rotr (n x : Nat) : Nat := x * 2 ^ (32 - n) % 4294967296 ||| x / 2 ^ n

theorem rot_any (x n : Nat) (w : World) (hx : x < 4294967296) (h1 : 1 ≤ n) (h2 : n ≤ 31) :
    Calls Tryd.prog 81 #[.int .u32 x, .int .i64 (-(n : Int))] w fun e w' => e = .returned (.int .u32 (rotr n x : Nat)) ∧ w = w' := by
  have hb : bits .and .u64 (IntKind.u64.wrap (-(n : Int))) 31 = ((32 - n : Nat) : Int) := by
    rw [IntKind.wrap_u64]
    rw [show (-(n : Int)) % 18446744073709551616 = ((18446744073709551616 - n : Nat) : Int) by omega]
    have := u64_and_nat (18446744073709551616 - n) 31 (by omega) (by omega)
    rw [show ((31 : Nat) : Int) = 31 from rfl] at this
    rw [this, nat_mask5]
    congr 1
    omega
  go_enter Tryd.func81, Tryd.ntmps81
  go_wp2
  go_ret
  refine ⟨?_, rfl⟩
  have h32 : 32 - (32 - n) = n := by omega
  rw [h32]
  have hl : x * 2 ^ (32 - n) % 4294967296 < 4294967296 := by omega
  have hr : x / 2 ^ n < 4294967296 := Nat.lt_of_le_of_lt (Nat.div_le_self _ _) hx
  have := u32_or_nat _ _ hl hr
  unfold rotr
  rw [← this, Int.natCast_emod, Int.natCast_mul, Int.natCast_pow, Int.natCast_ediv, Int.natCast_pow]
  rfl
theorem rot_at (n : Nat) (k : Int) (x : Nat) (w : World) (hk : k = -(n : Int)) (hx : x < 4294967296) (h1 : 1 ≤ n) (h2 : n ≤ 31) :
    Calls Tryd.prog 81 #[.int .u32 x, .int .i64 k] w fun e w' => e = .returned (.int .u32 (rotr n x : Nat)) ∧ w = w' := by
  rw [hk]; exact rot_any x n w hx h1 h2
theorem rotr_lt (n x : Nat) (hx : x < 4294967296) : rotr n x < 4294967296 := by
  unfold rotr
  exact Nat.or_lt_two_pow (n := 32) (by omega) (Nat.lt_of_le_of_lt (Nat.div_le_self _ _) hx)
end Go.Proofs.YtnkkbkceapcahaaDoor
namespace Go.Proofs.YtnkkbkceapcahaaDoor
open Go.RowKit Go.Rt

/-- Block g is just the cells cs of element type t. -/
def Blk (w : World) (g : Nat) (t : TypeId) (cs : Array Value) : Prop := w.heap[g]? = some (.cells cs t (0, 0))
section
variable {w w' : World} {g : Nat} {t : TypeId} {cs : Array Value}
theorem Blk.lt (h : Blk w g t cs) : g < w.heap.size := (Array.getElem?_eq_some_iff.1 h).1
theorem Blk.cell (h : Blk w g t cs) (i : Nat) : w.cell? ⟨g, i, none⟩ = cs[i]? := by unfold Blk at h; simp [World.cell?, h]
theorem Blk.frozen (h : Blk w g t cs) (i : Nat) : w.frozen? ⟨g, i, none⟩ = false := by unfold Blk at h; simp [World.frozen?, h]
theorem Blk.new (w : World) (t : TypeId) (cs : Array Value) : Blk (w.alloc (.cells cs t)) w.heap.size t cs := World.alloc_heap_new w _
theorem Blk.drew (h : Blk w g t cs) : Blk w.drew g t cs := h
theorem Blk.drewN (h : Blk w g t cs) (n : Nat) : Blk (w.drewN n) g t cs := h
theorem Blk.alloc (h : Blk w g t cs) (o : Obj) : Blk (w.alloc o) g t cs := (Below.heap_alloc w o g h.lt).trans h
theorem Blk.set_ (h : Blk w g t cs) (i : Nat) (u : Value) : Blk (w.setCell ⟨g, i, none⟩ u) g t (cs.setIfInBounds i u) := by
  unfold Blk at h ⊢
  simp [World.setCell, Array.getElem?_modify, h]
theorem Blk.far (h : Blk w g t cs) {p : Addr} (hp : g ≠ p.block) (u : Value) : Blk (w.setCell p u) g t cs := (Below.heap_setCell w p u g hp).trans h
theorem Blk.below {B : Nat} (h : Blk w g t cs) (hb : Below B w w') (hg : g < B) : Blk w' g t cs := (hb.block g hg).trans h
theorem Blk.ne_ {g' : Nat} {t' : TypeId} {cs' : Array Value} (h : Blk w g t cs) (h' : Blk w g' t' cs') (hne : t ≠ t') : g ≠ g' := by
  rintro rfl
  unfold Blk at h h'
  rw [h] at h'
  injection h' with h'
  injection h' with _ ht
  exact hne ht
end

abbrev bv (n : Nat) : Value := .int .u8 (n : Int)
abbrev wv (n : Nat) : Value := .int .u32 (n : Int)
theorem map_get {f : Nat → Value} (L : List Nat) (i : Nat) (h : i < L.length) : ((L.map f).toArray)[i]? = some (f L[i]) := by
  simp [h]
theorem map_set {f : Nat → Value} (L : List Nat) (i x : Nat) : ((L.map f).toArray).setIfInBounds i (f x) = ((L.set i x).map f).toArray := by
  simp [List.map_set]

section
variable {w : World} {b : Nat} {t : TypeId}
theorem Blk.range {cs : Array Value} (h : Blk w b t cs) : w.rangeAt b 0 cs.toList := fun j v hv => by
  rw [Nat.zero_add, h.cell]; simpa using hv
theorem Blk.there {cs : Array Value} (h : Blk w b t cs) : w.there b 0 cs.size := fun j hj => by
  rw [Nat.zero_add, h.cell, h.frozen]; simp [hj]
theorem heap_setCells (b : Nat) (t : TypeId) : ∀ (L old pre : List Value) (w : World), L.length = old.length → Blk w b t (pre ++ old).toArray → Blk (w.setCells b pre.length L) b t (pre ++ L).toArray
  | [], [], pre, w, _, h => by simpa [World.setCells] using h
  | [], _ :: _, _, _, h, _ => by simp at h
  | _ :: _, [], _, _, h, _ => by simp at h
  | v :: r, o :: old, pre, w, hl, h => by
    have h1 := h.set_ pre.length v
    have e : ((pre ++ o :: old).toArray).setIfInBounds pre.length v = ((pre ++ [v]) ++ old).toArray := by
      simp
    rw [e] at h1
    have := heap_setCells b t r old (pre ++ [v]) _ (by simpa using hl) h1
    simpa [World.setCells] using this
theorem only_setCells (b : Nat) : ∀ (L : List Value) (o : Nat) (w : World), Only [b] w (w.setCells b o L)
  | [], _, w => Only.refl _ w
  | v :: r, o, w => (Only.setCell w ⟨b, o, none⟩ v (by simp)).trans (only_setCells b r (o + 1) _)
theorem Blk.setCells {cs : Array Value} (h : Blk w b t cs) (L : List Value) (hl : L.length = cs.size) : Blk (w.setCells b 0 L) b t L.toArray := by
  have := heap_setCells b t L cs.toList [] w (by simpa using hl) (by simpa using h)
  simpa using this
theorem Blk.only {bs : List Nat} {w' : World} {cs : Array Value} (h : Blk w b t cs) (ho : Only bs w w') (hb : b ∉ bs) : Blk w' b t cs := (ho.block b h.lt hb).trans h
end
theorem wpList_load_blk {P : Program} {ops : Array Oper} {rest : List Oper} {op : Oper} {a : Act} {w : World} {Q : Exit → Act → World → Prop} (hgd : op.guard = none) (ty : TypeId) (x : Operand) (ho : op.op = .load ty x)
    (b : Nat) (hx : a.eval x = .pointer (some ⟨b, 0, none⟩)) (cs : Array Value) (t : TypeId) (d : TypeDesc) (hc : Blk w b t cs)
    (hu : P.underlying ty = some d) (hd : d.isRow = true) (hi : (P.info? ty).map (·.size) = some cs.size)
    (h : wpList P ops Q rest (a.put op.dst (.agg cs)) w) : wpList P ops Q (op :: rest) a w :=
  wpList_load_mid hgd ty x ho b 0 hx cs.toList d hc.range hu hd (by simpa using hi) (by simpa using h)
theorem put_none (a : Act) (d : Option Tmp) (hd : d = none) (v : Value) : a.put d v = a := by subst hd; rfl
theorem wpList_store_blk {P : Program} {ops : Array Oper} {rest : List Oper} {op : Oper} {a : Act} {w : World} {Q : Exit → Act → World → Prop} (hgd : op.guard = none) (ty : TypeId) (x y : Operand) (ho : op.op = .store ty x y) (hdst : op.dst = none)
    (b : Nat) (cells cs : Array Value) (t : TypeId) (hx : a.eval x = .pointer (some ⟨b, 0, none⟩)) (hy : a.eval y = .agg cells)
    (hc : Blk w b t cs) (hs : cells.size = cs.size) (hi : (P.info? ty).map (·.size) = some cells.size) (h1 : cells.all (·.oneCell') = true)
    (h : ∀ w', Blk w' b t cells → Only [b] w w' → wpList P ops Q rest a w') : wpList P ops Q (op :: rest) a w :=
  wpList_store_mid hgd ty x y ho b 0 cells hx hy (by rw [hs]; exact hc.there) hi h1 (by rw [put_none _ _ hdst]; exact h _ (by simpa using hc.setCells cells.toList (by simpa using hs)) (only_setCells b _ 0 w))
theorem results_blk {P : Program} {fn : Func} {a : Tmp} {ty t : TypeId} (h : fn.results = #[.cell a ty]) (tmps : Array Value) (w : World) (b : Nat) (cs : Array Value) (d : TypeDesc) (hx : tmps.getD a undef = .pointer (some ⟨b, 0, none⟩))
    (hc : Blk w b t cs) (hu : P.underlying ty = some d) (hd : d.isRow = true) (hi : (P.info? ty).map (·.size) = some cs.size) : (results fn tmps).run P w = .ok (.agg cs) w := by
  have := run_loadVar_mid (P := P) w b 0 ty cs.toList d hc.range hu hd (by simpa using hi)
  rw [Array.getD_eq_getD_getElem?] at hx
  simp only [Array.toArray_toList] at this
  simp [results, h, hx, asAddr, this]
theorem one_map {f : Nat → Value} (hf : ∀ n, (f n).oneCell' = true) (L : List Nat) : ((L.map f).toArray).all (·.oneCell') = true := by
  simp [hf]
end Go.Proofs.YtnkkbkceapcahaaDoor
namespace Go.Proofs.YtnkkbkceapcahaaDoor
open Go.RowKit Go.Rt

def Ts (w : World) (g n cap : Nat) (L : List Nat) : Prop :=
  L.length = n ∧ n ≤ cap ∧ cap ≤ maxLen ∧ ∃ cur fr, w.heap[g]? = some (.cells cur 5 fr) ∧ cur.size = cap ∧ (∀ j, j < cap → ¬ (fr.1 ≤ j ∧ j < fr.2)) ∧ cur.toList.take n = L.map bv

section
variable {w w' : World} {g n cap : Nat} {L : List Nat}
theorem Ts.lt (h : Ts w g n cap L) : g < w.heap.size := by
  obtain ⟨_, _, _, cur, fr, hb, _⟩ := h
  exact (Array.getElem?_eq_some_iff.1 hb).1
theorem Ts.same (h : Ts w g n cap L) (hb : w'.heap[g]? = w.heap[g]?) : Ts w' g n cap L := by
  obtain ⟨h1, h2, h3, cur, fr, h4, h5⟩ := h
  exact ⟨h1, h2, h3, cur, fr, hb.trans h4, h5⟩
theorem Ts.cell (h : Ts w g n cap L) (j : Nat) (hj : j < n) : w.cell? ⟨g, j, none⟩ = some (bv (L.getD j 0)) := by
  obtain ⟨h1, h2, h3, cur, fr, h4, h5, h6, h7⟩ := h
  have h8 : (cur.toList.take n)[j]? = (L.map bv)[j]? := by rw [h7]
  rw [List.getElem?_take_of_lt hj, List.getElem?_map] at h8
  rw [List.getElem?_eq_getElem (l := L) (by omega)] at h8
  simp only [World.cell?, h4]
  rw [← Array.getElem?_toList, h8, List.getD_eq_getElem?_getD, List.getElem?_eq_getElem (by omega)]
  rfl
theorem Ts.range (h : Ts w g n cap L) (o m : Nat) (hm : o + m ≤ n) : w.rangeAt g o (((L.drop o).take m).map bv) := by
  intro j v hv
  rw [List.getElem?_map] at hv
  cases hj : ((L.drop o).take m)[j]? with
  | none => rw [hj] at hv; cases hv
  | some x =>
    rw [hj] at hv
    have hlt : j < m := by have := (List.getElem?_eq_some_iff.1 hj).1; rw [List.length_take] at this; omega
    rw [List.getElem?_take_of_lt hlt, List.getElem?_drop] at hj
    rw [h.cell (o + j) (by omega), List.getD_eq_getElem?_getD, hj]
    exact hv

/-- append(v, x): the run. -/
theorem Ts.push {P : Program} {t ty : TypeId} (hu : P.underlying t = some (.slice 5)) (hi : (P.info? 5).map (fun i => (i.zero, i.size, i.bytes)) = some (some (.int .u8 0), 1, 1))
    (h : Ts w g n cap L) (x b : Nat) {e' : TypeId} {fr' : Nat × Nat} (hb : w.heap[b]? = some (.cells #[bv x] e' fr')) (hl : n + 1 ≤ 1000000000000) (cc : Nat) :
    ∃ (g' cap' : Nat) (W' : World), (Builtin.append_ #[t, t] ty #[.slice (some ⟨g, 0, none⟩) n cap, .slice (some ⟨b, 0, none⟩) 1 cc]).run P w = .ok (.slice (some ⟨g', 0, none⟩) (n + 1) cap') W' ∧
      Ts W' g' (n + 1) cap' (L ++ [x]) ∧ Only [g] w W' ∧ (g' = g ∨ w.heap.size ≤ g') := by
  have hts := h
  obtain ⟨h1, h2, h3, cur, fr, h4, h5, h6, h7⟩ := h
  obtain ⟨i, hi0, hz, hz1, hz2⟩ : ∃ i, P.info? 5 = some i ∧ i.zero = some (.int .u8 0) ∧ i.size = 1 ∧ i.bytes = 1 := by
    cases hq : P.info? 5 with
    | none => rw [hq] at hi; cases hi
    | some i => rw [hq] at hi; simp only [Option.map_some, Option.some.injEq, Prod.mk.injEq] at hi; exact ⟨i, rfl, hi⟩
  have hcb : w.cell? ⟨b, 0, none⟩ = some (bv x) := by simp [World.cell?, hb]
  have hnews : ∀ j u, [bv x][j]? = some u → w.cell? ((⟨b, 0, none⟩ : Addr).add j) = some u := by
    intro j u hj
    cases j with
    | zero => simp at hj; subst hj; simpa [Addr.add] using hcb
    | succ j => simp at hj
  by_cases hroom : n + 1 ≤ cap
  · refine ⟨g, cap, w.setCell ⟨g, n, none⟩ (bv x), ?_, ?_, Only.setCell _ _ _ (by simp), .inl rfl⟩
    · have hf := run_firstCells_some (P := P) w 1 1 ⟨b, 0, none⟩ 1 cc [bv x] (by simp) hnews
      have hc : (w.cell? ⟨g, n, none⟩).isSome = true := by simp [World.cell?, h4]; omega
      have hfz : w.frozen? ⟨g, n, none⟩ = false := by
        have := h6 n (by omega)
        simp only [World.frozen?, h4]
        simpa using this
      have hst := run_storeCells_cells (P := P) g n [bv x] 0 w (fun j hj => by simp at hj; subst hj; simpa using hc) (fun j hj => by simp at hj; subst hj; simpa using hfz) (fun v hv => by simp at hv; subst hv; rfl)
      simp only [Nat.add_zero, World.setCells] at hst
      simp [Builtin.append_, run_underlying hu, sizeOf, typeInfo, hi0, hz1, Builtin.lenOf, hroom, hf, Addr.add_lit, hst]
    · refine ⟨by simp [h1], hroom, h3, cur.setIfInBounds n (bv x), fr, ?_, by simp [h5], h6, ?_⟩
      · simp [World.setCell, Array.getElem?_modify, h4]
      · rw [Array.toList_setIfInBounds, List.take_succ_eq_append_getElem (by simp; omega), List.take_set_of_le (Nat.le_refl _), h7, List.getElem_set_self]
        simp
  · have holds : ∀ j u, (L.map bv)[j]? = some u → w.cell? ((⟨g, 0, none⟩ : Addr).add j) = some u := by
      intro j u hj
      have hlt : j < n := by have := (List.getElem?_eq_some_iff.1 hj).1; simp at this; omega
      rw [List.getElem?_map, List.getElem?_eq_getElem (by omega)] at hj
      have := hts.cell j hlt
      rw [List.getD_eq_getElem?_getD, List.getElem?_eq_getElem (by omega)] at this
      have e : (⟨g, 0, none⟩ : Addr).add j = ⟨g, j, none⟩ := by unfold Addr.add; split <;> simp_all
      rw [e, this]
      exact hj
    have hr := run_append_grow (P := P) w t ty 5 i (.int .u8 0) hu hi0 hz ⟨g, 0, none⟩ n cap (L.map bv) (by rw [hz1]; simp [h1]) holds ⟨b, 0, none⟩ 1 cc [bv x] (by simp [hz1]) hnews (by omega) (by omega) (growslice_fits (by omega) (by rw [hz2]; omega))
    refine ⟨w.heap.size, _, _, hr, ?_, ⟨rfl, rfl, rfl, by simp, fun k hk _ => Below.heap_alloc w.drew _ k hk⟩, .inr (Nat.le_refl _)⟩
    have hge := grownCap_ge w (n + 1) cap 5
    refine ⟨by simp [h1], hge, grownCap_le_maxLen w (n + 1) cap 5 (by unfold maxLen; omega), _, _, heap_alloc_new w.drew _, ?_, fun j _ => by simp, ?_⟩
    · simp only [Array.size_append, List.size_toArray, size_zeroCells, List.length_map, h1, List.length_singleton]
      simp [Value.cells]
      omega
    · simp only [Array.toList_append, List.append_assoc]
      rw [← List.append_assoc, List.take_append_of_le_length (by simp [h1]), List.take_of_length_le (by simp [h1])]
      simp
end

/-- A string's bytes. -/
def bytesN (b : ByteArray) : List Nat := b.data.toList.map UInt8.toNat
theorem bytesN_len (b : ByteArray) : (bytesN b).length = b.size := by simp [bytesN]
theorem ts_conv (w : World) (s : ByteArray) (hs : s.size ≤ 1000000000000) : Ts (Lib.bytesWorld w 5 s) w.heap.size s.size (grownCap w s.size 0 5) (bytesN s) := by
  have hge := grownCap_ge w s.size 0 5
  refine ⟨bytesN_len s, hge, grownCap_le_maxLen w s.size 0 5 (by unfold maxLen; omega), _, _, Lib.bytesWorld_at_new w 5 s, ?_, ?_, ?_⟩
  · simp [Lib.bytesCells]; omega
  · intro j hj h
    simp [Lib.bytesCells] at h
    omega
  · have e : (s.data.map fun b => Value.int .u8 b.toNat).toList = (bytesN s).map bv := by simp [bytesN, Function.comp_def]
    unfold Lib.bytesCells
    rw [Array.toList_append, e, List.take_append_of_le_length (by simp [bytesN]), List.take_of_length_le (by simp [bytesN])]
end Go.Proofs.YtnkkbkceapcahaaDoor
namespace Go.Proofs.YtnkkbkceapcahaaDoor
open Go.RowKit Go.Rt

theorem und29 : Tryd.prog.underlying 81 = some (.slice 5) := by kernel_rfl
theorem und9 : Tryd.prog.underlying 9 = some .string := by kernel_rfl
theorem und5 : Tryd.prog.underlying 5 = some (.int .u8) := by kernel_rfl
theorem info5 : (Tryd.prog.info? 5).map (fun i => (i.zero, i.size, i.bytes)) = some (some (.int .u8 0), 1, 1) := by kernel_rfl

theorem heap_setCells_any (b : Nat) (t : TypeId) (fr : Nat × Nat) : ∀ (L old pre post : List Value) (w : World), L.length = old.length → w.heap[b]? = some (.cells (pre ++ old ++ post).toArray t fr) → (w.setCells b pre.length L).heap[b]? = some (.cells (pre ++ L ++ post).toArray t fr)
  | [], [], pre, post, w, _, h => by simpa [World.setCells] using h
  | [], _ :: _, _, _, _, h, _ => by simp at h
  | _ :: _, [], _, _, _, h, _ => by simp at h
  | v :: r, o :: old, pre, post, w, hl, h => by
    have h1 : (w.setCell ⟨b, pre.length, none⟩ v).heap[b]? = some (.cells ((pre ++ o :: old ++ post).toArray.setIfInBounds pre.length v) t fr) := by
      simp [World.setCell, Array.getElem?_modify, h]
    have e : ((pre ++ o :: old ++ post).toArray).setIfInBounds pre.length v = ((pre ++ [v]) ++ old ++ post).toArray := by
      simp
    rw [e] at h1
    have := heap_setCells_any b t fr r old (pre ++ [v]) post _ (by simpa using hl) h1
    simpa [World.setCells] using this

section
variable {w w' : World} {g n cap : Nat} {L : List Nat}
/-- append(v, A...): the run. -/
theorem Ts.pushA {P : Program} {t ty : TypeId} (hu : P.underlying t = some (.slice 5)) (hi : (P.info? 5).map (fun i => (i.zero, i.size, i.bytes)) = some (some (.int .u8 0), 1, 1))
    (h : Ts w g n cap L) (A : List Nat) (_ : 0 < A.length) (b : Nat) {e' : TypeId} {fr' : Nat × Nat} (hb : w.heap[b]? = some (.cells (A.map bv).toArray e' fr')) (hl : n + A.length ≤ 1000000000000) (cc : Nat) :
    ∃ (g' cap' : Nat) (W' : World), (Builtin.append_ #[t, t] ty #[.slice (some ⟨g, 0, none⟩) n cap, .slice (some ⟨b, 0, none⟩) A.length cc]).run P w = .ok (.slice (some ⟨g', 0, none⟩) (n + A.length) cap') W' ∧
      Ts W' g' (n + A.length) cap' (L ++ A) ∧ Only [g] w W' ∧ (g' = g ∨ w.heap.size ≤ g') := by
  have hts := h
  obtain ⟨h1, h2, h3, cur, fr, h4, h5, h6, h7⟩ := h
  obtain ⟨i, hi0, hz, hz1, hz2⟩ : ∃ i, P.info? 5 = some i ∧ i.zero = some (.int .u8 0) ∧ i.size = 1 ∧ i.bytes = 1 := by
    cases hq : P.info? 5 with
    | none => rw [hq] at hi; cases hi
    | some i => rw [hq] at hi; simp only [Option.map_some, Option.some.injEq, Prod.mk.injEq] at hi; exact ⟨i, rfl, hi⟩
  have hadd : ∀ (b j : Nat), (⟨b, 0, none⟩ : Addr).add j = ⟨b, j, none⟩ := by intro b j; unfold Addr.add; split <;> simp_all
  have hnews : ∀ j u, (A.map bv)[j]? = some u → w.cell? ((⟨b, 0, none⟩ : Addr).add j) = some u := by
    intro j u hj
    rw [hadd]
    simp only [World.cell?, hb]
    simpa using hj
  by_cases hroom : n + A.length ≤ cap
  · refine ⟨g, cap, w.setCells g n (A.map bv), ?_, ?_, only_setCells _ _ _ _, .inl rfl⟩
    · have hf := run_firstCells_some (P := P) w 1 A.length ⟨b, 0, none⟩ A.length cc (A.map bv) (by simp) hnews
      have hst := run_storeCells_cells (P := P) g n (A.map bv) 0 w
        (fun j hj => by simp at hj; simp [World.cell?, h4]; omega)
        (fun j hj => by
          simp at hj
          have := h6 (n + j) (by omega)
          simp only [World.frozen?, h4, Nat.add_zero]
          simpa using this)
        (fun v hv => by obtain ⟨x, _, rfl⟩ := List.mem_map.1 hv; rfl)
      simp only [Nat.add_zero] at hst
      simp [Builtin.append_, run_underlying hu, sizeOf, typeInfo, hi0, hz1, Builtin.lenOf, hroom, hf, Addr.add_lit, hst]
    · have hsp : cur.toList = cur.toList.take n ++ (cur.toList.drop n).take A.length ++ cur.toList.drop (n + A.length) := by
        rw [List.append_assoc, ← List.drop_drop, List.take_append_drop, List.take_append_drop]
      have hpl : (cur.toList.take n).length = n := by simp; omega
      have hcur : w.heap[g]? = some (.cells (cur.toList.take n ++ (cur.toList.drop n).take A.length ++ cur.toList.drop (n + A.length)).toArray 5 fr) := by rw [← hsp]; simpa using h4
      have q := heap_setCells_any g 5 fr (A.map bv) ((cur.toList.drop n).take A.length) (cur.toList.take n) (cur.toList.drop (n + A.length)) w (by simp; omega) hcur
      rw [hpl] at q
      refine ⟨by simp [h1], hroom, h3, _, fr, q, by simp; omega, h6, ?_⟩
      simp only [List.map_append, ← h7]
      rw [List.take_append_of_le_length (by simp; omega), List.take_of_length_le (by simp; omega)]
  · have holds : ∀ j u, (L.map bv)[j]? = some u → w.cell? ((⟨g, 0, none⟩ : Addr).add j) = some u := by
      intro j u hj
      have hlt : j < n := by have := (List.getElem?_eq_some_iff.1 hj).1; simp at this; omega
      rw [List.getElem?_map, List.getElem?_eq_getElem (by omega)] at hj
      have := hts.cell j hlt
      rw [List.getD_eq_getElem?_getD, List.getElem?_eq_getElem (by omega)] at this
      rw [hadd, this]
      exact hj
    have hr := run_append_grow (P := P) w t ty 5 i (.int .u8 0) hu hi0 hz ⟨g, 0, none⟩ n cap (L.map bv) (by rw [hz1]; simp [h1]) holds ⟨b, 0, none⟩ A.length cc (A.map bv) (by simp [hz1]) hnews (by omega) (by omega) (growslice_fits (by omega) (by rw [hz2]; omega))
    refine ⟨w.heap.size, _, _, hr, ?_, ⟨rfl, rfl, rfl, by simp, fun k hk _ => Below.heap_alloc w.drew _ k hk⟩, .inr (Nat.le_refl _)⟩
    have hge := grownCap_ge w (n + A.length) cap 5
    refine ⟨by simp [h1], hge, grownCap_le_maxLen w (n + A.length) cap 5 (by unfold maxLen; omega), _, _, heap_alloc_new w.drew _, ?_, fun j _ => by simp, ?_⟩
    · simp only [Array.size_append, List.size_toArray, size_zeroCells, List.length_map, h1]
      simp [Value.cells]
      omega
    · simp only [Array.toList_append, List.append_assoc]
      rw [← List.append_assoc, List.take_append_of_le_length (by simp [h1]), List.take_of_length_le (by simp [h1])]
      simp

/-- string(v). -/
theorem Ts.conv (h : Ts w g n cap L) (hL : ∀ x ∈ L, x < 256) : (convert 81 9 (.slice (some ⟨g, 0, none⟩) n cap)).run Tryd.prog w = .ok (.string ⟨(L.map UInt8.ofNat).toArray⟩) w := by
  have h1 := h.1
  have q := run_convert_bytes_back (P := Tryd.prog) w 81 9 5 ⟨g, 0, none⟩ cap (L.map UInt8.ofNat) und29 und5 und9 ?_
  · rw [List.length_map, h1] at q; exact q
  · intro j hj
    rw [List.length_map] at hj
    have e : (⟨g, 0, none⟩ : Addr).add j = ⟨g, j, none⟩ := by unfold Addr.add; split <;> simp_all
    rw [e, h.cell j (by omega), List.getElem_map, List.getD_eq_getElem?_getD, List.getElem?_eq_getElem hj]
    have hlt : L[j] < 256 := hL _ (List.getElem_mem _)
    rw [UInt8.toNat_ofNat', Nat.mod_eq_of_lt hlt]
    rfl
end
theorem Ts.of_own {w : World} {base g n cap : Nat} {L : List Nat} (h : w.ownsRow base 5 1 (.slice (some ⟨g, 0, none⟩) n cap) n (L.map bv)) : Ts w g n cap L := by
  rcases h.2 with ⟨h1, _⟩ | ⟨g', cap', cur, h1, h2, h3, h4, h5, h6, h7⟩
  · cases h1
  · cases h1
    exact ⟨by simpa using h.1, h4, h5, cur, (0, 0), h3, by simpa using h6, fun j _ => by simp, by simpa using h7⟩
/-- make([]byte, 0, m). -/
theorem ts_make (w : World) (m : Nat) (hm : m ≤ 1000000) :
    ∃ w', (Instr.makeSlice 81 (.int .i64 0) (.int .i64 m)).run Tryd.prog w = .ok (.slice (some ⟨w.heap.size, 0, none⟩) 0 m) w' ∧ Ts w' w.heap.size 0 m [] ∧ Below w.heap.size w w' := by
  obtain ⟨i, hi0, hz, hz1, hz2⟩ : ∃ i, Tryd.prog.info? 5 = some i ∧ i.zero = some (.int .u8 0) ∧ i.size = 1 ∧ i.bytes = 1 := by
    have hi := info5
    cases hq : Tryd.prog.info? 5 with
    | none => rw [hq] at hi; cases hi
    | some i => rw [hq] at hi; simp only [Option.map_some, Option.some.injEq, Prod.mk.injEq] at hi; exact ⟨i, rfl, hi⟩
  obtain ⟨w', h1, h2, h3⟩ := run_make_own (P := Tryd.prog) w w.heap.size 81 5 i (.int .u8 0) 1 und29 hi0 hz hz1 .i64 .i64 m (by rw [hz2]; omega) (by unfold maxLen; omega) (Nat.le_refl _)
  exact ⟨w', h1, Ts.of_own h2, ⟨h3.os, h3.tape, h3.output, h3.size, fun k hk => h3.block k hk (by simp)⟩⟩
end Go.Proofs.YtnkkbkceapcahaaDoor
