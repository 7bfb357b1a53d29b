/- Marks of ranges over functions at a function's end; slices that are made; results behind pointers. -/
import Derived.Test.YtekfnonjhcfdmaaDoorFind
import Derived.Laws.MakeOwn
namespace Go.Rw
open Go Go.RowKit Go.Rt

/-- The mark of a range over a function. -/
def rmark (D : Nat) : Deferred := { target := .collected D, args := #[] }
/-- Whatever the marks, the function's end is its results. -/
theorem leaves_marks {F : Fence} {n : Nat} {P : Program} {fn : Func} {tmps : Array Value} {R : Ending → World → Prop} : ∀ (Ds : List Nat) (w : World), Ds.Nodup → (∀ D ∈ Ds, w.heap[D]? = some (.deferred (some []))) →
    (∀ w', Only Ds w w' → ∃ v, (results fn tmps).run P w' = .ok v w' ∧ R (.returned v) w') → LeavesInM F n P fn tmps R (Ds.map rmark) .returning w
  | [], w, _, _, h => h w (Only.refl _ _)
  | D :: Ds, w, hn, hd, h => by
    obtain ⟨h1, h2⟩ := List.nodup_cons.1 hn
    refine ⟨by simp, .inl ⟨D, _, rfl, run_takeDeferred (hd D (by simp)), ?_⟩⟩
    refine leaves_marks Ds _ h2 (fun E hE => ?_) (fun w' ho => h w' ?_)
    · have hne : E ≠ D := fun e => h1 (e ▸ hE)
      rw [World.putObj_heap_other hne]
      exact hd E (by simp [hE])
    · exact (Only.putObj (bs := D :: Ds) w D _ (by simp)).trans (ho.mono (fun b hb => .inl (by simp [hb])))
/-- make([]T, n). -/
theorem run_mk {P : Program} {t e : TypeId} {z : Value} {bytes : Nat} (hu : P.underlying t = some (.slice e)) (hi : (P.info? e).map (fun i => (i.zero, i.size, i.bytes)) = some (some z, 1, bytes)) (hz : z.cells = #[z]) (n : Nat) (hb : bytes * n ≤ 281474976710656) (hn : n ≤ 9223372036854775807) (W : World) :
    (Instr.makeSlice t (.int .i64 n) (.int .i64 n)).run P W = .ok (.slice (some ⟨W.heap.size, 0, none⟩) n n) (W.alloc (.cells (Array.replicate n z) e)) := by
  obtain ⟨i, h1, h2, h3, h4⟩ := info_parts hi
  have := run_make (P := P) W t e i z hu h1 h2 .i64 .i64 (n : Int) (n : Int) (by omega) (by omega) (by rw [h4]; omega) (by omega)
  rw [this, h3, Int.toNat_natCast, Nat.mul_one, hz]
  congr 3
  unfold madeCells
  apply Array.ext
  · simp
  · intro j h1 h2
    simp [Nat.mod_one]
end Go.Rw
namespace Go.Proofs.YtekfnonjhcfdmaaDoor
open Go.RowKit Go.Rt Go.Rw
theorem mk47 (n : Nat) (hn : n ≤ 10000000000000) (W : World) : (Instr.makeSlice 47 (.int .i64 n) (.int .i64 n)).run Tryd.prog W = .ok (.slice (some ⟨W.heap.size, 0, none⟩) n n) (W.alloc (.cells (Array.replicate n (.bool false)) 4)) :=
  run_mk (bytes := 1) (by kernel_rfl) (by kernel_rfl) rfl n (by omega) (by omega) W
theorem mk52 (n : Nat) (hn : n ≤ 10000000000000) (W : World) : (Instr.makeSlice 52 (.int .i64 n) (.int .i64 n)).run Tryd.prog W = .ok (.slice (some ⟨W.heap.size, 0, none⟩) n n) (W.alloc (.cells (Array.replicate n (.pointer none)) 69)) :=
  run_mk (bytes := 8) (by kernel_rfl) (by kernel_rfl) rfl n (by omega) (by omega) W
theorem mk58 (n : Nat) (hn : n ≤ 10000000000000) (W : World) : (Instr.makeSlice 58 (.int .i64 n) (.int .i64 n)).run Tryd.prog W = .ok (.slice (some ⟨W.heap.size, 0, none⟩) n n) (W.alloc (.cells (Array.replicate n (.pointer none)) 59)) :=
  run_mk (bytes := 8) (by kernel_rfl) (by kernel_rfl) rfl n (by omega) (by omega) W
theorem mk26 (n : Nat) (hn : n ≤ 10000000000000) (W : World) : (Instr.makeSlice 26 (.int .i64 n) (.int .i64 n)).run Tryd.prog W = .ok (.slice (some ⟨W.heap.size, 0, none⟩) n n) (W.alloc (.cells (Array.replicate n (.slice none 0 0)) 23)) :=
  run_mk (bytes := 24) (by kernel_rfl) (by kernel_rfl) rfl n (by omega) (by omega) W
/-- Three results behind pointers. -/
theorem results_ccc {fn : Func} {a b c : Tmp} (h : fn.results = #[.cell a 52, .cell b 47, .cell c 27]) (tmps : Array Value) (w : World) (A B C : Nat) (u v x : Value) (ha : tmps.getD a undef = .pointer (some ⟨A, 0, none⟩)) (hb : tmps.getD b undef = .pointer (some ⟨B, 0, none⟩)) (hc : tmps.getD c undef = .pointer (some ⟨C, 0, none⟩))
    (h1 : Boxed w A 52 u) (h2 : Boxed w B 47 v) (h3 : Boxed w C 27 x) : (results fn tmps).run Tryd.prog w = .ok (.tuple #[u, v, x]) w := by
  have e1 := h1.cell
  have e2 := h2.cell
  have e3 := h3.cell
  have a1 := Tryd.isAgg52
  have a2 := Tryd.isAgg47
  have a3 := Tryd.isAgg27
  rw [Array.getD_eq_getD_getElem?] at ha hb hc
  simp [results, h, ha, hb, hc, asAddr, loadVar, a1, a2, a3, e1, e2, e3, Sem.run_bind, Result.andThen]

/-- The open slice is none of these. -/
def OffO (Bo : Nat) (bs : List Nat) (W : World) : Prop := ∀ v, Boxed W Bo 23 v → Off v bs
theorem NS.off {Bl Bs Bb Bo gS gB base m : Nat} {lv : Value} {n : Nat} {F : List Nat} {Q : Nat → Option (List Int)} {O : List Int} {w : World} (h : NS Bl Bs Bb Bo gS gB base m lv n F Q O w) (bs : List Nat) (hb : ∀ r ∈ bs, w.heap.size ≤ r) : OffO Bo bs w := by
  obtain ⟨v, o1, o2, _⟩ := h.op
  intro v' hv' g hg hm
  have := o1.symm.trans hv'
  simp only [Option.some.injEq, Obj.cells.injEq, Array.mk.injEq, List.cons.injEq, and_true] at this
  subst this
  have := (o2.lt g hg).2
  have := hb g hm
  omega
theorem NS.only {Bl Bs Bb Bo gS gB base m : Nat} {lv : Value} {n : Nat} {F : List Nat} {Q : Nat → Option (List Int)} {O : List Int} {w w' : World} (h : NS Bl Bs Bb Bo gS gB base m lv n F Q O w) {bs : List Nat} (ho : Only bs w w') (hm : ∀ r ∈ bs, m ≤ r) (hf : OffO Bo bs w) (hlt : Bl < m ∧ Bs < m ∧ Bb < m ∧ Bo < m ∧ gS < m ∧ gB < m) :
    NS Bl Bs Bb Bo gS gB base m lv n F Q O w' ∧ OffO Bo bs w' := by
  obtain ⟨v, o1, o2, o3⟩ := h.op
  obtain ⟨T, t1, t2, t3⟩ := h.bef
  have hn : ∀ a, a < m → a ∉ bs := fun a ha hb => by have := hm a hb; omega
  have o1' : Boxed w' Bo 23 v := (ho.block _ o1.lt (hn _ hlt.2.2.2.1)).trans o1
  refine ⟨⟨(ho.block _ h.l.lt (hn _ hlt.1)).trans h.l, (ho.block _ h.bs.lt (hn _ hlt.2.1)).trans h.bs, (ho.block _ h.bb.lt (hn _ hlt.2.2.1)).trans h.bb, h.seen.only ho (hn _ hlt.2.2.2.2.1), ⟨T, t1, t2.only ho (hn _ hlt.2.2.2.2.2), fun i hi => (t3 i hi).only ho hm⟩, ⟨v, o1', o2.only ho (hf v o1), o3⟩,
    ⟨h.lo.1, h.lo.2.1, h.lo.2.2.1, Nat.le_trans h.lo.2.2.2 ho.size⟩, fun r hr => ⟨Nat.lt_of_lt_of_le (h.fr r hr).1 ho.size, (h.fr r hr).2⟩⟩, fun v' hv' => ?_⟩
  have := o1'.symm.trans hv'
  simp only [Option.some.injEq, Obj.cells.injEq, Array.mk.injEq, List.cons.injEq, and_true] at this
  subst this
  exact hf v o1
theorem NS.more {Bl Bs Bb Bo gS gB base m : Nat} {lv : Value} {n : Nat} {F : List Nat} {Q : Nat → Option (List Int)} {O : List Int} {w : World} (h : NS Bl Bs Bb Bo gS gB base m lv n F Q O w) (bs : List Nat) (hf : OffO Bo bs w) (hb : ∀ r ∈ bs, r < w.heap.size ∧ r ≠ gS ∧ r ≠ gB ∧ r ≠ Bo) : NS Bl Bs Bb Bo gS gB base m lv n (bs ++ F) Q O w := by
  obtain ⟨v, o1, o2, o3⟩ := h.op
  exact ⟨h.l, h.bs, h.bb, h.seen, h.bef, ⟨v, o1, o2, fun g hg hm => by
    rcases List.mem_append.1 hm with q | q
    · exact hf v o1 g hg q
    · exact o3 g hg q⟩, h.lo, fun r hr => (List.mem_append.1 hr).elim (hb r) (h.fr r)⟩
theorem NS.less {Bl Bs Bb Bo gS gB base m : Nat} {lv : Value} {n : Nat} {F : List Nat} {Q : Nat → Option (List Int)} {O : List Int} {w : World} {bs : List Nat} (h : NS Bl Bs Bb Bo gS gB base m lv n (bs ++ F) Q O w) : NS Bl Bs Bb Bo gS gB base m lv n F Q O w ∧ OffO Bo bs w := by
  obtain ⟨v, o1, o2, o3⟩ := h.op
  refine ⟨⟨h.l, h.bs, h.bb, h.seen, h.bef, ⟨v, o1, o2, fun g hg hm => o3 g hg (by simp [hm])⟩, h.lo, fun r hr => h.fr r (by simp [hr])⟩, fun v' hv' => ?_⟩
  have := o1.symm.trans hv'
  simp only [Option.some.injEq, Obj.cells.injEq, Array.mk.injEq, List.cons.injEq, and_true] at this
  subst this
  exact fun g hg hm => o3 g hg (by simp [hm])
theorem NS.mono {Bl Bs Bb Bo gS gB base m m' : Nat} {lv : Value} {n : Nat} {F : List Nat} {Q : Nat → Option (List Int)} {O : List Int} {w : World} (h : NS Bl Bs Bb Bo gS gB base m lv n F Q O w) (hm : m ≤ m') : NS Bl Bs Bb Bo gS gB base m' lv n F Q O w := by
  obtain ⟨T, t1, t2, t3⟩ := h.bef
  exact ⟨h.l, h.bs, h.bb, h.seen, ⟨T, t1, t2, fun i hi => (t3 i hi).mono hm⟩, h.op, h.lo, h.fr⟩
theorem NS.lts {Bl Bs Bb Bo gS gB base m : Nat} {lv : Value} {n : Nat} {F : List Nat} {Q : Nat → Option (List Int)} {O : List Int} {w : World} (h : NS Bl Bs Bb Bo gS gB base m lv n F Q O w) : Bl < w.heap.size ∧ Bs < w.heap.size ∧ Bb < w.heap.size ∧ Bo < w.heap.size ∧ gS < w.heap.size ∧ gB < w.heap.size := by
  obtain ⟨v, o1, _, _⟩ := h.op
  obtain ⟨T, _, t2, _⟩ := h.bef
  exact ⟨h.l.lt, h.bs.lt, h.bb.lt, o1.lt, h.seen.lt, t2.lt⟩
/-- Blocks that a region makes: address, type, cells. -/
def MkF (z0 : Nat) (w0 : World) (L : List (Nat × TypeId × Array Value)) (W : World) : Prop := z0 ≤ w0.heap.size ∧ Below z0 w0 W ∧ ∀ e ∈ L, z0 ≤ e.1 ∧ Blk W e.1 e.2.1 e.2.2
theorem MkF.start {z0 : Nat} {w0 : World} (h : w0.heap.size = z0) : MkF z0 w0 [] w0 := ⟨by omega, Below.refl _ _, fun _ h => by cases h⟩
theorem MkF.alloc {z0 : Nat} {w0 W : World} {L : List (Nat × TypeId × Array Value)} (M : MkF z0 w0 L W) {A : Nat} {lv : Value} (hS : W.cell? ⟨A, 0, none⟩ = some lv) (ty : TypeId) (cs : Array Value) {a : Nat} (ha : a = W.heap.size) :
    ∃ W', W.alloc (.cells cs ty) = W' ∧ W'.cell? ⟨A, 0, none⟩ = some lv ∧ Hid (MkF z0 w0 ((a, ty, cs) :: L) W') := by
  subst ha
  have hz := M.2.1.size
  have h0 := M.1
  refine ⟨_, rfl, (World.cell?_alloc_some _ _ _ (by rw [hS]; rfl)).trans hS, Lib.hid ⟨M.1, M.2.1.alloc (by omega) _, fun e he => ?_⟩⟩
  rcases List.mem_cons.1 he with rfl | he
  · exact ⟨by omega, Blk.new _ _ _⟩
  · exact ⟨(M.2.2 e he).1, (M.2.2 e he).2.alloc _⟩
theorem MkF.store {z0 : Nat} {w0 W : World} {L : List (Nat × TypeId × Array Value)} (M : MkF z0 w0 L W) {A : Nat} {lv : Value} (hS : W.cell? ⟨A, 0, none⟩ = some lv) (hA : A < z0) {p : Nat} {T : TypeId} {cs : Array Value} (hp : (p, T, cs) ∈ L) (hc : cs.size = 1) (v : Value) :
    ∃ W', W.setCell ⟨p, 0, none⟩ v = W' ∧ W'.cell? ⟨A, 0, none⟩ = some lv ∧ Hid (MkF z0 w0 ((p, T, #[v]) :: L.filter (fun e => decide (e.2.1 ≠ T))) W') := by
  obtain ⟨h1, h2⟩ := M.2.2 _ hp
  dsimp only at h1 h2
  refine ⟨_, rfl, (World.cell?_setCell_far W ⟨p, 0, none⟩ ⟨A, 0, none⟩ _ (by show p ≠ A; omega)).trans hS, Lib.hid ⟨M.1, M.2.1.setCell (p := ⟨p, 0, none⟩) h1 v, fun e he => ?_⟩⟩
  rcases List.mem_cons.1 he with rfl | he
  · refine ⟨h1, ?_⟩
    have := h2.set_ 0 v
    have hcs : cs.setIfInBounds 0 v = #[v] := by
      apply Array.ext
      · simp [hc]
      · intro j a b
        simp [hc] at a
        subst a
        simp []
    rwa [hcs] at this
  · obtain ⟨he1, he2⟩ := List.mem_filter.1 he
    obtain ⟨q1, q2⟩ := M.2.2 e he1
    exact ⟨q1, q2.far (p := ⟨p, 0, none⟩) (blk_ne q2 h2 (of_decide_eq_true he2)) v⟩
theorem MkF.at {z0 : Nat} {w0 W : World} {L : List (Nat × TypeId × Array Value)} (M : MkF z0 w0 L W) {p : Nat} {T : TypeId} {cs : Array Value} (hp : (p, T, cs) ∈ L) : z0 ≤ p ∧ Blk W p T cs := M.2.2 _ hp
theorem MkF.one {z0 : Nat} {w0 W : World} {L : List (Nat × TypeId × Array Value)} (M : MkF z0 w0 L W) {p : Nat} {T : TypeId} {v : Value} (hp : (p, T, #[v]) ∈ L) : W.cell? ⟨p, 0, none⟩ = some v ∧ W.frozen? ⟨p, 0, none⟩ = false := ⟨(M.2.2 _ hp).2.cell 0, (M.2.2 _ hp).2.frozen 0⟩
end Go.Proofs.YtekfnonjhcfdmaaDoor
