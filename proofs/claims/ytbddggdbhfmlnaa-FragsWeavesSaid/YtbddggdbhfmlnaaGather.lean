/- A gatherer in memory: its block, its map of open messages, their rows of bytes. -/
import Derived.Test.YtbddggdbhfmlnaaSmall
import Derived.Test.YtbddggdbhfmlnaaMaps
import Derived.Lib.AppendStr
import Derived.Lib.BufferRead
namespace Go.Proofs.Ytbddggdbhfmlnaa
open Go.RowKit Go.Rt Go.Rw Go.Mp Go.Lib

/-- An open message: its ID, the slice that holds its bytes, these bytes, the next Left. -/
abbrev OE := Int × Value × ByteArray × Int
def kv (o : OE) : Int × (Value × Int) := (o.1, (o.2.1, o.2.2.2))
def ab (o : OE) : Int × (ByteArray × Int) := (o.1, (o.2.2.1, o.2.2.2))
abbrev idV (n : Int) : Value := .int .i64 n
abbrev msgV (p : Value × Int) : Value := .agg #[p.1, .int .i64 p.2]

/-- Two messages' rows are two. -/
def Rowy (a b : OE) : Prop := ∀ g, a.2.1.ownBlock = some g → b.2.1.ownBlock ≠ some g
structure GA (w : World) (base G m : Nat) (O : List OE) : Prop where
  blk : w.heap[G]? = some (.cells #[.map (some m)] 61 (0, 0))
  mp : MapAt w m idV msgV (O.map kv)
  rows : ∀ o ∈ O, w.ownsRow base 5 1 o.2.1 o.2.2.1.size (strCells o.2.2.1)
  apart : O.Pairwise Rowy
  keys : (O.map (·.1)).Nodup
  bG : base ≤ G
  bm : base ≤ m
  bz : base ≤ w.heap.size

/-- Nothing below n0 has turned, and no block of cells but of bytes. -/
structure Fr (n0 : Nat) (w w' : World) : Prop where
  bel : Below n0 w w'
  oth : ∀ (k : Nat) (vs : Array Value) (t : TypeId) (fr : Nat × Nat), w.heap[k]? = some (.cells vs t fr) → t ≠ 5 → w'.heap[k]? = some (.cells vs t fr)
theorem Fr.trans {n0 : Nat} {a b c : World} (h : Fr n0 a b) (k : Fr n0 b c) : Fr n0 a c := ⟨h.bel.trans k.bel, fun i vs t fr hi h1 => k.oth i vs t fr (h.oth i vs t fr hi h1) h1⟩
theorem Fr.of_below {n0 : Nat} {a b : World} (h : Below a.heap.size a b) (hn : n0 ≤ a.heap.size) : Fr n0 a b := ⟨h.mono hn, fun i _ _ _ hi _ => (h.block i (Array.getElem?_eq_some_iff.1 hi).1).trans hi⟩
theorem Fr.refl (n0 : Nat) (a : World) : Fr n0 a a := ⟨Below.refl _ _, fun _ _ _ _ h _ => h⟩
theorem Fr.size {n0 : Nat} {a b : World} (h : Fr n0 a b) : a.heap.size ≤ b.heap.size := h.bel.size
/-- A slice of other elements stays. -/
theorem Fr.sl {n0 : Nat} {a b : World} (h : Fr n0 a b) {α : Type} {c : α → List Value} {base e m : Nat} {v : Value} {L : List α} (hs : Sl a base e m c v L) (he : e ≠ 5) : Sl b base e m c v L := by
  rcases hs.form with ⟨rfl, rfl⟩ | ⟨g, cap, rfl, _, _, _, _, cur, hcur, _⟩
  · exact Sl.nil _ _ _ _ _
  · exact hs.same h.size (fun g' hg' => by simp [Value.ownBlock] at hg'; subst hg'; rw [h.oth _ _ _ _ hcur he, hcur])

section
variable {w w' : World} {base G m : Nat} {O : List OE}
theorem GA.c0 (h : GA w base G m O) : w.cell? ⟨G, 0, none⟩ = some (.map (some m)) := by simp [World.cell?, h.blk]
theorem GA.lt (h : GA w base G m O) : G < w.heap.size := (Array.getElem?_eq_some_iff.1 h.blk).1
theorem GA.ne (h : GA w base G m O) : G ≠ m := by
  rintro rfl
  obtain ⟨es, c, hb, _⟩ := h.mp
  rw [h.blk] at hb; cases hb
theorem GA.below (h : GA w base G m O) (hb : Below w.heap.size w w') : GA w' base G m O := by
  refine ⟨(hb.block G h.lt).trans h.blk, h.mp.of_heap (hb.block m h.mp.lt), fun o ho => ?_, h.apart, h.keys, h.bG, h.bm, by have := h.bz; have := hb.size; omega⟩
  refine (h.rows o ho).kept (row := none) ⟨hb.os, hb.tape, hb.output, hb.size, fun k hk _ => hb.block k hk⟩ ?_
  cases hq : o.2.1.ownBlock with
  | none => exact .inl rfl
  | some g => exact .inr (by simp)
theorem GA.row_ne (h : GA w base G m O) {o : OE} (ho : o ∈ O) {g : Nat} (hg : o.2.1.ownBlock = some g) : g ≠ G ∧ g ≠ m := by
  rcases (h.rows o ho).2 with ⟨h1, _⟩ | ⟨b, cap, cur, h1, _, h3, _⟩
  · rw [h1] at hg; cases hg
  · rw [h1] at hg
    simp [Value.ownBlock] at hg
    subst hg
    constructor
    · rintro rfl
      rw [h.blk] at h3; simp at h3
    · rintro rfl
      obtain ⟨es, c, hb, _⟩ := h.mp
      rw [hb] at h3; cases h3
theorem GA.row_cells (h : GA w base G m O) {o : OE} (ho : o ∈ O) {g : Nat} (hg : o.2.1.ownBlock = some g) : ∃ cur, w.heap[g]? = some (.cells cur 5 (0, 0)) := by
  rcases (h.rows o ho).2 with ⟨h1, _⟩ | ⟨b, cap, cur, h1, _, h3, _⟩
  · rw [h1] at hg; cases hg
  · rw [h1] at hg
    simp [Value.ownBlock] at hg
    subst hg
    exact ⟨cur, h3⟩

/-- The gatherer behind a step that turns its map and the row of one message. -/
theorem GA.next (h : GA w base G m O) {vb : Option Nat} (ho : Only (m :: vb.toList) w w') (hvb : vb ≠ some G) {O' : List OE} (hmp : MapAt w' m idV msgV (O'.map kv))
    (hrows : ∀ o ∈ O', (o ∈ O ∧ ∀ g, o.2.1.ownBlock = some g → vb ≠ some g) ∨ w'.ownsRow base 5 1 o.2.1 o.2.2.1.size (strCells o.2.2.1))
    (ha : O'.Pairwise Rowy) (hk : (O'.map (·.1)).Nodup) : GA w' base G m O' := by
  refine ⟨(ho.block G h.lt ?_).trans h.blk, hmp, fun o hO => ?_, ha, hk, h.bG, h.bm, by have := h.bz; have := ho.size; omega⟩
  · intro hm
    simp only [List.mem_cons, Option.mem_toList] at hm
    rcases hm with q | q
    · exact h.ne q
    · exact hvb q
  · rcases hrows o hO with ⟨h1, h2⟩ | h1
    · refine ⟨(h.rows o h1).1, ?_⟩
      rcases (h.rows o h1).2 with q | ⟨g, cap, cur, q1, q2, q3, q4⟩
      · exact .inl q
      · have hg : o.2.1.ownBlock = some g := by rw [q1]; rfl
        refine .inr ⟨g, cap, cur, q1, q2, (ho.block g (Array.getElem?_eq_some_iff.1 q3).1 ?_).trans q3, q4⟩
        intro hm
        simp only [List.mem_cons, Option.mem_toList] at hm
        rcases hm with q | q
        · exact (h.row_ne h1 hg).2 q
        · exact h2 g hg q
    · exact h1
theorem GA.fr (h : GA w base G m O) {vb : Option Nat} (ho : Only (m :: vb.toList) w w') (hvb : ∀ g, vb = some g → base ≤ g ∧ ∃ cur, w.heap[g]? = some (.cells cur 5 (0, 0))) : Fr base w w' := by
  refine ⟨ho.below ?_ h.bz, ?_⟩
  · intro b hb
    simp only [List.mem_cons, Option.mem_toList] at hb
    rcases hb with rfl | hb
    · exact h.bm
    · exact (hvb b hb).1
  · intro k vs t fr hk ht
    refine (ho.block k (Array.getElem?_eq_some_iff.1 hk).1 ?_).trans hk
    intro hm
    simp only [List.mem_cons, Option.mem_toList] at hm
    rcases hm with rfl | hm
    · obtain ⟨es, c, hb, _⟩ := h.mp
      rw [hb] at hk; cases hk
    · obtain ⟨_, cur, hc⟩ := hvb k hm
      rw [hc] at hk; cases hk; exact ht rfl
end

theorem u59 : Try.prog.underlying 59 = some (.map 2 64) := by kernel_rfl
theorem u2 : Try.prog.underlying 2 = some (.int .i64) := by kernel_rfl
theorem u62 : Try.prog.underlying 62 = some (.slice 5) := by kernel_rfl
theorem u9 : Try.prog.underlying 9 = some .string := by kernel_rfl
theorem u5 : Try.prog.underlying 5 = some (.int .u8) := by kernel_rfl
theorem info5 : (Try.prog.info? 5).map (fun i => (i.zero, i.size, i.bytes)) = some (some (.int .u8 0), 1, 1) := by kernel_rfl
theorem z64 (w : World) : (zeroValue 64).run Try.prog w = .ok (msgV (.slice none 0 0, 0)) w := by kernel_rfl

theorem new_any (w : World) :
    Calls Try.prog 15 #[] w fun e w' => e = .returned (.pointer (some ⟨w.heap.size + 1, 0, none⟩)) ∧ GA w' w.heap.size (w.heap.size + 1) w.heap.size [] ∧ Below w.heap.size w w' := by
  have hmm := @run_makeMap Try.prog
  go_enter Try.func15, Try.ntmps15
  go_wp2
  go_ret
  have e1 := MapAt.new w idV msgV
  refine ⟨rfl, ⟨?_, e1.of_heap (Below.heap_alloc _ _ _ (by simp)), by simp, by simp, by simp, by omega, by omega, by simp; omega⟩, ((Below.refl _ w).alloc (Nat.le_refl _) _).alloc (by simp) _⟩
  have := World.alloc_heap_new (w.alloc (.map #[] 0)) (.cells #[.map (some w.heap.size)] 61)
  simpa using this

theorem open_any {base G m : Nat} {O : List OE} (w : World) (h : GA w base G m O) (_ : O.length ≤ 1000000) :
    Calls Try.prog 17 #[.pointer (some ⟨G, 0, none⟩)] w fun e w' => e = .returned (.int .i64 O.length) ∧ w = w' := by
  have c0 := h.c0
  have hl := run_len (P := Try.prog) (ty := 3) u59 h.mp
  simp only [List.length_map] at hl
  have hl2 : ∀ ty, (Builtin.len_ #[59] ty #[.map (some m)]).run Try.prog w = .ok (.int .i64 O.length) w := by
    intro ty
    have := run_len (P := Try.prog) (ty := ty) u59 h.mp
    simp only [List.length_map] at this
    exact this
  clear hl
  go_enter Try.func17, Try.ntmps17
  go_wp2
  go_ret
  exact ⟨rfl, rfl⟩

theorem open_nil (w : World) : Calls Try.prog 17 #[.pointer none] w fun e w' => e = .returned (.int .i64 0) ∧ w = w' := by
  go_enter Try.func17, Try.ntmps17
  go_wp2
  go_ret
  exact ⟨rfl, rfl⟩
theorem forget_nil (w : World) : Calls Try.prog 19 #[.pointer none] w fun e w' => e = .returned (.tuple #[]) ∧ w = w' := by
  go_enter Try.func19, Try.ntmps19
  go_wp2
  go_end0
  exact ⟨rfl, rfl⟩
theorem forget_any {base G m : Nat} {O : List OE} (w : World) (h : GA w base G m O) :
    Calls Try.prog 19 #[.pointer (some ⟨G, 0, none⟩)] w fun e w' => e = .returned (.tuple #[]) ∧ GA w' base G m [] ∧ Fr base w w' := by
  have c0 := h.c0
  obtain ⟨o, hu, hm⟩ := run_clear (P := Try.prog) (ty := 0) u59 h.mp
  have ho : Only (m :: (none : Option Nat).toList) w (w.putObj m o) := Only.putObj _ _ _ (by simp)
  have HA := Lib.hid (h.next ho (by simp) (O' := []) hm (by simp) (by simp) (by simp))
  have HF := Lib.hid (h.fr ho (by simp))
  clear h hm ho
  go_enter Try.func19, Try.ntmps19
  go_wp2
  go_end0
  exact ⟨rfl, HA.out, HF.out⟩
theorem feed_nil (w : World) (id left : Int) (fi : Bool) (data : ByteArray) :
    Calls Try.prog 16 #[.pointer none, .agg #[.int .i64 id, .bool fi, .int .i64 left, .string data]] w fun e w' => e = .returned (.tuple #[.string ByteArray.empty, .bool false, .int .i64 1]) ∧ Below w.heap.size w w' := by
  go_enter Try.func16, Try.ntmps16
  go_wp2_with fail
  go_ret3
  exact ⟨rfl, (Below.refl _ _).alloc (Nat.le_refl _) _⟩
end Go.Proofs.Ytbddggdbhfmlnaa
