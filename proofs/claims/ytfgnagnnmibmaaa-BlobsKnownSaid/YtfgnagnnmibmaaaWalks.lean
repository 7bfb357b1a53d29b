/- What the functions of package blobs do to a store in memory, said of the store's block and its two maps as association lists. -/
import Derived.Test.YtfgnagnnmibmaaaMaps
import Derived.Test.YtfgnagnnmibmaaaRows
import Derived.WalkKit
import Derived.WalkSpells
import Derived.WalkLawsBesides
import Derived.Lib.Hide
import Derived.RegionTactic
import Derived.ChangeAlike
namespace Go.Proofs.Ytfgnagnnmibmaaa
open Go.RowKit Go.Mp

abbrev strV (s : ByteArray) : Value := .string s
abbrev intV (n : Int) : Value := .int .i64 n
abbrev entV (p : ByteArray × Int) : Value := .agg #[.string p.1, .int .i64 p.2]

theorem u54 : Try.prog.underlying 54 = some (.map 9 3) := by kernel_rfl
theorem u55 : Try.prog.underlying 55 = some (.map 3 60) := by kernel_rfl
theorem u9 : Try.prog.underlying 9 = some .string := by kernel_rfl
theorem u3 : Try.prog.underlying 3 = some (.int .i64) := by kernel_rfl
theorem z3 (w : World) : (zeroValue 3).run Try.prog w = .ok (.int .i64 0) w := by kernel_rfl
theorem z60 (w : World) : (zeroValue 60).run Try.prog w = .ok (entV (ByteArray.empty, 0)) w := by kernel_rfl

theorem made_yes (B m1 : Nat) (w : World) (c0 : w.cell? ⟨B, 0, none⟩ = some (.map (some m1))) :
    Calls Try.prog 28 #[.pointer (some ⟨B, 0, none⟩)] w fun e w' => e = .returned (.bool true) ∧ w = w' := by
  have q : (binOp .neq 54 (.map (some m1)) (.map none)).run Try.prog w = .ok (.bool true) w := by kernel_rfl
  go_enter Try.func28, Try.ntmps28
  go_wp2
  go_ret
  exact ⟨rfl, rfl⟩

theorem made_nil (w : World) :
    Calls Try.prog 28 #[.pointer none] w fun e w' => e = .returned (.bool false) ∧ w = w' := by
  go_enter Try.func28, Try.ntmps28
  go_wp2
  go_ret
  exact ⟨rfl, rfl⟩


/-- A store in memory: its block, its two maps. -/
structure SA (w : World) (B m1 m2 : Nat) (ids : List (ByteArray × Int)) (ents : List (Int × (ByteArray × Int))) (g tot : Int) : Prop where
  blk : w.heap[B]? = some (.cells #[.map (some m1), .map (some m2), .int .i64 g, .int .i64 tot] 57 (0, 0))
  h1 : MapAt w m1 strV intV ids
  h2 : MapAt w m2 intV entV ents
  ne : m1 ≠ m2

section
variable {w : World} {B m1 m2 : Nat} {ids : List (ByteArray × Int)} {ents : List (Int × (ByteArray × Int))} {g tot : Int}
theorem SA.c0 (h : SA w B m1 m2 ids ents g tot) : w.cell? ⟨B, 0, none⟩ = some (.map (some m1)) := by simp [World.cell?, h.blk]
theorem SA.c1 (h : SA w B m1 m2 ids ents g tot) : w.cell? ⟨B, 1, none⟩ = some (.map (some m2)) := by simp [World.cell?, h.blk]
theorem SA.c2 (h : SA w B m1 m2 ids ents g tot) : w.cell? ⟨B, 2, none⟩ = some (.int .i64 g) := by simp [World.cell?, h.blk]
theorem SA.c3 (h : SA w B m1 m2 ids ents g tot) : w.cell? ⟨B, 3, none⟩ = some (.int .i64 tot) := by simp [World.cell?, h.blk]
theorem SA.f (h : SA w B m1 m2 ids ents g tot) (o : Nat) : w.frozen? ⟨B, o, none⟩ = false := by simp [World.frozen?, h.blk]
theorem SA.lt (h : SA w B m1 m2 ids ents g tot) : B < w.heap.size := (Array.getElem?_eq_some_iff.1 h.blk).1
theorem SA.b1 (h : SA w B m1 m2 ids ents g tot) : B ≠ m1 := by
  rintro rfl; obtain ⟨es, c, hb, _⟩ := h.h1; rw [h.blk] at hb; cases hb
theorem SA.b2 (h : SA w B m1 m2 ids ents g tot) : B ≠ m2 := by
  rintro rfl; obtain ⟨es, c, hb, _⟩ := h.h2; rw [h.blk] at hb; cases hb
theorem SA.drew (h : SA w B m1 m2 ids ents g tot) : SA w.drew B m1 m2 ids ents g tot := ⟨h.blk, h.h1, h.h2, h.ne⟩
theorem SA.alloc (h : SA w B m1 m2 ids ents g tot) (o : Obj) : SA (w.alloc o) B m1 m2 ids ents g tot :=
  ⟨(Below.heap_alloc _ _ _ h.lt).trans h.blk, h.h1.of_heap (Below.heap_alloc _ _ _ h.h1.lt), h.h2.of_heap (Below.heap_alloc _ _ _ h.h2.lt), h.ne⟩
end

/-- Nothing has turned but blocks of a list, and new ones. -/
structure Only (bs : List Nat) (w w' : World) : Prop where
  os : w'.os = w.os
  tape : w'.tape = w.tape
  output : w'.output = w.output
  size : w.heap.size ≤ w'.heap.size
  block : ∀ k, k < w.heap.size → k ∉ bs → w'.heap[k]? = w.heap[k]?
theorem Only.refl (bs : List Nat) (w : World) : Only bs w w := ⟨rfl, rfl, rfl, Nat.le_refl _, fun _ _ _ => rfl⟩
theorem Only.trans {bs : List Nat} {a b c : World} (h : Only bs a b) (k : Only bs b c) : Only bs a c :=
  ⟨k.os.trans h.os, k.tape.trans h.tape, k.output.trans h.output, Nat.le_trans h.size k.size, fun i hi hn => (k.block i (by have := h.size; omega) hn).trans (h.block i hi hn)⟩
theorem Only.drew (bs : List Nat) (w : World) : Only bs w w.drew := ⟨rfl, rfl, rfl, Nat.le_refl _, fun _ _ _ => rfl⟩
theorem Only.alloc (bs : List Nat) (w : World) (o : Obj) : Only bs w (w.alloc o) := ⟨rfl, rfl, rfl, by simp, fun k hk _ => Below.heap_alloc _ _ _ hk⟩
theorem Only.setCell {bs : List Nat} (w : World) (p : Addr) (v : Value) (hp : p.block ∈ bs) : Only bs w (w.setCell p v) :=
  ⟨rfl, rfl, rfl, by simp [World.setCell], fun k _ hn => Below.heap_setCell _ _ _ _ (fun e => hn (by rw [e]; exact hp))⟩
theorem Only.putObj {bs : List Nat} (w : World) (b : Nat) (o : Obj) (hp : b ∈ bs) : Only bs w (w.putObj b o) :=
  ⟨rfl, rfl, rfl, by simp, fun k _ hn => World.putObj_heap_other (fun e => hn (by rw [e]; exact hp))⟩

theorem look1 {B m1 m2 : Nat} {ids : List (ByteArray × Int)} {ents : List (Int × (ByteArray × Int))} {g tot : Int} {w : World} (h : SA w B m1 m2 ids ents g tot) (id : Int) :
    ∃ x : ByteArray × Int, x = (get ents id).getD (ByteArray.empty, 0) ∧ (Instr.lookup 55 (.map (some m2)) (.int .i64 id) false).run Try.prog w = .ok (.agg #[.string x.1, .int .i64 x.2]) w := by
  refine ⟨_, rfl, ?_⟩
  have hl := run_lookup1 (int_emb u3) u55 h.h2 (z60 w) id
  cases hg : get ents id <;> simp [hg] at hl ⊢ <;> exact hl
theorem look2 {B m1 m2 : Nat} {ids : List (ByteArray × Int)} {ents : List (Int × (ByteArray × Int))} {g tot : Int} {w : World} (h : SA w B m1 m2 ids ents g tot) (id : Int) :
    ∃ (x : ByteArray × Int) (ok : Bool), x = (get ents id).getD (ByteArray.empty, 0) ∧ ok = (get ents id).isSome ∧ (Instr.lookup 55 (.map (some m2)) (.int .i64 id) true).run Try.prog w = .ok (.tuple #[.agg #[.string x.1, .int .i64 x.2], .bool ok]) w := by
  refine ⟨_, _, rfl, rfl, ?_⟩
  have hl := run_lookup2 (int_emb u3) u55 h.h2 (z60 w) id
  cases hg : get ents id <;> simp [hg] at hl ⊢ <;> exact hl
theorem lookI {B m1 m2 : Nat} {ids : List (ByteArray × Int)} {ents : List (Int × (ByteArray × Int))} {g tot : Int} {w : World} (h : SA w B m1 m2 ids ents g tot) (s : ByteArray) :
    (Instr.lookup 54 (.map (some m1)) (.string s) true).run Try.prog w = .ok (.tuple #[.int .i64 ((get ids s).getD 0), .bool (get ids s).isSome]) w := by
  have hl := run_lookup2 (str_emb u9) u54 h.h1 (z3 w) s
  cases hg : get ids s <;> simp [hg] at hl ⊢ <;> exact hl

theorem fld1 (s : ByteArray) (n : Int) (w : World) : (Instr.field 60 (.agg #[.string s, .int .i64 n]) 1).run Try.prog w = .ok (.int .i64 n) w := by kernel_rfl

theorem count_any {B m1 m2 : Nat} {ids : List (ByteArray × Int)} {ents : List (Int × (ByteArray × Int))} {g tot : Int} (w : World) (h : SA w B m1 m2 ids ents g tot) (id : Int) :
    Calls Try.prog 15 #[.pointer (some ⟨B, 0, none⟩), .int .i64 id] w fun e w' => e = .returned (.int .i64 (((get ents id).getD (ByteArray.empty, 0)).2)) ∧ w = w' := by
  have c0 := h.c0
  have c1 := h.c1
  obtain ⟨⟨xs, xn⟩, hx, hl⟩ := look1 h id
  rw [← hx]
  clear hx
  have fl := fld1
  go_enter Try.func15, Try.ntmps15
  go_wp2_with (go_at_call 28; refine (made_yes _ _ _ c0).mono ?_; rintro e w' ⟨rfl, rfl⟩)
  go_ret
  exact ⟨rfl, rfl⟩

theorem count_nil (w : World) (id : Int) :
    Calls Try.prog 15 #[.pointer none, .int .i64 id] w fun e w' => e = .returned (.int .i64 0) ∧ w = w' := by
  go_enter Try.func15, Try.ntmps15
  go_wp2_with (go_at_call 28; refine (made_nil _).mono ?_; rintro e w' ⟨rfl, rfl⟩)
  go_ret
  exact ⟨rfl, rfl⟩

theorem get_nil (w : World) (id : Int) :
    Calls Try.prog 16 #[.pointer none, .int .i64 id] w fun e w' => e = .returned (.tuple #[.string ByteArray.empty, .bool false]) ∧ w = w' := by
  go_enter Try.func16, Try.ntmps16
  go_wp2_with (go_at_call 28; refine (made_nil _).mono ?_; rintro e w' ⟨rfl, rfl⟩)
  go_ret2
  exact ⟨rfl, rfl⟩

theorem bytes_nil (w : World) :
    Calls Try.prog 21 #[.pointer none] w fun e w' => e = .returned (.int .i64 0) ∧ w = w' := by
  go_enter Try.func21, Try.ntmps21
  go_wp2_with (go_at_call 28; refine (made_nil _).mono ?_; rintro e w' ⟨rfl, rfl⟩)
  go_ret
  exact ⟨rfl, rfl⟩

theorem put_nil (w : World) (s : ByteArray) :
    Calls Try.prog 13 #[.pointer none, .string s] w fun e w' => e = .returned (.tuple #[.int .i64 0, .int .i64 1]) ∧ w = w' := by
  go_enter Try.func13, Try.ntmps13
  go_wp2_with (go_at_call 28; refine (made_nil _).mono ?_; rintro e w' ⟨rfl, rfl⟩)
  go_ret2
  exact ⟨rfl, rfl⟩

theorem change_nil (w : World) (id by' : Int) :
    Calls Try.prog 29 #[.pointer none, .int .i64 id, .int .i64 by'] w fun e w' => e = .returned (.int .i64 1) ∧ w = w' := by
  go_enter Try.func29, Try.ntmps29
  go_wp2_with (go_at_call 28; refine (made_nil _).mono ?_; rintro e w' ⟨rfl, rfl⟩)
  go_ret
  exact ⟨rfl, rfl⟩

theorem keep_nil (w : World) (id : Int) :
    Calls Try.prog 14 #[.pointer none, .int .i64 id] w fun e w' => e = .returned (.int .i64 1) ∧ w = w' := by
  go_enter Try.func14, Try.ntmps14
  go_wp2_with (go_at_call 29; refine (change_nil _ _ _).mono ?_; rintro e w' ⟨rfl, rfl⟩)
  go_ret
  exact ⟨rfl, rfl⟩

theorem drop_nil (w : World) (id : Int) :
    Calls Try.prog 17 #[.pointer none, .int .i64 id] w fun e w' => e = .returned (.int .i64 1) ∧ w = w' := by
  go_enter Try.func17, Try.ntmps17
  go_wp2_with (go_at_call 29; refine (change_nil _ _ _).mono ?_; rintro e w' ⟨rfl, rfl⟩)
  go_ret
  exact ⟨rfl, rfl⟩

theorem ids_nil (w : World) :
    Calls Try.prog 19 #[.pointer none] w fun e w' => e = .returned (.slice none 0 0) ∧ w = w' := by
  go_enter Try.func19, Try.ntmps19
  go_wp2_with (go_at_call 28; refine (made_nil _).mono ?_; rintro e w' ⟨rfl, rfl⟩)
  go_ret
  exact ⟨rfl, rfl⟩

theorem get_any {B m1 m2 : Nat} {ids : List (ByteArray × Int)} {ents : List (Int × (ByteArray × Int))} {g tot : Int} (w : World) (h : SA w B m1 m2 ids ents g tot) (id : Int) :
    Calls Try.prog 16 #[.pointer (some ⟨B, 0, none⟩), .int .i64 id] w fun e w' => e = .returned (.tuple #[.string (((get ents id).getD (ByteArray.empty, 0)).1), .bool (get ents id).isSome]) ∧ Below w.heap.size w w' := by
  have c0 := h.c0
  have c1 := h.c1
  obtain ⟨⟨xs, xn⟩, ok, hx, hok, hl⟩ := look2 h id
  rw [← hx, ← hok]
  clear hx hok
  go_enter Try.func16, Try.ntmps16
  go_wp2_with (go_at_call 28; refine (made_yes _ _ _ c0).mono ?_; rintro e w' ⟨rfl, rfl⟩)
  go_ret2
  exact ⟨rfl, (Below.refl _ _).alloc (Nat.le_refl _) _⟩

theorem new_any (w : World) :
    Calls Try.prog 11 #[] w fun e w' => e = .returned (.pointer (some ⟨w.heap.size + 2, 0, none⟩)) ∧ SA w' (w.heap.size + 2) w.heap.size (w.heap.size + 1) [] [] 0 0 ∧ Below w.heap.size w w' := by
  have hmm := @run_makeMap Try.prog
  go_enter Try.func11, Try.ntmps11
  go_wp2
  go_ret
  have e1 := MapAt.new w strV intV
  have e2 := MapAt.new (w.alloc (.map #[] 0)) intV entV
  rw [World.size_alloc] at e2
  refine ⟨rfl, ⟨?_, ?_, ?_, by omega⟩, ?_⟩
  · have := World.alloc_heap_new ((w.alloc (.map #[] 0)).alloc (.map #[] 0)) (.cells #[.map (some w.heap.size), .map (some (w.heap.size + 1)), .int .i64 0, .int .i64 0] 57)
    simpa using this
  · exact (e1.of_heap (Below.heap_alloc _ _ _ (by simp))).of_heap (Below.heap_alloc _ _ _ (by simp; omega))
  · exact e2.of_heap (Below.heap_alloc _ _ _ (by simp))
  · exact (((Below.refl _ w).alloc (Nat.le_refl _) _).alloc (by simp) _).alloc (by simp; omega) _

end Go.Proofs.Ytfgnagnnmibmaaa
