/- What change, Keep and Drop do to a store in memory. -/
import Derived.Test.YtfgnagnnmibmaaaPut
namespace Go.Proofs.Ytfgnagnnmibmaaa
open Go.RowKit Go.Mp

theorem change_none {B m1 m2 : Nat} {ids : List (ByteArray × Int)} {ents : List (Int × (ByteArray × Int))} {g tot : Int} (w : World) (h : SA w B m1 m2 ids ents g tot) (id by' : Int) (hx : get ents id = none) :
    Calls Try.prog 29 #[.pointer (some ⟨B, 0, none⟩), .int .i64 id, .int .i64 by'] w fun e w' => e = .returned (.int .i64 4) ∧ Below w.heap.size w w' := by
  have c0 := h.c0
  have c1 := h.c1
  obtain ⟨⟨xs, xn⟩, ok, hx', hok, hl⟩ := look2 h id
  rw [hx] at hok
  simp only [Option.isSome_none] at hok
  subst hok
  clear hx hx' h
  go_enter Try.func29, Try.ntmps29
  go_wp2_with (go_at_call 28; refine (made_yes _ _ _ c0).mono ?_; rintro e w' ⟨rfl, rfl⟩)
  go_ret
  exact ⟨rfl, (Below.refl _ _).alloc (Nat.le_refl _) _⟩

set_option maxHeartbeats 400000 in
theorem change_more {B m1 m2 : Nat} {ids : List (ByteArray × Int)} {ents : List (Int × (ByteArray × Int))} {g tot : Int} (w : World) (h : SA w B m1 m2 ids ents g tot) (id by' : Int) (s : ByteArray) (c : Int) (hx : get ents id = some (s, c))
    (hc0 : 0 ≤ c) (hc1 : c ≤ 1000000000000) (hb0 : -1 ≤ by') (hb1 : by' ≤ 1) (hpos : 0 < c + by') :
    Calls Try.prog 29 #[.pointer (some ⟨B, 0, none⟩), .int .i64 id, .int .i64 by'] w fun e w' => e = .returned (.int .i64 0) ∧ SA w' B m1 m2 ids (put ents id (s, c + by')) g tot ∧ Only [B, m1, m2] w w' := by
  have c0 := h.c0
  have c1 := h.c1
  obtain ⟨⟨xs, xn⟩, ok, hx', hok, hl⟩ := look2 h id
  rw [hx] at hok hx'
  simp only [Option.isSome_some, Option.getD_some, Prod.mk.injEq] at hok hx'
  obtain ⟨rfl, rfl⟩ := hx'
  subst hok
  have hlt := h.lt
  have s1 := (h.alloc (.cells #[.string xs, .int .i64 (xn + by')] 60)).drew
  have d1 := s1.c1
  obtain ⟨o, hu, hm⟩ := run_update (int_emb u3) u55 s1.h2 id (xs, xn + by')
  have HA := Lib.hid (s1.putEnts hm)
  have HO := Lib.hid (((Only.alloc [B, m1, m2] w (.cells #[.string xs, .int .i64 (xn + by')] 60)).trans (Only.drew _ _)).trans (Only.putObj (bs := [B, m1, m2]) _ m2 o (by simp)))
  replace hu : (Instr.mapUpdate 55 (.map (some m2)) (.int .i64 id) (.agg #[.string xs, .int .i64 (xn + by')])).run Try.prog (w.alloc (.cells #[.string xs, .int .i64 (xn + by')] 60)).drew = .ok () ((w.alloc (.cells #[.string xs, .int .i64 (xn + by')] 60)).drew.putObj m2 o) := hu
  clear hx h s1 hm
  go_enter Try.func29, Try.ntmps29
  go_wp2_with (go_at_call 28; refine (made_yes _ _ _ c0).mono ?_; rintro e w' ⟨rfl, rfl⟩)
  go_region
  go_wp2
  go_ret
  exact ⟨rfl, HA.out, HO.out⟩

set_option maxHeartbeats 400000 in
theorem change_gone {B m1 m2 : Nat} {ids : List (ByteArray × Int)} {ents : List (Int × (ByteArray × Int))} {g tot : Int} (w : World) (h : SA w B m1 m2 ids ents g tot) (id by' : Int) (s : ByteArray) (c : Int) (hx : get ents id = some (s, c))
    (hc0 : 0 ≤ c) (hc1 : c ≤ 1000000000000) (hb0 : -1 ≤ by') (hb1 : by' ≤ 1) (hpos : c + by' ≤ 0) (hs : s.size ≤ 2048) (ht0 : 0 ≤ tot) (ht1 : tot ≤ 2000000000000) :
    Calls Try.prog 29 #[.pointer (some ⟨B, 0, none⟩), .int .i64 id, .int .i64 by'] w fun e w' => e = .returned (.int .i64 0) ∧ SA w' B m1 m2 (del ids s) (del ents id) g (tot - s.size) ∧ Only [B, m1, m2] w w' := by
  have c0 := h.c0
  have c1 := h.c1
  obtain ⟨⟨xs, xn⟩, ok, hx', hok, hl⟩ := look2 h id
  rw [hx] at hok hx'
  simp only [Option.isSome_some, Option.getD_some, Prod.mk.injEq] at hok hx'
  obtain ⟨rfl, rfl⟩ := hx'
  subst hok
  have hlt := h.lt
  have s1 := h.alloc (.cells #[.string xs, .int .i64 (xn + by')] 60)
  have d1 := s1.c1
  obtain ⟨o, hu, hm⟩ := run_delete (ty := 0) (int_emb u3) u55 s1.h2 id
  have s2 := s1.putEnts hm
  have O2 := (Only.alloc [B, m1, m2] w (.cells #[.string xs, .int .i64 (xn + by')] 60)).trans (Only.putObj (bs := [B, m1, m2]) _ m2 o (by simp))
  have n2 := h.h2.lt
  have n1 := h.h1.lt
  replace hu : (Builtin.delete_ #[55, 3] 0 #[.map (some m2), .int .i64 id]).run Try.prog (w.alloc (.cells #[.string xs, .int .i64 (xn + by')] 60)) = .ok (.tuple #[]) ((w.alloc (.cells #[.string xs, .int .i64 (xn + by')] 60)).putObj m2 o) := hu
  have k2 : ((w.alloc (.cells #[.string xs, .int .i64 (xn + by')] 60)).putObj m2 o).heap[w.heap.size]? = some (.cells #[.string xs, .int .i64 (xn + by')] 60 (0, 0)) := (World.putObj_heap_other (by omega)).trans (World.alloc_heap_new w _)
  generalize ((w.alloc (.cells #[.string xs, .int .i64 (xn + by')] 60)).putObj m2 o) = W2 at *
  have kc2 : W2.cell? ⟨w.heap.size, 0, none⟩ = some (.string xs) := by simp [World.cell?, k2]
  have e0 := s2.c0
  obtain ⟨o3, hu3, hm3⟩ := run_delete (ty := 0) (str_emb u9) u54 s2.drew.h1 xs
  have s3 := s2.drew.putIds hm3
  have O3 := (O2.trans (Only.drew _ _)).trans (Only.putObj (bs := [B, m1, m2]) _ m1 o3 (by simp))
  replace hu3 : (Builtin.delete_ #[54, 9] 0 #[.map (some m1), .string xs]).run Try.prog W2.drew = .ok (.tuple #[]) (W2.drew.putObj m1 o3) := hu3
  have k3 : (W2.drew.putObj m1 o3).heap[w.heap.size]? = some (.cells #[.string xs, .int .i64 (xn + by')] 60 (0, 0)) := (World.putObj_heap_other (by omega)).trans k2
  generalize (W2.drew.putObj m1 o3) = W3 at *
  have kc3 : W3.cell? ⟨w.heap.size, 0, none⟩ = some (.string xs) := by simp [World.cell?, k3]
  have g3 := s3.c3
  have f3 := s3.f 3
  have HA := Lib.hid ((s3.set3 (tot - xs.size)).drew)
  have HO := Lib.hid ((O3.trans (Only.setCell (bs := [B, m1, m2]) W3 ⟨B, 3, none⟩ (.int .i64 (tot - xs.size)) (by simp))).trans (Only.drew _ _))
  have hnp : ¬ 0 < xn + by' := by omega
  clear hx h s1 hm hm3 s2 s3 O2 O3 k2 k3
  go_enter Try.func29, Try.ntmps29
  go_wp2_with (go_at_call 28; refine (made_yes _ _ _ c0).mono ?_; rintro e w' ⟨rfl, rfl⟩)
  go_region
  go_wp2
  go_region
  go_wp2
  go_ret
  exact ⟨rfl, HA.out, HO.out⟩

end Go.Proofs.Ytfgnagnnmibmaaa
