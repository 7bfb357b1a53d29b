/- What Put and change do to a store in memory. -/
import Derived.Test.YtfgnagnnmibmaaaWalks
import Derived.BigRegion
namespace Go.Proofs.Ytfgnagnnmibmaaa
open Go.RowKit Go.Mp

theorem put_long {B m1 m2 : Nat} {ids : List (ByteArray × Int)} {ents : List (Int × (ByteArray × Int))} {g tot : Int} (w : World) (h : SA w B m1 m2 ids ents g tot) (s : ByteArray) (hs : 2048 < s.size) (hs2 : s.size ≤ 9223372036854775807) :
    Calls Try.prog 13 #[.pointer (some ⟨B, 0, none⟩), .string s] w fun e w' => e = .returned (.tuple #[.int .i64 0, .int .i64 3]) ∧ w = w' := by
  have c0 := h.c0
  have hd : (2048 : Int) < s.size := by omega
  go_enter Try.func13, Try.ntmps13
  go_wp2_with (go_at_call 28; refine (made_yes _ _ _ c0).mono ?_; rintro e w' ⟨rfl, rfl⟩)
  go_ret2
  exact ⟨rfl, rfl⟩

theorem SA.putEnts {w : World} {B m1 m2 : Nat} {ids : List (ByteArray × Int)} {ents ents' : List (Int × (ByteArray × Int))} {g tot : Int} (h : SA w B m1 m2 ids ents g tot) {o : Obj} (hm : MapAt (w.putObj m2 o) m2 intV entV ents') : SA (w.putObj m2 o) B m1 m2 ids ents' g tot :=
  ⟨(World.putObj_heap_other h.b2).trans h.blk, h.h1.of_heap (World.putObj_heap_other h.ne), hm, h.ne⟩
theorem SA.putIds {w : World} {B m1 m2 : Nat} {ids ids' : List (ByteArray × Int)} {ents : List (Int × (ByteArray × Int))} {g tot : Int} (h : SA w B m1 m2 ids ents g tot) {o : Obj} (hm : MapAt (w.putObj m1 o) m1 strV intV ids') : SA (w.putObj m1 o) B m1 m2 ids' ents g tot :=
  ⟨(World.putObj_heap_other h.b1).trans h.blk, hm, h.h2.of_heap (World.putObj_heap_other (Ne.symm h.ne)), h.ne⟩

set_option maxHeartbeats 400000 in
theorem put_old {B m1 m2 : Nat} {ids : List (ByteArray × Int)} {ents : List (Int × (ByteArray × Int))} {g tot : Int} (w : World) (h : SA w B m1 m2 ids ents g tot) (s : ByteArray) (hs : s.size ≤ 2048)
    (id : Int) (hid : get ids s = some id) (c : Int) (x : ByteArray × Int) (hx : (get ents id).getD (ByteArray.empty, 0) = x) (hc : x.2 = c) (hc0 : 0 ≤ c) (hc1 : c ≤ 1000000000000) :
    Calls Try.prog 13 #[.pointer (some ⟨B, 0, none⟩), .string s] w fun e w' => e = .returned (.tuple #[.int .i64 id, .int .i64 0]) ∧ SA w' B m1 m2 ids (put ents id (s, c + 1)) g tot ∧ Only [B, m1, m2] w w' := by
  have c0 := h.c0
  have c1 := h.c1
  have hl := lookI h s
  rw [hid] at hl
  simp only [Option.getD_some, Option.isSome_some] at hl
  obtain ⟨⟨xs, xn⟩, hx', hl2⟩ := look1 h.drew id
  rw [hx] at hx'
  subst hx'
  simp only at hc
  subst hc
  obtain ⟨o, hu, hm⟩ := run_update (int_emb u3) u55 h.drew.h2 id (s, xn + 1)
  have HA := Lib.hid (h.drew.putEnts hm)
  have HO := Lib.hid ((Only.drew [B, m1, m2] w).trans (Only.putObj w.drew m2 o (by simp)))
  have hd : ¬ (2048 : Int) < s.size := by omega
  replace hu : (Instr.mapUpdate 55 (.map (some m2)) (.int .i64 id) (.agg #[.string s, .int .i64 (xn + 1)])).run Try.prog w.drew = .ok () (w.drew.putObj m2 o) := hu
  have fl := fld1
  clear hid hx h hm
  go_enter Try.func13, Try.ntmps13
  go_wp2_with (go_at_call 28; refine (made_yes _ _ _ c0).mono ?_; rintro e w' ⟨rfl, rfl⟩)
  go_region
  go_wp2
  go_ret2
  exact ⟨rfl, HA.out, HO.out⟩

theorem SA.set2 {w : World} {B m1 m2 : Nat} {ids : List (ByteArray × Int)} {ents : List (Int × (ByteArray × Int))} {g tot : Int} (h : SA w B m1 m2 ids ents g tot) (g' : Int) : SA (w.setCell ⟨B, 2, none⟩ (.int .i64 g')) B m1 m2 ids ents g' tot := by
  refine ⟨?_, h.h1.of_heap (Below.heap_setCell _ _ _ _ (Ne.symm h.b1)), h.h2.of_heap (Below.heap_setCell _ _ _ _ (Ne.symm h.b2)), h.ne⟩
  have hb := h.blk
  obtain ⟨hlt, hk⟩ := Array.getElem?_eq_some_iff.1 hb
  show (w.heap.modify B _)[B]? = _
  rw [Array.getElem?_eq_getElem (by rw [Array.size_modify]; exact hlt), Array.getElem_modify_self, hk]
  rfl
theorem SA.set3 {w : World} {B m1 m2 : Nat} {ids : List (ByteArray × Int)} {ents : List (Int × (ByteArray × Int))} {g tot : Int} (h : SA w B m1 m2 ids ents g tot) (t' : Int) : SA (w.setCell ⟨B, 3, none⟩ (.int .i64 t')) B m1 m2 ids ents g t' := by
  refine ⟨?_, h.h1.of_heap (Below.heap_setCell _ _ _ _ (Ne.symm h.b1)), h.h2.of_heap (Below.heap_setCell _ _ _ _ (Ne.symm h.b2)), h.ne⟩
  have hb := h.blk
  obtain ⟨hlt, hk⟩ := Array.getElem?_eq_some_iff.1 hb
  show (w.heap.modify B _)[B]? = _
  rw [Array.getElem?_eq_getElem (by rw [Array.size_modify]; exact hlt), Array.getElem_modify_self, hk]
  rfl

set_option maxHeartbeats 400000 in
theorem put_new {B m1 m2 : Nat} {ids : List (ByteArray × Int)} {ents : List (Int × (ByteArray × Int))} {g tot : Int} (w : World) (h : SA w B m1 m2 ids ents g tot) (s : ByteArray) (hs : s.size ≤ 2048)
    (hid : get ids s = none) (hg0 : 0 ≤ g) (hg1 : g ≤ 1000000000000) (ht0 : 0 ≤ tot) (ht1 : tot ≤ 1000000000000) (hx : get ents (g + 1) = none) :
    Calls Try.prog 13 #[.pointer (some ⟨B, 0, none⟩), .string s] w fun e w' => e = .returned (.tuple #[.int .i64 (g + 1), .int .i64 0]) ∧ SA w' B m1 m2 (put ids s (g + 1)) (put ents (g + 1) (s, 1)) (g + 1) (tot + s.size) ∧ Only [B, m1, m2] w w' := by
  have c0 := h.c0
  have c1 := h.c1
  have c2 := h.c2
  have f2 := h.f 2
  have hl := lookI h s
  rw [hid] at hl
  simp only [Option.getD_none, Option.isSome_none] at hl
  have s1 := h.set2 (g + 1)
  have O1 : Only [B, m1, m2] w (w.setCell ⟨B, 2, none⟩ (.int .i64 (g + 1))) := Only.setCell _ _ _ (by simp)
  obtain ⟨o1, hu1, hm1⟩ := run_update (str_emb u9) u54 s1.h1 s (g + 1)
  have s2 := s1.putIds hm1
  have O2 := O1.trans (Only.putObj (bs := [B, m1, m2]) (w.setCell ⟨B, 2, none⟩ (.int .i64 (g + 1))) m1 o1 (by simp))
  replace hu1 : (Instr.mapUpdate 54 (.map (some m1)) (.string s) (.int .i64 (g + 1))).run Try.prog (w.setCell ⟨B, 2, none⟩ (.int .i64 (g + 1))) = .ok () ((w.setCell ⟨B, 2, none⟩ (.int .i64 (g + 1))).putObj m1 o1) := hu1
  generalize ((w.setCell ⟨B, 2, none⟩ (.int .i64 (g + 1))).putObj m1 o1) = W2 at *
  have d0 := s2.c0
  have d1 := s2.c1
  have d3 := s2.c3
  have e3 := s2.f 3
  have s3 := (s2.set3 (tot + s.size)).drew
  have O3 := (O2.trans (Only.setCell (bs := [B, m1, m2]) W2 ⟨B, 3, none⟩ (.int .i64 (tot + s.size)) (by simp))).trans (Only.drew [B, m1, m2] _)
  obtain ⟨⟨xs, xn⟩, hx', hl2⟩ := look1 s3 (g + 1)
  rw [hx] at hx'
  simp only [Option.getD_none, Prod.mk.injEq] at hx'
  obtain ⟨rfl, rfl⟩ := hx'
  obtain ⟨o, hu, hm⟩ := run_update (int_emb u3) u55 s3.h2 (g + 1) (s, 1)
  have HA := Lib.hid (s3.putEnts hm)
  have HO := Lib.hid (O3.trans (Only.putObj (bs := [B, m1, m2]) _ m2 o (by simp)))
  replace hu : (Instr.mapUpdate 55 (.map (some m2)) (.int .i64 (g + 1)) (.agg #[.string s, .int .i64 1])).run Try.prog (W2.setCell ⟨B, 3, none⟩ (.int .i64 (tot + s.size))).drew = .ok () ((W2.setCell ⟨B, 3, none⟩ (.int .i64 (tot + s.size))).drew.putObj m2 o) := hu
  have hd : ¬ (2048 : Int) < s.size := by omega
  have fl := fld1
  clear hid hx h hm s1 s2 s3 hm1 O1 O2 O3
  go_enter Try.func13, Try.ntmps13
  go_wp2_with (go_at_call 28; refine (made_yes _ _ _ c0).mono ?_; rintro e w' ⟨rfl, rfl⟩)
  go_region
  go_wp2
  go_ret2
  exact ⟨rfl, HA.out, HO.out⟩

end Go.Proofs.Ytfgnagnnmibmaaa
