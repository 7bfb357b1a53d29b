/- FragsCodes: the walk. -/
import Derived.Test.YtbddggdbhfmlnaaCodeF
import Derived.Test.YtbddggdbhfmlnaaAwake
import Derived.Below
import Derived.Lib.SmallJoins
namespace Go.Proofs.Ytbddggdbhfmlnaa
open Go.RowKit Go.Rt Go.Rw Go.Mp Go.Lib

/-- What Put hands back. -/
def putF (id : Int) (fi : Bool) (left : Int) (data : ByteArray) : ByteArray × Int :=
  if validB id left data = true then (encF fi id.toNat left.toNat data, 0) else (ByteArray.empty, 2)
theorem put_any (id left : Int) (fi : Bool) (data : ByteArray) (w : World) (hs : data.size ≤ 9223372036854775807) :
    Calls Try.prog 21 #[.agg #[.int .i64 id, .bool fi, .int .i64 left, .string data]] w fun e w' => e = .returned (.tuple #[.string (putF id fi left data).1, .int .i64 (putF id fi left data).2]) ∧ Below w.heap.size w w' := by
  unfold putF
  cases hv : validB id left data
  · exact put_bad id left fi data w hs hv
  · obtain ⟨g1, g2, g3, g4, g5⟩ := valid_of hv
    obtain ⟨i, rfl⟩ := Int.eq_ofNat_of_zero_le (show 0 ≤ id by omega)
    obtain ⟨l, rfl⟩ := Int.eq_ofNat_of_zero_le (show 0 ≤ left by omega)
    exact put_ok i l fi data w hv
theorem rput_any (id left : Int) (fi : Bool) (data : ByteArray) (w : World) (hs : data.size ≤ 9223372036854775807) :
    Calls Try.prog 22 #[.agg #[.int .i64 id, .bool fi, .int .i64 left, .string data]] w fun e w' => e = .returned (.tuple #[.string (putF id fi left data).1, .int .i64 (putF id fi left data).2]) ∧ Below w.heap.size w w' := by
  unfold putF
  cases hv : validB id left data
  · exact rput_bad id left fi data w hs hv
  · obtain ⟨g1, g2, g3, g4, g5⟩ := valid_of hv
    obtain ⟨i, rfl⟩ := Int.eq_ofNat_of_zero_le (show 0 ≤ id by omega)
    obtain ⟨l, rfl⟩ := Int.eq_ofNat_of_zero_le (show 0 ≤ left by omega)
    exact rput_ok i l fi data w hv

set_option maxRecDepth 100000 in
set_option maxHeartbeats 1000000 in
theorem codes_walk (id left : Int) (fi : Bool) (data s : ByteArray) (w : World) (hd : data.size ≤ 9223372036854775807) (hs : s.size ≤ 9223372036854775807) :
    Calls Try.prog 9 #[.agg #[.int .i64 id, .bool fi, .int .i64 left, .string data], .string s] w fun e w' => e = .returned (.bool true) ∧ Below w.heap.size w w' := by
  have HA := Lib.hid awake_any
  by_cases h1 : 10000 < data.size
  · have h1' : (10000 : Int) < data.size := by omega
    go_enter Try.func9, Try.ntmps9
    go_wp2_with fail
    refine (HA.out _).mono ?_
    rintro e w1 ⟨rfl, b1⟩
    have B1 := Lib.hid b1
    clear b1
    go_wp2_with fail
    go_ret
    exact ⟨rfl, ((Below.refl _ w).alloc (Nat.le_refl _) _).trans (B1.out.mono (by simp))⟩
  · by_cases h2 : 10000 < s.size
    · have h1' : ¬ (10000 : Int) < data.size := by omega
      have h2' : (10000 : Int) < s.size := by omega
      go_enter Try.func9, Try.ntmps9
      go_wp2_with fail
      refine (HA.out _).mono ?_
      rintro e w1 ⟨rfl, b1⟩
      have B1 := Lib.hid b1
      clear b1
      go_wp2_with fail
      go_ret
      exact ⟨rfl, ((Below.refl _ w).alloc (Nat.le_refl _) _).trans (B1.out.mono (by simp))⟩
    · have h1' : ¬ (10000 : Int) < data.size := by omega
      have h2' : ¬ (10000 : Int) < s.size := by omega
      have HP := Lib.hid (fun w => put_any id left fi data w hd)
      have HR := Lib.hid (fun w => rput_any id left fi data w hd)
      have HG := Lib.hid (fun w => get_any s w hs)
      have HQ := Lib.hid (fun w => rget_any s w hs)
      obtain ⟨⟨pa, pe⟩, hp⟩ : ∃ p, p = putF id fi left data := ⟨_, rfl⟩
      obtain ⟨⟨⟨ga, gb, gc, gd⟩, ge⟩, hg⟩ : ∃ p, p = getF s := ⟨_, rfl⟩
      rw [← hp] at HP HR
      rw [← hg] at HG HQ
      clear hp hg
      have q2 : (pe == pe) = true := beq_self_eq_true _
      have q3 : (ga == ga) = true := beq_self_eq_true _
      have q4 : (gb == gb) = true := beq_self_eq_true _
      have q5 : (gc == gc) = true := beq_self_eq_true _
      have q7 : (ge == ge) = true := beq_self_eq_true _
      go_enter Try.func9, Try.ntmps9
      go_wp2_with fail
      have HX := Lib.hid (World.alloc_heap_new w (.cells #[.int .i64 id, .bool fi, .int .i64 left, .string data] 30))
      refine (HP.out _).mono ?_
      rintro e w1 ⟨rfl, b1⟩
      have B1 : Hid (Below w.heap.size w w1) := Lib.hid (((Below.refl _ w).alloc (Nat.le_refl _) _).trans (b1.mono (by simp)))
      have qR := (b1.block w.heap.size (by simp)).trans HX.out
      have v0 := cell_at qR 0
      have v1 := cell_at qR 1
      have v2 := cell_at qR 2
      have v3 := cell_at qR 3
      simp only [List.getElem?_toArray, List.getElem?_cons_zero, List.getElem?_cons_succ] at v0 v1 v2 v3
      have szR := (Array.getElem?_eq_some_iff.1 qR).1
      clear b1 qR HX
      go_wp2_with fail
      refine (HR.out _).mono ?_
      rintro e w2 ⟨rfl, b2⟩
      have B2 : Hid (Below w.heap.size w w2) := Lib.hid (B1.out.trans (b2.mono (by omega)))
      clear b2 v0 v1 v2 v3 szR B1
      go_wp2_with fail
      refine (HG.out _).mono ?_
      rintro e w3 ⟨rfl, b3⟩
      have B3 : Hid (Below w.heap.size w w3) := Lib.hid (B2.out.trans (b3.mono B2.out.size))
      clear b3 B2
      go_wp2_with fail
      have HX := Lib.hid (World.alloc_heap_new w3 (.cells #[.int .i64 ga, .bool gb, .int .i64 gc, .string gd] 30))
      have sz3 := B3.out.size
      refine (HQ.out _).mono ?_
      rintro e w4 ⟨rfl, b4⟩
      have B4 : Hid (Below w.heap.size w w4) := Lib.hid (B3.out.trans (((Below.refl _ w3).alloc sz3 _).trans (b4.mono (by simp; omega))))
      have qR := (b4.block w3.heap.size (by simp)).trans HX.out
      have v0 := cell_at qR 0
      have v1 := cell_at qR 1
      have v2 := cell_at qR 2
      have v3 := cell_at qR 3
      simp only [List.getElem?_toArray, List.getElem?_cons_zero, List.getElem?_cons_succ] at v0 v1 v2 v3
      have szR := (Array.getElem?_eq_some_iff.1 qR).1
      have sz4 := B4.out.size
      clear b4 B3 HX qR
      go_wp2_with fail
      refine (HA.out _).mono ?_
      rintro e w5 ⟨rfl, b5⟩
      have B5 : Hid (Below w.heap.size w w5) := Lib.hid (B4.out.trans (((Below.refl _ w4).alloc sz4 _).trans (b5.mono (by simp; omega))))
      clear b5 B4
      go_wp2_with fail
      go_ret
      exact ⟨rfl, B5.out⟩
end Go.Proofs.Ytbddggdbhfmlnaa
