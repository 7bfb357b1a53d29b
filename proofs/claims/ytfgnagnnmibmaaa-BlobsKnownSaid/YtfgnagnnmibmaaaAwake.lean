/- Keep, Drop, and the law package's own small check. -/
import Derived.Test.YtfgnagnnmibmaaaChange
namespace Go.Proofs.Ytfgnagnnmibmaaa
open Go.RowKit Go.Mp

theorem keep_of {p : Option Addr} {w : World} {id : Int} {R : Ending → World → Prop} (h : Calls Try.prog 29 #[.pointer p, .int .i64 id, .int .i64 1] w fun e w' => (∃ n, e = .returned (.int .i64 n)) ∧ R e w') : Calls Try.prog 14 #[.pointer p, .int .i64 id] w R := by
  have H := Lib.hid h
  clear h
  go_enter Try.func14, Try.ntmps14
  go_wp2_with (go_at_call 29; refine H.out.mono ?_; rintro e w' ⟨⟨n, rfl⟩, hr⟩; have HR := Lib.hid hr; clear hr)
  exact HR.out
theorem drop_of {p : Option Addr} {w : World} {id : Int} {R : Ending → World → Prop} (h : Calls Try.prog 29 #[.pointer p, .int .i64 id, .int .i64 (-1)] w fun e w' => (∃ n, e = .returned (.int .i64 n)) ∧ R e w') : Calls Try.prog 17 #[.pointer p, .int .i64 id] w R := by
  have H := Lib.hid h
  clear h
  go_enter Try.func17, Try.ntmps17
  go_wp2_with (go_at_call 29; refine H.out.mono ?_; rintro e w' ⟨⟨n, rfl⟩, hr⟩; have HR := Lib.hid hr; clear hr)
  exact HR.out

theorem Only.below {bs : List Nat} {n : Nat} {w w' : World} (h : Only bs w w') (hb : ∀ b ∈ bs, n ≤ b) (hn : n ≤ w.heap.size) : Below n w w' :=
  ⟨h.os, h.tape, h.output, h.size, fun k hk => h.block k (by omega) (fun hm => by have := hb k hm; omega)⟩
theorem SA.below {w w' : World} {B m1 m2 : Nat} {ids : List (ByteArray × Int)} {ents : List (Int × (ByteArray × Int))} {g tot : Int} (h : SA w B m1 m2 ids ents g tot) (hb : Below w.heap.size w w') : SA w' B m1 m2 ids ents g tot :=
  ⟨(hb.block _ h.lt).trans h.blk, h.h1.of_heap (hb.block _ h.h1.lt), h.h2.of_heap (hb.block _ h.h2.lt), h.ne⟩

def AB : ByteArray := ⟨#[97, 98]⟩
theorem ab_size : AB.size = 2 := rfl

theorem aw1 {w : World} {B m1 m2 : Nat} (h : SA w B m1 m2 [] [] 0 0) : Calls Try.prog 13 #[.pointer (some ⟨B, 0, none⟩), .string AB] w fun e w' => e = .returned (.tuple #[.int .i64 1, .int .i64 0]) ∧ SA w' B m1 m2 [(AB, 1)] [(1, (AB, 1))] 1 2 ∧ Only [B, m1, m2] w w' :=
  put_new _ h AB (by decide) rfl (by omega) (by omega) (by omega) (by omega) rfl
theorem aw2 {w : World} {B m1 m2 : Nat} (h : SA w B m1 m2 [(AB, 1)] [(1, (AB, 1))] 1 2) : Calls Try.prog 13 #[.pointer (some ⟨B, 0, none⟩), .string AB] w fun e w' => e = .returned (.tuple #[.int .i64 1, .int .i64 0]) ∧ SA w' B m1 m2 [(AB, 1)] [(1, (AB, 2))] 1 2 ∧ Only [B, m1, m2] w w' :=
  put_old _ h AB (by decide) 1 (by simp [Mp.get]) 1 (AB, 1) (by simp [Mp.get]) rfl (by omega) (by omega)
theorem aw3 {w : World} {B m1 m2 : Nat} {c : Int} (h : SA w B m1 m2 [(AB, 1)] [(1, (AB, c))] 1 2) : Calls Try.prog 15 #[.pointer (some ⟨B, 0, none⟩), .int .i64 1] w fun e w' => e = .returned (.int .i64 c) ∧ w = w' :=
  count_any _ h 1
theorem aw4 {w : World} {B m1 m2 : Nat} {c : Int} (h : SA w B m1 m2 [(AB, 1)] [(1, (AB, c))] 1 2) : Calls Try.prog 16 #[.pointer (some ⟨B, 0, none⟩), .int .i64 1] w fun e w' => e = .returned (.tuple #[.string AB, .bool true]) ∧ Below w.heap.size w w' :=
  get_any _ h 1
theorem aw5 {w : World} {B m1 m2 : Nat} (h : SA w B m1 m2 [(AB, 1)] [(1, (AB, 2))] 1 2) : Calls Try.prog 17 #[.pointer (some ⟨B, 0, none⟩), .int .i64 1] w fun e w' => e = .returned (.int .i64 0) ∧ SA w' B m1 m2 [(AB, 1)] [(1, (AB, 1))] 1 2 ∧ Only [B, m1, m2] w w' :=
  drop_of ((change_more _ h 1 (-1) AB 2 (by simp [Mp.get]) (by omega) (by omega) (by omega) (by omega) (by omega)).mono fun e w' h => ⟨⟨_, h.1⟩, h⟩)

set_option maxHeartbeats 400000 in
theorem awake_any (w : World) : Calls Try.prog 10 #[] w fun e w' => e = .returned (.bool true) ∧ Below w.heap.size w w' := by
  have eAB : (⟨#[97, 98]⟩ : ByteArray) = AB := rfl
  go_enter Try.func10, Try.ntmps10
  go_wp2_with fail
  refine (new_any _).mono ?_
  rintro e w1 ⟨rfl, s1, b1⟩
  have S1 := Lib.hid s1
  have B1 := Lib.hid b1
  clear s1 b1
  go_wp2_with fail
  refine (aw1 S1.out).mono ?_
  rintro e w2 ⟨rfl, s2, o2⟩
  have S2 := Lib.hid s2
  have O2 := Lib.hid o2
  clear s2 o2
  go_wp2_with fail
  refine (aw2 S2.out).mono ?_
  rintro e w3 ⟨rfl, s3, o3⟩
  have S3 := Lib.hid s3
  have O3 := Lib.hid o3
  clear s3 o3
  go_wp2_with fail
  refine (aw3 S3.out).mono ?_
  rintro e w' ⟨rfl, rfl⟩
  go_wp2_with fail
  refine (aw4 S3.out).mono ?_
  rintro e w4 ⟨rfl, b4⟩
  have S4 := Lib.hid (S3.out.below b4)
  have B4 := Lib.hid b4
  clear b4
  go_wp2_with fail
  refine (aw5 S4.out).mono ?_
  rintro e w5 ⟨rfl, s5, o5⟩
  have S5 := Lib.hid s5
  have O5 := Lib.hid o5
  clear s5 o5
  go_wp2_with fail
  refine (aw3 S5.out).mono ?_
  rintro e w' ⟨rfl, rfl⟩
  go_wp2
  go_ret
  refine ⟨rfl, ?_⟩
  have z1 := B1.out.size
  have z2 := O2.out.size
  have z3 := O3.out.size
  have z4 := B4.out.size
  have hb : ∀ b ∈ [w.heap.size + 2, w.heap.size, w.heap.size + 1], w.heap.size ≤ b := by simp
  exact (((B1.out.trans (O2.out.below hb z1)).trans (O3.out.below hb (by omega))).trans (B4.out.mono (by omega))).trans (O5.out.below hb (by omega))

end Go.Proofs.Ytfgnagnnmibmaaa
