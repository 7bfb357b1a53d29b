/- done: one call of both stores gives the same, and leaves both over the same list. -/
import Derived.Test.YtfgnagnnmibmaaaBoth
import Derived.Deep.RegionWith
namespace Go.Proofs.Ytfgnagnnmibmaaa
open Go.RowKit Go.Mp

section
variable {n0 B m1 m2 base R : Nat} {L1 L2 : List Blob} {g1 g2 : Int} {n : Nat}
theorem two_put1 (w : World) (h : Two n0 w B m1 m2 base R L1 g1 L2 g2) (hi : Inv L1 g1 n) (hn : n ≤ 1000000) (s : ByteArray) (hs : s.size ≤ 9223372036854775807) :
    Calls Try.prog 13 #[.pointer (some ⟨B, 0, none⟩), .string s] w fun e w' => e = .returned (.tuple #[.int .i64 (putF L1 g1 s).1, .int .i64 (putF L1 g1 s).2.1]) ∧ Two n0 w' B m1 m2 base R (putF L1 g1 s).2.2.1 (putF L1 g1 s).2.2.2 L2 g2 ∧ Fr n0 w w' :=
  (real_put w h.real hi hn s hs).mono fun _ _ ⟨h1, h2, h3⟩ => ⟨h1, (h.left h2 h3).1, (h.left h2 h3).2⟩
theorem two_keep1 (w : World) (h : Two n0 w B m1 m2 base R L1 g1 L2 g2) (hi : Inv L1 g1 n) (hn : n ≤ 1000000) (id : Int) :
    Calls Try.prog 14 #[.pointer (some ⟨B, 0, none⟩), .int .i64 id] w fun e w' => e = .returned (.int .i64 (chF L1 id 1).1) ∧ Two n0 w' B m1 m2 base R (chF L1 id 1).2 g1 L2 g2 ∧ Fr n0 w w' :=
  (real_keep w h.real hi hn id).mono fun _ _ ⟨h1, h2, h3⟩ => ⟨h1, (h.left h2 h3).1, (h.left h2 h3).2⟩
theorem two_drop1 (w : World) (h : Two n0 w B m1 m2 base R L1 g1 L2 g2) (hi : Inv L1 g1 n) (hn : n ≤ 1000000) (id : Int) :
    Calls Try.prog 17 #[.pointer (some ⟨B, 0, none⟩), .int .i64 id] w fun e w' => e = .returned (.int .i64 (chF L1 id (-1)).1) ∧ Two n0 w' B m1 m2 base R (chF L1 id (-1)).2 g1 L2 g2 ∧ Fr n0 w w' :=
  (real_drop w h.real hi hn id).mono fun _ _ ⟨h1, h2, h3⟩ => ⟨h1, (h.left h2 h3).1, (h.left h2 h3).2⟩
theorem two_put2 (w : World) (h : Two n0 w B m1 m2 base R L1 g1 L2 g2) (hi : Inv L2 g2 n) (hn : n ≤ 1000000) (s : ByteArray) (hs : s.size ≤ 9223372036854775807) :
    Calls Try.prog 25 #[.pointer (some ⟨R, 0, none⟩), .string s] w fun e w' => e = .returned (.tuple #[.int .i64 (putF L2 g2 s).1, .int .i64 (putF L2 g2 s).2.1]) ∧ Two n0 w' B m1 m2 base R L1 g1 (putF L2 g2 s).2.2.1 (putF L2 g2 s).2.2.2 ∧ Fr n0 w w' := by
  obtain ⟨v, hv⟩ := h.ref
  exact (ref_put w hv h.r1 hi hn s hs).mono fun _ _ ⟨h1, h2, h3⟩ => ⟨h1, (h.right hv h2 h3).1, (h.right hv h2 h3).2⟩
theorem two_keep2 (w : World) (h : Two n0 w B m1 m2 base R L1 g1 L2 g2) (hi : Inv L2 g2 n) (hn : n ≤ 1000000) (id : Int) :
    Calls Try.prog 26 #[.pointer (some ⟨R, 0, none⟩), .int .i64 id] w fun e w' => e = .returned (.int .i64 (chF L2 id 1).1) ∧ Two n0 w' B m1 m2 base R L1 g1 (chF L2 id 1).2 g2 ∧ Fr n0 w w' := by
  obtain ⟨v, hv⟩ := h.ref
  exact (ref_keep w hv hi hn id).mono fun _ _ ⟨h1, h2, h3⟩ => ⟨h1, (h.right hv h2 h3).1, (h.right hv h2 h3).2⟩
theorem two_drop2 (w : World) (h : Two n0 w B m1 m2 base R L1 g1 L2 g2) (hi : Inv L2 g2 n) (hn : n ≤ 1000000) (id : Int) :
    Calls Try.prog 27 #[.pointer (some ⟨R, 0, none⟩), .int .i64 id] w fun e w' => e = .returned (.int .i64 (chF L2 id (-1)).1) ∧ Two n0 w' B m1 m2 base R L1 g1 (chF L2 id (-1)).2 g2 ∧ Fr n0 w w' := by
  obtain ⟨v, hv⟩ := h.ref
  exact (ref_drop w hv h.r1 hi hn id).mono fun _ _ ⟨h1, h2, h3⟩ => ⟨h1, (h.right hv h2 h3).1, (h.right hv h2 h3).2⟩
end

def Went (n0 : Nat) (w : World) (B m1 m2 base R : Nat) (n : Nat) (e : Ending) (w' : World) : Prop :=
  e = .returned (.bool true) ∧ (∃ L g, Two n0 w' B m1 m2 base R L g L g ∧ Inv L g (n + 1)) ∧ Fr n0 w w'

theorem Fr.cell {n0 : Nat} {w w' : World} (h : Fr n0 w w') {k : Nat} {vs : Array Value} {t : TypeId} (hk : w.heap[k]? = some (.cells vs t (0, 0))) (ht : t ≠ 57 ∧ t ≠ 32 ∧ t ≠ 37) (j : Nat) : w'.cell? ⟨k, j, none⟩ = vs[j]? := by
  have := h.oth k vs t (0, 0) hk ht.1 ht.2.1 ht.2.2
  simp [World.cell?, this]

theorem beq_self (a : Int) : (a == a) = true := by simp

set_option maxHeartbeats 400000 in
theorem done_put {n0 B m1 m2 base R : Nat} {L : List Blob} {g : Int} {n : Nat} (w : World) (h : Two n0 w B m1 m2 base R L g L g) (hi : Inv L g n) (hn : n ≤ 1000000) (x : Int) (s : ByteArray) (id : Int) (hx0 : 0 ≤ x) (hx1 : x ≤ 255) (hx : (x % 3 == 0) = true) (hs : s.size ≤ 9223372036854775807) :
    Calls Try.prog 12 #[.pointer (some ⟨B, 0, none⟩), .pointer (some ⟨R, 0, none⟩), .agg #[.int .u8 x, .string s, .int .i64 id]] w (Went n0 w B m1 m2 base R n) := by
  have hz := h.z0
  have hb0 := (Below.refl w.heap.size w).alloc (Nat.le_refl _) (.cells #[.int .u8 x, .string s, .int .i64 id] 35)
  have h1 := Two.below h hb0
  have F0 := Fr.of_below hb0 hz
  have hcell := World.alloc_heap_new w (.cells #[.int .u8 x, .string s, .int .i64 id] 35)
  have HC := Lib.hid hcell
  have hI := inv_put hi s
  clear h hcell hb0
  go_enter Try.func12, Try.ntmps12
  go_wp2_with fail
  refine (two_put1 _ h1 hi hn s hs).mono ?_
  rintro e w1 ⟨rfl, t1, f1⟩
  have k1 := f1.cell HC.out (by decide) 1
  simp only [List.getElem?_toArray, List.getElem?_cons_zero, List.getElem?_cons_succ] at k1
  go_wp2_with fail
  refine (two_put2 _ t1 hi hn s hs).mono ?_
  rintro e w2 ⟨rfl, t2, f2⟩
  go_wp2
  go_ret
  exact ⟨rfl, ⟨_, _, t2, hI⟩, (F0.trans f1).trans f2⟩

set_option maxHeartbeats 400000 in
theorem done_keep {n0 B m1 m2 base R : Nat} {L : List Blob} {g : Int} {n : Nat} (w : World) (h : Two n0 w B m1 m2 base R L g L g) (hi : Inv L g n) (hn : n ≤ 1000000) (x : Int) (s : ByteArray) (id : Int) (hx0 : 0 ≤ x) (hx1 : x ≤ 255) (hx : (x % 3 == 0) = false) (hx' : (x % 3 == 1) = true) :
    Calls Try.prog 12 #[.pointer (some ⟨B, 0, none⟩), .pointer (some ⟨R, 0, none⟩), .agg #[.int .u8 x, .string s, .int .i64 id]] w (Went n0 w B m1 m2 base R n) := by
  have hz := h.z0
  have hb0 := (Below.refl w.heap.size w).alloc (Nat.le_refl _) (.cells #[.int .u8 x, .string s, .int .i64 id] 35)
  have h1 := Two.below h hb0
  have h1' : Two n0 (w.alloc (.cells #[.int .u8 x, .string s, .int .i64 id] 35)).drew B m1 m2 base R L g L g := Two.below h1 ((Below.refl _ _).drew)
  have F0 := (Fr.of_below hb0 hz).trans (Fr.of_below ((Below.refl _ _).drew) (by simp; omega))
  have hcell : (w.alloc (.cells #[.int .u8 x, .string s, .int .i64 id] 35)).drew.heap[w.heap.size]? = _ := World.alloc_heap_new w (.cells #[.int .u8 x, .string s, .int .i64 id] 35)
  have HC := Lib.hid hcell
  have hI := inv_ch hi id 1 (by omega)
  clear h hcell hb0 h1
  go_enter Try.func12, Try.ntmps12
  go_wp2_with fail
  go_region_with (first
    | (go_at_call 14; refine (two_keep1 _ (by assumption) hi hn id).mono ?_; rintro e w1 ⟨rfl, t1, f1⟩; (try (have k1 := f1.cell HC.out (by decide) 2; simp only [List.getElem?_toArray, List.getElem?_cons_zero, List.getElem?_cons_succ] at k1)))
    | (go_at_call 26; refine (two_keep2 _ (by assumption) hi hn id).mono ?_; rintro e w2 ⟨rfl, t2, f2⟩; (try (have k2 := f2.cell HC.out (by decide) 2; simp only [List.getElem?_toArray, List.getElem?_cons_zero, List.getElem?_cons_succ] at k2))))
  all_goals (go_wp2; go_ret; first | exact ⟨rfl, ⟨_, _, t2, hI⟩, (F0.trans f1).trans f2⟩ | exact ⟨rfl, ⟨_, _, t1, hI⟩, (F0.trans f2).trans f1⟩)

set_option maxHeartbeats 400000 in
theorem done_drop {n0 B m1 m2 base R : Nat} {L : List Blob} {g : Int} {n : Nat} (w : World) (h : Two n0 w B m1 m2 base R L g L g) (hi : Inv L g n) (hn : n ≤ 1000000) (x : Int) (s : ByteArray) (id : Int) (hx0 : 0 ≤ x) (hx1 : x ≤ 255) (hx : (x % 3 == 0) = false) (hx' : (x % 3 == 1) = false) :
    Calls Try.prog 12 #[.pointer (some ⟨B, 0, none⟩), .pointer (some ⟨R, 0, none⟩), .agg #[.int .u8 x, .string s, .int .i64 id]] w (Went n0 w B m1 m2 base R n) := by
  have hz := h.z0
  have hb0 := (Below.refl w.heap.size w).alloc (Nat.le_refl _) (.cells #[.int .u8 x, .string s, .int .i64 id] 35)
  have h1 := Two.below h hb0
  have h1' : Two n0 (w.alloc (.cells #[.int .u8 x, .string s, .int .i64 id] 35)).drew B m1 m2 base R L g L g := Two.below h1 ((Below.refl _ _).drew)
  have F0 := (Fr.of_below hb0 hz).trans (Fr.of_below ((Below.refl _ _).drew) (by simp; omega))
  have hcell : (w.alloc (.cells #[.int .u8 x, .string s, .int .i64 id] 35)).drew.heap[w.heap.size]? = _ := World.alloc_heap_new w (.cells #[.int .u8 x, .string s, .int .i64 id] 35)
  have HC := Lib.hid hcell
  have hI := inv_ch hi id (-1) (by omega)
  clear h hcell hb0 h1
  go_enter Try.func12, Try.ntmps12
  go_wp2_with fail
  go_region_with (first
    | (go_at_call 17; refine (two_drop1 _ (by assumption) hi hn id).mono ?_; rintro e w1 ⟨rfl, t1, f1⟩; (try (have k1 := f1.cell HC.out (by decide) 2; simp only [List.getElem?_toArray, List.getElem?_cons_zero, List.getElem?_cons_succ] at k1)))
    | (go_at_call 27; refine (two_drop2 _ (by assumption) hi hn id).mono ?_; rintro e w2 ⟨rfl, t2, f2⟩; (try (have k2 := f2.cell HC.out (by decide) 2; simp only [List.getElem?_toArray, List.getElem?_cons_zero, List.getElem?_cons_succ] at k2))))
  all_goals (go_wp2; go_ret; first | exact ⟨rfl, ⟨_, _, t2, hI⟩, (F0.trans f1).trans f2⟩ | exact ⟨rfl, ⟨_, _, t1, hI⟩, (F0.trans f2).trans f1⟩)

theorem done_any {n0 B m1 m2 base R : Nat} {L : List Blob} {g : Int} {n : Nat} (w : World) (h : Two n0 w B m1 m2 base R L g L g) (hi : Inv L g n) (hn : n ≤ 1000000) (x : Int) (s : ByteArray) (id : Int) (hx0 : 0 ≤ x) (hx1 : x ≤ 255) (hs : s.size ≤ 9223372036854775807) :
    Calls Try.prog 12 #[.pointer (some ⟨B, 0, none⟩), .pointer (some ⟨R, 0, none⟩), .agg #[.int .u8 x, .string s, .int .i64 id]] w (Went n0 w B m1 m2 base R n) := by
  cases h0 : (x % 3 == 0)
  · cases h1 : (x % 3 == 1)
    · exact done_drop w h hi hn x s id hx0 hx1 h0 h1
    · exact done_keep w h hi hn x s id hx0 hx1 h0 h1
  · exact done_put w h hi hn x s id hx0 hx1 h0 hs

end Go.Proofs.Ytfgnagnnmibmaaa
