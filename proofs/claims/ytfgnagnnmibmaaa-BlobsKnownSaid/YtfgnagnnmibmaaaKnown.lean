/- The walk of BlobsKnown: the examples. -/
import Derived.Test.YtfgnagnnmibmaaaZeros
namespace Go.Proofs.Ytfgnagnnmibmaaa
open Go.RowKit Go.Mp Go.Rw

/-- One store, made since block n0. -/
structure One (n0 : Nat) (w : World) (B m1 m2 : Nat) (L : List Blob) (g : Int) (n : Nat) : Prop where
  real : SL w B m1 m2 L g
  inv : Inv L g n
  b0 : n0 ≤ B
  b1 : n0 ≤ m1
  b2 : n0 ≤ m2
  z0 : n0 ≤ w.heap.size

section
variable {n0 B m1 m2 n : Nat} {L : List Blob} {g : Int}
theorem One.only {w w' : World} {L' : List Blob} {g' : Int} {n' : Nat} (h : One n0 w B m1 m2 L g n) (hs : SL w' B m1 m2 L' g') (hi : Inv L' g' n') (ho : Only [B, m1, m2] w w') : One n0 w' B m1 m2 L' g' n' ∧ Below n0 w w' := by
  have hz := ho.size
  have h0 := h.z0
  have h1 := h.b0
  have h2 := h.b1
  have h3 := h.b2
  exact ⟨⟨hs, hi, h1, h2, h3, by omega⟩, ho.below (by simp; omega) h0⟩
theorem One.below {w w' : World} (h : One n0 w B m1 m2 L g n) (hb : Below w.heap.size w w') : One n0 w' B m1 m2 L g n := by
  have hz := hb.size
  have h0 := h.z0
  exact ⟨SA.below h.real hb, h.inv, h.b0, h.b1, h.b2, by omega⟩
theorem one_put (w : World) (h : One n0 w B m1 m2 L g n) (hn : n ≤ 1000) (s : ByteArray) (hs : s.size ≤ 9223372036854775807) {r e g' : Int} {L' : List Blob} (hF : putF L g s = (r, e, L', g')) :
    Calls Try.prog 13 #[.pointer (some ⟨B, 0, none⟩), .string s] w fun x w' => x = Ending.returned (.tuple #[.int .i64 r, .int .i64 e]) ∧ One n0 w' B m1 m2 L' g' (n + 1) ∧ Below n0 w w' := by
  have hI := inv_put h.inv s
  rw [hF] at hI
  have p := real_put w h.real h.inv (by omega) s hs
  rw [hF] at p
  exact p.mono fun x w' ⟨h1, h2, h3⟩ => ⟨h1, (h.only h2 hI h3).1, (h.only h2 hI h3).2⟩
theorem one_drop (w : World) (h : One n0 w B m1 m2 L g n) (hn : n ≤ 1000) (id : Int) {e : Int} {L' : List Blob} (hF : chF L id (-1) = (e, L')) :
    Calls Try.prog 17 #[.pointer (some ⟨B, 0, none⟩), .int .i64 id] w fun x w' => x = Ending.returned (.int .i64 e) ∧ One n0 w' B m1 m2 L' g (n + 1) ∧ Below n0 w w' := by
  have hI := inv_ch h.inv id (-1) (by omega)
  rw [hF] at hI
  have p := real_drop w h.real h.inv (by omega) id
  rw [hF] at p
  exact p.mono fun x w' ⟨h1, h2, h3⟩ => ⟨h1, (h.only h2 hI h3).1, (h.only h2 hI h3).2⟩
theorem one_keep (w : World) (h : One n0 w B m1 m2 L g n) (hn : n ≤ 1000) (id : Int) {e : Int} {L' : List Blob} (hF : chF L id 1 = (e, L')) :
    Calls Try.prog 14 #[.pointer (some ⟨B, 0, none⟩), .int .i64 id] w fun x w' => x = Ending.returned (.int .i64 e) ∧ One n0 w' B m1 m2 L' g (n + 1) ∧ Below n0 w w' := by
  have hI := inv_ch h.inv id 1 (by omega)
  rw [hF] at hI
  have p := real_keep w h.real h.inv (by omega) id
  rw [hF] at p
  exact p.mono fun x w' ⟨h1, h2, h3⟩ => ⟨h1, (h.only h2 hI h3).1, (h.only h2 hI h3).2⟩
theorem one_count (w : World) (h : One n0 w B m1 m2 L g n) (id : Int) {c : Int} (hF : cntF L id = c) :
    Calls Try.prog 15 #[.pointer (some ⟨B, 0, none⟩), .int .i64 id] w fun x w' => x = Ending.returned (.int .i64 c) ∧ w = w' := hF ▸ real_count w h.real h.inv id
theorem one_bytes (w : World) (h : One n0 w B m1 m2 L g n) {c : Int} (hF : totL L = c) :
    Calls Try.prog 21 #[.pointer (some ⟨B, 0, none⟩)] w fun x w' => x = Ending.returned (.int .i64 c) ∧ w = w' := hF ▸ real_bytes w h.real
end

def sAB : ByteArray := ⟨#[97, 98]⟩
def sC : ByteArray := ⟨#[99]⟩
theorem k1 : putF [] 0 sAB = (1, 0, [(1, sAB, 1)], 1) := by kernel_rfl
theorem k2 : putF [(1, sAB, 1)] 1 sC = (2, 0, [(1, sAB, 1), (2, sC, 1)], 2) := by kernel_rfl
theorem k3 : putF [(1, sAB, 1), (2, sC, 1)] 2 sAB = (1, 0, [(1, sAB, 2), (2, sC, 1)], 2) := by kernel_rfl
theorem k4 : cntF [(1, sAB, 2), (2, sC, 1)] 1 = 2 := by kernel_rfl
theorem k5 : totL [(1, sAB, 2), (2, sC, 1)] = 3 := by kernel_rfl
theorem k6 : chF [(1, sAB, 2), (2, sC, 1)] 1 (-1) = (0, [(1, sAB, 1), (2, sC, 1)]) := by kernel_rfl
theorem k7 : chF [(1, sAB, 1), (2, sC, 1)] 1 (-1) = (0, [(2, sC, 1)]) := by kernel_rfl
theorem k8 : chF [(2, sC, 1)] 1 (-1) = (4, [(2, sC, 1)]) := by kernel_rfl
theorem k9 : putF [(2, sC, 1)] 2 sAB = (3, 0, [(2, sC, 1), (3, sAB, 1)], 3) := by kernel_rfl
theorem k10 : chF [(2, sC, 1), (3, sAB, 1)] 0 1 = (4, [(2, sC, 1), (3, sAB, 1)]) := by kernel_rfl

set_option maxRecDepth 100000 in
set_option maxHeartbeats 1000000 in
theorem known_walk (w : World) : Calls Try.prog 8 #[] w fun e w' => e = .returned (.bool true) ∧ Below w.heap.size w w' := by
  have eAB : (⟨#[97, 98]⟩ : ByteArray) = sAB := rfl
  have eC : (⟨#[99]⟩ : ByteArray) = sC := rfl
  go_enter Try.func8, Try.ntmps8
  go_wp2_with fail
  refine (new_any _).mono ?_
  rintro e w1 ⟨rfl, s1, b1⟩
  have O1 : One w.heap.size w1 (w.heap.size + 2) w.heap.size (w.heap.size + 1) [] 0 0 := ⟨s1, inv_nil, by omega, by omega, by omega, b1.size⟩
  have B1 := Lib.hid b1
  clear s1 b1
  go_wp2_with fail
  refine (one_put _ O1 (by omega) sAB (by decide) k1).mono ?_
  rintro e w2 ⟨rfl, O2, b2⟩
  have B2 := Lib.hid (B1.out.trans b2)
  clear b2 O1
  go_wp2_with fail
  refine (one_put _ O2 (by omega) sC (by decide) k2).mono ?_
  rintro e w3 ⟨rfl, O3, b3⟩
  have B3 := Lib.hid (B2.out.trans b3)
  clear b3 O2
  go_wp2_with fail
  refine (one_put _ O3 (by omega) sAB (by decide) k3).mono ?_
  rintro e w4 ⟨rfl, O4, b4⟩
  have B4 := Lib.hid (B3.out.trans b4)
  clear b4 O3
  go_wp2_with fail
  refine (one_count _ O4 1 k4).mono ?_
  rintro e w' ⟨rfl, rfl⟩
  go_wp2_with fail
  refine (one_bytes _ O4 k5).mono ?_
  rintro e w' ⟨rfl, rfl⟩
  go_wp2_with fail
  refine (one_drop _ O4 (by omega) 1 k6).mono ?_
  rintro e w5 ⟨rfl, O5, b5⟩
  have B5 := Lib.hid (B4.out.trans b5)
  clear b5 O4
  go_wp2_with fail
  refine (one_drop _ O5 (by omega) 1 k7).mono ?_
  rintro e w6 ⟨rfl, O6, b6⟩
  have B6 := Lib.hid (B5.out.trans b6)
  clear b6 O5
  go_wp2_with fail
  refine (one_drop _ O6 (by omega) 1 k8).mono ?_
  rintro e w7 ⟨rfl, O7, b7⟩
  have B7 := Lib.hid (B6.out.trans b7)
  clear b7 O6
  go_wp2_with fail
  refine (one_put _ O7 (by omega) sAB (by decide) k9).mono ?_
  rintro e w8 ⟨rfl, O8, b8⟩
  have B8 := Lib.hid (B7.out.trans b8)
  clear b8 O7
  obtain ⟨W9, hmk, hcv, b9⟩ := make_zeros w8
  have O9 := O8.below b9
  have B9 := Lib.hid (B8.out.trans (b9.mono O8.z0))
  clear b9 O8
  go_wp2_with fail
  refine (one_put _ O9 (by omega) zeros (by rw [zeros_size]; omega) (put_zeros _ _)).mono ?_
  rintro e w10 ⟨rfl, O10, b10⟩
  have B10 := Lib.hid (B9.out.trans b10)
  clear b10 O9 hmk hcv
  go_wp2_with fail
  refine (real_ids _ O10.real O10.inv (by omega)).mono ?_
  rintro e w11 ⟨v11, rfl, s11, b11⟩
  have O11 := O10.below b11
  have B11 := Lib.hid (B10.out.trans (b11.mono O10.z0))
  have l := Sl.lit (base := w11.heap.size) (e := 3) (m := 1) (c := iv) w11 [2, 3] iv_len (Nat.le_refl _) (by decide)
  have bA : Below w11.heap.size w11 (w11.alloc (.cells ([2, 3].flatMap iv).toArray 3)) := (Below.refl _ w11).alloc (Nat.le_refl _) _
  have S1 := Lib.hid (SlAt.below (s11.at iv_len) bA)
  have S2 := Lib.hid (l.at iv_len)
  have O12 := O11.below bA
  have B12 := Lib.hid (B11.out.trans (bA.mono O11.z0))
  have sm := same_any (v1 := v11) (v2 := .slice (some ⟨w11.heap.size, 0, none⟩) 2 2) (w11.alloc (.cells #[.int .i64 2, .int .i64 3] 3)) S1.out S2.out (by decide)
  have SM := Lib.hid sm
  clear s11 b11 l bA S1 S2 O10 O11 sm
  go_wp2_with fail
  refine SM.out.mono ?_
  rintro e w13 ⟨rfl, b13⟩
  have O13 := O12.below b13
  have B13 := Lib.hid (B12.out.trans (b13.mono O12.z0))
  clear b13 O12
  go_wp2_with fail
  refine (one_keep _ O13 (by omega) 0 k10).mono ?_
  rintro e w14 ⟨rfl, O14, b14⟩
  have B14 := Lib.hid (B13.out.trans b14)
  clear b14 O13
  go_wp2_with fail
  refine (awake_any _).mono ?_
  rintro e w15 ⟨rfl, b15⟩
  have B15 := Lib.hid (B14.out.trans (b15.mono O14.z0))
  clear b15
  go_wp2
  go_ret
  exact ⟨rfl, B15.out⟩
end Go.Proofs.Ytfgnagnnmibmaaa
