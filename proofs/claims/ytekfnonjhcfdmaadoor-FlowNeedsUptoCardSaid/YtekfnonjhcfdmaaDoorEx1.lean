/- The document's example, plain: what is live before its instructions. example: its list. -/
import Derived.Test.YtekfnonjhcfdmaaDoorFam1
import Derived.Test.YtekfnonjhcfdmaaDoorWalk1
import Derived.Test.YtekfnonjhcfdmaaDoorBase1
namespace Go.Proofs.YtekfnonjhcfdmaaDoor
open Go.RowKit

def nmE : ByteArray := { data := #[] }
def exL : List In := [⟨1, ⟨4, 1⟩, [⟨1, 0⟩], 0, 0, 0, nmE, [], []⟩, ⟨28, ⟨0, 0⟩, [], 5, 0, 0, nmE, [], []⟩, ⟨14, ⟨4, 2⟩, [⟨4, 1⟩, ⟨4, 1⟩], 0, 0, 0, { data := #[43] }, [], []⟩, ⟨29, ⟨0, 0⟩, [], 0, 0, 0, nmE, [], []⟩,
  ⟨8, ⟨0, 0⟩, [], 6, 0, 0, nmE, [], []⟩, ⟨1, ⟨4, 2⟩, [⟨4, 1⟩], 0, 0, 0, nmE, [], []⟩, ⟨1, ⟨1, 0⟩, [⟨4, 2⟩], 0, 0, 0, nmE, [], []⟩, ⟨26, ⟨0, 0⟩, [], 0, 0, 0, nmE, [], []⟩]
def exQ (i : Nat) : Option (List Int) := if i = 2 ∨ i = 3 then some [5] else if i < 8 then some [] else none
def exT (i : Nat) : List Int := [[], [1], [1], [1, 2], [2], [1], [2], []].getD i []
theorem ex_cases {i : Nat} (h : i < exL.length) : i = 0 ∨ i = 1 ∨ i = 2 ∨ i = 3 ∨ i = 4 ∨ i = 5 ∨ i = 6 ∨ i = 7 := by
  have : i < 8 := h
  omega
theorem one_mem {j : Nat} {a : Nat} (h : (j : Int) ∈ [(a : Int)]) : j = a := by
  rw [List.mem_singleton] at h
  omega
theorem none_mem {j : Nat} (h : (j : Int) ∈ ([] : List Int)) : False := by cases h
/-- The places are found. -/
theorem ex_shut : Shut exL [0] exQ := by
  have f0 : Forced exL [0] 0 [] := Forced.entry 0 (by simp) (by decide)
  have f1 : Forced exL [0] 1 [] := f0.step (by decide) rfl (by decide) (by decide)
  have f2 : Forced exL [0] 2 [5] := f1.step (by decide) rfl (by decide) (by decide)
  have f5 : Forced exL [0] 5 [] := f1.hand (by decide) (by decide) rfl rfl
  have f3 : Forced exL [0] 3 [5] := f2.step (by decide) rfl (by decide) (by decide)
  have f4 : Forced exL [0] 4 [] := f3.step (by decide) rfl (by decide) (by decide)
  have f6 : Forced exL [0] 6 [] := f4.step (by decide) rfl (by decide) (by decide)
  have f7 : Forced exL [0] 7 [] := f6.step (by decide) rfl (by decide) (by decide)
  refine ⟨fun i t h => ?_, fun i h _ => ?_, fun i j hi t h hj h1 h2 => ?_, fun i hi t h => ?_⟩
  · have hi : i < exL.length := by
      unfold exQ at h
      show i < 8
      split at h
      · omega
      · split at h
        · assumption
        · cases h
    rcases ex_cases hi with rfl | rfl | rfl | rfl | rfl | rfl | rfl | rfl <;> (cases h; assumption)
  · simp at h
    subst h
    rfl
  · rcases ex_cases hi with rfl | rfl | rfl | rfl | rfl | rfl | rfl | rfl
    · exact absurd (show (1 : Int) = 28 from h1) (by decide)
    · have h3 : ((5 : Nat) : Int) = j := h2
      have h4 : 5 = j := by omega
      subst h4
      cases h
      rfl
    · exact absurd (show (14 : Int) = 28 from h1) (by decide)
    · exact absurd (show (29 : Int) = 28 from h1) (by decide)
    · exact absurd (show (8 : Int) = 28 from h1) (by decide)
    · exact absurd (show (1 : Int) = 28 from h1) (by decide)
    · exact absurd (show (1 : Int) = 28 from h1) (by decide)
    · exact absurd (show (26 : Int) = 28 from h1) (by decide)
  · rcases ex_cases hi with rfl | rfl | rfl | rfl | rfl | rfl | rfl | rfl <;> cases h
    · refine ⟨_, rfl, fun j hj hm => ?_⟩
      obtain rfl : j = 1 := one_mem hm
      rfl
    · refine ⟨_, rfl, fun j hj hm => ?_⟩
      obtain rfl : j = 2 := one_mem hm
      rfl
    · refine ⟨_, rfl, fun j hj hm => ?_⟩
      obtain rfl : j = 3 := one_mem hm
      rfl
    · refine ⟨_, rfl, fun j hj hm => ?_⟩
      obtain rfl : j = 4 := one_mem hm
      rfl
    · refine ⟨_, rfl, fun j hj hm => ?_⟩
      obtain rfl : j = 6 := one_mem hm
      rfl
    · refine ⟨_, rfl, fun j hj hm => ?_⟩
      obtain rfl : j = 6 := one_mem hm
      rfl
    · refine ⟨_, rfl, fun j hj hm => ?_⟩
      obtain rfl : j = 7 := one_mem hm
      rfl
    · exact ⟨_, rfl, fun j hj hm => (none_mem hm).elim⟩
/-- What is live: nothing else. -/
theorem ex_live {T : Nat → List Int} (hT : ∀ i, Rch exL [0] i → T i = (exQ i).getD []) {i : Nat} {n : Int} (h : Lv exL [0] T 4 i n) : n ∈ exT i := by
  induction h with
  | use i hi n hr hu =>
    rcases ex_cases hi with rfl | rfl | rfl | rfl | rfl | rfl | rfl | rfl
    · have hu2 : (⟨4, n⟩ : Ar) ∈ ([⟨1, 0⟩] : List Ar) := hu
      simp at hu2
    · have hu2 : (⟨4, n⟩ : Ar) ∈ ([] : List Ar) := hu
      simp at hu2
    · have hu2 : (⟨4, n⟩ : Ar) ∈ ([⟨4, 1⟩, ⟨4, 1⟩] : List Ar) := hu
      simp at hu2
      subst hu2
      decide
    · have hu2 : (⟨4, n⟩ : Ar) ∈ ([] : List Ar) := hu
      simp at hu2
    · have hu2 : (⟨4, n⟩ : Ar) ∈ ([] : List Ar) := hu
      simp at hu2
    · have hu2 : (⟨4, n⟩ : Ar) ∈ ([⟨4, 1⟩] : List Ar) := hu
      simp at hu2
      subst hu2
      decide
    · have hu2 : (⟨4, n⟩ : Ar) ∈ ([⟨4, 2⟩] : List Ar) := hu
      simp at hu2
      subst hu2
      decide
    · have hu2 : (⟨4, n⟩ : Ar) ∈ ([⟨1, 0⟩] : List Ar) := hu
      simp at hu2
  | step i j hi n hr hj ht hnd _ ih =>
    rcases ex_cases hi with rfl | rfl | rfl | rfl | rfl | rfl | rfl | rfl
    · obtain rfl : j = 1 := one_mem ht
      have hn : (⟨4, n⟩ : Ar) ∉ ([⟨4, 1⟩] : List Ar) := hnd
      have ih2 : n ∈ ([1] : List Int) := ih
      show n ∈ ([] : List Int)
      simp at hn ih2 ⊢
      try omega
    · obtain rfl : j = 2 := one_mem ht
      have hn : (⟨4, n⟩ : Ar) ∉ ([] : List Ar) := hnd
      have ih2 : n ∈ ([1] : List Int) := ih
      show n ∈ ([1] : List Int)
      simp at hn ih2 ⊢
      try omega
    · obtain rfl : j = 3 := one_mem ht
      have hn : (⟨4, n⟩ : Ar) ∉ ([⟨4, 2⟩] : List Ar) := hnd
      have ih2 : n ∈ ([1, 2] : List Int) := ih
      show n ∈ ([1] : List Int)
      simp at hn ih2 ⊢
      try omega
    · obtain rfl : j = 4 := one_mem ht
      have hn : (⟨4, n⟩ : Ar) ∉ ([] : List Ar) := hnd
      have ih2 : n ∈ ([2] : List Int) := ih
      show n ∈ ([1, 2] : List Int)
      simp at hn ih2 ⊢
      try omega
    · obtain rfl : j = 6 := one_mem ht
      have hn : (⟨4, n⟩ : Ar) ∉ ([] : List Ar) := hnd
      have ih2 : n ∈ ([2] : List Int) := ih
      show n ∈ ([2] : List Int)
      simp at hn ih2 ⊢
      try omega
    · obtain rfl : j = 6 := one_mem ht
      have hn : (⟨4, n⟩ : Ar) ∉ ([⟨4, 2⟩] : List Ar) := hnd
      have ih2 : n ∈ ([2] : List Int) := ih
      show n ∈ ([1] : List Int)
      simp at hn ih2 ⊢
      try omega
    · obtain rfl : j = 7 := one_mem ht
      have hn : (⟨4, n⟩ : Ar) ∉ ([⟨1, 0⟩] : List Ar) := hnd
      have ih2 : n ∈ ([] : List Int) := ih
      show n ∈ ([2] : List Int)
      simp at hn ih2 ⊢
      try omega
    · exact (none_mem ht).elim
  | hand i j hi n hr hj ht _ ih =>
    rw [hT i hr] at ht
    rcases ex_cases hi with rfl | rfl | rfl | rfl | rfl | rfl | rfl | rfl
    · cases (show (none : Option Int) = some (j : Int) from ht)
    · cases (show (none : Option Int) = some (j : Int) from ht)
    · have h5 : ((5 : Nat) : Int) = j := Option.some.inj (show some ((5 : Nat) : Int) = some (j : Int) from ht)
      have h6 : 5 = j := by omega
      subst h6
      have ih2 : n ∈ ([1] : List Int) := ih
      show n ∈ ([1] : List Int)
      simp at ih2 ⊢
      try omega
    · have h5 : ((5 : Nat) : Int) = j := Option.some.inj (show some ((5 : Nat) : Int) = some (j : Int) from ht)
      have h6 : 5 = j := by omega
      subst h6
      have ih2 : n ∈ ([1] : List Int) := ih
      show n ∈ ([1, 2] : List Int)
      simp at ih2 ⊢
      try omega
    · cases (show (none : Option Int) = some (j : Int) from ht)
    · cases (show (none : Option Int) = some (j : Int) from ht)
    · cases (show (none : Option Int) = some (j : Int) from ht)
    · cases (show (none : Option Int) = some (j : Int) from ht)
/-- What is live before three of them. -/
theorem ex_ans {Q : Nat → Option (List Int)} (hQ : Shut exL [0] Q) {R : List (List Int)} (h : LvL exL [0] (fun i => (Q i).getD []) 4 R) : ∃ R1 R2 R4 R6 R7, R = [[], R1, R2, [1, 2], R4, [1], R6, R7] := by
  have hT : ∀ i, Rch exL [0] i → (Q i).getD [] = (exQ i).getD [] := fun i hr => Fits.one hQ.fits ex_shut.fits i hr
  have r : ∀ i t, exQ i = some t → Rch exL [0] i := fun i t e => (ex_shut.rch i).2 ⟨t, e⟩
  obtain ⟨h1, h2⟩ := h
  have hl : R.length = 8 := h1
  have m5 : Lv exL [0] (fun i => (Q i).getD []) 4 5 1 := Lv.use 5 (by decide) 1 (r 5 _ rfl) (by show (⟨4, 1⟩ : Ar) ∈ ([⟨4, 1⟩] : List Ar); simp)
  have m6 : Lv exL [0] (fun i => (Q i).getD []) 4 6 2 := Lv.use 6 (by decide) 2 (r 6 _ rfl) (by show (⟨4, 2⟩ : Ar) ∈ ([⟨4, 2⟩] : List Ar); simp)
  have m4 : Lv exL [0] (fun i => (Q i).getD []) 4 4 2 := Lv.step 4 6 (by decide) 2 (r 4 _ rfl) (by decide) (by decide) (by show (⟨4, 2⟩ : Ar) ∉ ([] : List Ar); simp) m6
  have m32 : Lv exL [0] (fun i => (Q i).getD []) 4 3 2 := Lv.step 3 4 (by decide) 2 (r 3 _ rfl) (by decide) (by decide) (by show (⟨4, 2⟩ : Ar) ∉ ([] : List Ar); simp) m4
  have m31 : Lv exL [0] (fun i => (Q i).getD []) 4 3 1 := Lv.hand 3 5 (by decide) 1 (r 3 _ rfl) (by decide) (by show ((Q 3).getD []).getLast? = _; rw [hT 3 (r 3 _ rfl)]; rfl) m5
  have e0 : R[0] = [] := up_ext _ _ (h2 0 _).1 List.Pairwise.nil (fun n => ⟨fun hn => ex_live hT (((h2 0 _).2 n).1 hn), fun hn => by cases hn⟩)
  have e3 : R[3] = [1, 2] := up_ext _ _ (h2 3 _).1 (by unfold Up; decide) (fun n => ⟨fun hn => ex_live hT (((h2 3 _).2 n).1 hn), fun hn => by
    simp at hn
    rcases hn with rfl | rfl
    · exact ((h2 3 _).2 1).2 m31
    · exact ((h2 3 _).2 2).2 m32⟩)
  have e5 : R[5] = [1] := up_ext _ _ (h2 5 _).1 (by unfold Up; decide) (fun n => ⟨fun hn => ex_live hT (((h2 5 _).2 n).1 hn), fun hn => by
    simp at hn
    subst hn
    exact ((h2 5 _).2 1).2 m5⟩)
  have p0 : R[0]? = some [] := by rw [List.getElem?_eq_getElem (by omega), e0]
  have p3 : R[3]? = some [1, 2] := by rw [List.getElem?_eq_getElem (by omega), e3]
  have p5 : R[5]? = some [1] := by rw [List.getElem?_eq_getElem (by omega), e5]
  clear e0 e3 e5 h1 h2
  match R, hl, p0, p3, p5 with
  | [a, b, c, d, e, f, g, k], _, p0, p3, p5 =>
    simp at p0 p3 p5
    subst p0 p3 p5
    exact ⟨b, c, e, g, k, rfl⟩
end Go.Proofs.YtekfnonjhcfdmaaDoor
namespace Go.Proofs.YtekfnonjhcfdmaaDoor
open Go.RowKit Go.Shelf Go.Rt Go.Rw

set_option maxRecDepth 100000 in
set_option maxHeartbeats 8000000 in
theorem example23 (w : World) : Calls Tryd.prog 23 #[] w fun e w' => Below w.heap.size w w' ∧ ∃ v, e = .returned v ∧ InsAt w' exL v := by
  have CV := Lib.hid (fun (n : Int) (W : World) => v24 n W)
  have CX := Lib.hid (fun (n : Int) (W : World) => x25 n W)
  unfold arV at CV CX
  dsimp only at CV CX
  have B0 := Lib.hid (Below.refl w.heap.size w)
  obtain ⟨m, hm⟩ : ∃ q, q = w.heap.size := ⟨_, rfl⟩
  have HM := Lib.hid hm
  rw [← hm] at B0 ⊢
  clear hm
  go_enter Tryd.func23, Tryd.ntmps23
  go_wp2_with fail
  refine (CV.out 1 w).mono ?_
  rintro e w1 ⟨rfl, b1⟩
  have B1 := Lib.hid (B0.out.trans (b1.mono (by have := B0.out.size; have := HM.out; omega)))
  clear b1
  go_wp2_with fail
  refine (CX.out 0 w1).mono ?_
  rintro e w2 ⟨rfl, b2⟩
  have B2 := Lib.hid (B1.out.trans (b2.mono (by have := B1.out.size; have := HM.out; omega)))
  clear b2
  obtain ⟨w3, hw⟩ : ∃ W, w2.alloc (.cells #[.int .i64 1, .int .i64 0] 38) = W := ⟨_, rfl⟩
  obtain ⟨a1, ha⟩ : ∃ q, q = w2.heap.size := ⟨_, rfl⟩
  have bb : Below w2.heap.size w2 w3 := by rw [← hw]; exact (Below.refl _ _).alloc (Nat.le_refl _) _
  have S1 : Hid (SlAt w3 2 arC (.slice (some ⟨a1, 0, none⟩) 1 1) ([⟨1, 0⟩] : List Ar)) := Lib.hid (by rw [← hw, ha]; exact (Sl.lit (base := 0) (m := 2) (e := 38) (c := arC) w2 ([⟨1, 0⟩] : List Ar) (fun _ => rfl) (Nat.zero_le _) (by decide)).at (fun _ => rfl))
  have B3 := Lib.hid (B2.out.trans (bb.mono (by have := B2.out.size; have := HM.out; omega)))
  have HW := Lib.hid hw
  have HA := Lib.hid ha
  clear hw ha bb
  go_wp2_with fail
  rw [HW.out, ← HA.out]
  clear HW HA
  refine (CV.out 2 w3).mono ?_
  rintro e w4 ⟨rfl, b4⟩
  have B4 := Lib.hid (B3.out.trans (b4.mono (by have := B3.out.size; have := HM.out; omega)))
  replace S1 := Lib.hid (S1.out.keep b4)
  clear b4
  go_wp2_with fail
  refine (CV.out 1 w4).mono ?_
  rintro e w5 ⟨rfl, b5⟩
  have B5 := Lib.hid (B4.out.trans (b5.mono (by have := B4.out.size; have := HM.out; omega)))
  replace S1 := Lib.hid (S1.out.keep b5)
  clear b5
  go_wp2_with fail
  refine (CV.out 1 w5).mono ?_
  rintro e w6 ⟨rfl, b6⟩
  have B6 := Lib.hid (B5.out.trans (b6.mono (by have := B5.out.size; have := HM.out; omega)))
  replace S1 := Lib.hid (S1.out.keep b6)
  clear b6
  obtain ⟨w7, hw⟩ : ∃ W, w6.alloc (.cells #[.int .i64 4, .int .i64 1, .int .i64 4, .int .i64 1] 38) = W := ⟨_, rfl⟩
  obtain ⟨a2, ha⟩ : ∃ q, q = w6.heap.size := ⟨_, rfl⟩
  have bb : Below w6.heap.size w6 w7 := by rw [← hw]; exact (Below.refl _ _).alloc (Nat.le_refl _) _
  have S2 : Hid (SlAt w7 2 arC (.slice (some ⟨a2, 0, none⟩) 2 2) ([⟨4, 1⟩, ⟨4, 1⟩] : List Ar)) := Lib.hid (by rw [← hw, ha]; exact (Sl.lit (base := 0) (m := 2) (e := 38) (c := arC) w6 ([⟨4, 1⟩, ⟨4, 1⟩] : List Ar) (fun _ => rfl) (Nat.zero_le _) (by decide)).at (fun _ => rfl))
  replace S1 := Lib.hid (S1.out.keep bb)
  have B7 := Lib.hid (B6.out.trans (bb.mono (by have := B6.out.size; have := HM.out; omega)))
  have HW := Lib.hid hw
  have HA := Lib.hid ha
  clear hw ha bb
  go_wp2_with fail
  rw [HW.out, ← HA.out]
  clear HW HA
  refine (CV.out 2 w7).mono ?_
  rintro e w8 ⟨rfl, b8⟩
  have B8 := Lib.hid (B7.out.trans (b8.mono (by have := B7.out.size; have := HM.out; omega)))
  replace S1 := Lib.hid (S1.out.keep b8)
  replace S2 := Lib.hid (S2.out.keep b8)
  clear b8
  go_wp2_with fail
  refine (CV.out 1 w8).mono ?_
  rintro e w9 ⟨rfl, b9⟩
  have B9 := Lib.hid (B8.out.trans (b9.mono (by have := B8.out.size; have := HM.out; omega)))
  replace S1 := Lib.hid (S1.out.keep b9)
  replace S2 := Lib.hid (S2.out.keep b9)
  clear b9
  obtain ⟨w10, hw⟩ : ∃ W, w9.alloc (.cells #[.int .i64 4, .int .i64 1] 38) = W := ⟨_, rfl⟩
  obtain ⟨a3, ha⟩ : ∃ q, q = w9.heap.size := ⟨_, rfl⟩
  have bb : Below w9.heap.size w9 w10 := by rw [← hw]; exact (Below.refl _ _).alloc (Nat.le_refl _) _
  have S3 : Hid (SlAt w10 2 arC (.slice (some ⟨a3, 0, none⟩) 1 1) ([⟨4, 1⟩] : List Ar)) := Lib.hid (by rw [← hw, ha]; exact (Sl.lit (base := 0) (m := 2) (e := 38) (c := arC) w9 ([⟨4, 1⟩] : List Ar) (fun _ => rfl) (Nat.zero_le _) (by decide)).at (fun _ => rfl))
  replace S1 := Lib.hid (S1.out.keep bb)
  replace S2 := Lib.hid (S2.out.keep bb)
  have B10 := Lib.hid (B9.out.trans (bb.mono (by have := B9.out.size; have := HM.out; omega)))
  have HW := Lib.hid hw
  have HA := Lib.hid ha
  clear hw ha bb
  go_wp2_with fail
  rw [HW.out, ← HA.out]
  clear HW HA
  refine (CX.out 0 w10).mono ?_
  rintro e w11 ⟨rfl, b11⟩
  have B11 := Lib.hid (B10.out.trans (b11.mono (by have := B10.out.size; have := HM.out; omega)))
  replace S1 := Lib.hid (S1.out.keep b11)
  replace S2 := Lib.hid (S2.out.keep b11)
  replace S3 := Lib.hid (S3.out.keep b11)
  clear b11
  go_wp2_with fail
  refine (CV.out 2 w11).mono ?_
  rintro e w12 ⟨rfl, b12⟩
  have B12 := Lib.hid (B11.out.trans (b12.mono (by have := B11.out.size; have := HM.out; omega)))
  replace S1 := Lib.hid (S1.out.keep b12)
  replace S2 := Lib.hid (S2.out.keep b12)
  replace S3 := Lib.hid (S3.out.keep b12)
  clear b12
  obtain ⟨w13, hw⟩ : ∃ W, w12.alloc (.cells #[.int .i64 4, .int .i64 2] 38) = W := ⟨_, rfl⟩
  obtain ⟨a4, ha⟩ : ∃ q, q = w12.heap.size := ⟨_, rfl⟩
  have bb : Below w12.heap.size w12 w13 := by rw [← hw]; exact (Below.refl _ _).alloc (Nat.le_refl _) _
  have S4 : Hid (SlAt w13 2 arC (.slice (some ⟨a4, 0, none⟩) 1 1) ([⟨4, 2⟩] : List Ar)) := Lib.hid (by rw [← hw, ha]; exact (Sl.lit (base := 0) (m := 2) (e := 38) (c := arC) w12 ([⟨4, 2⟩] : List Ar) (fun _ => rfl) (Nat.zero_le _) (by decide)).at (fun _ => rfl))
  replace S1 := Lib.hid (S1.out.keep bb)
  replace S2 := Lib.hid (S2.out.keep bb)
  replace S3 := Lib.hid (S3.out.keep bb)
  have B13 := Lib.hid (B12.out.trans (bb.mono (by have := B12.out.size; have := HM.out; omega)))
  have HW := Lib.hid hw
  have HA := Lib.hid ha
  clear hw ha bb
  have HZ : Hid (w13.heap.size = a4 + 1) := Lib.hid (by rw [← HW.out, HA.out]; exact World.size_alloc _ _)
  go_wp2_with fail
  rw [HW.out, ← HA.out]
  obtain ⟨Fs, hFs⟩ : ∃ q : List Im, q = [⟨⟨1, ⟨4, 1⟩, [⟨1, 0⟩], 0, 0, 0, nmE, [], []⟩, (.slice (some ⟨a1, 0, none⟩) 1 1), (.slice none 0 0), (.slice none 0 0)⟩, ⟨⟨28, ⟨0, 0⟩, [], 5, 0, 0, nmE, [], []⟩, (.slice none 0 0), (.slice none 0 0), (.slice none 0 0)⟩, ⟨⟨14, ⟨4, 2⟩, [⟨4, 1⟩, ⟨4, 1⟩], 0, 0, 0, { data := #[43] }, [], []⟩, (.slice (some ⟨a2, 0, none⟩) 2 2), (.slice none 0 0), (.slice none 0 0)⟩, ⟨⟨29, ⟨0, 0⟩, [], 0, 0, 0, nmE, [], []⟩, (.slice none 0 0), (.slice none 0 0), (.slice none 0 0)⟩, ⟨⟨8, ⟨0, 0⟩, [], 6, 0, 0, nmE, [], []⟩, (.slice none 0 0), (.slice none 0 0), (.slice none 0 0)⟩, ⟨⟨1, ⟨4, 2⟩, [⟨4, 1⟩], 0, 0, 0, nmE, [], []⟩, (.slice (some ⟨a3, 0, none⟩) 1 1), (.slice none 0 0), (.slice none 0 0)⟩, ⟨⟨1, ⟨1, 0⟩, [⟨4, 2⟩], 0, 0, 0, nmE, [], []⟩, (.slice (some ⟨a4, 0, none⟩) 1 1), (.slice none 0 0), (.slice none 0 0)⟩, ⟨⟨26, ⟨0, 0⟩, [], 0, 0, 0, nmE, [], []⟩, (.slice none 0 0), (.slice none 0 0), (.slice none 0 0)⟩] := ⟨_, rfl⟩
  have SL := (Sl.lit (base := 0) (m := 10) (e := 42) (c := imC) w13 Fs (fun _ => rfl) (Nat.zero_le _) (by rw [hFs]; show (8 : Nat) ≤ maxLen; decide)).at (fun _ => rfl)
  have B14 := B13.out.alloc (by have := B13.out.size; have := HM.out; omega) (.cells (Fs.flatMap imC).toArray 42)
  have bz : Below w13.heap.size w13 (w13.alloc (.cells (Fs.flatMap imC).toArray 42)) := (Below.refl _ _).alloc (Nat.le_refl _) _
  have hn : ∀ {α : Type} {c : α → List Value} {m : Nat} {W : World}, SlAt W m c (.slice none 0 0) ([] : List α) := fun {_ _ _ _} => .inl ⟨rfl, none, 0, rfl⟩
  have hI : ∀ f ∈ Fs, ImAt (w13.alloc (.cells (Fs.flatMap imC).toArray 42)) f := by
    intro f hf
    rw [hFs] at hf
    simp only [List.mem_cons, List.not_mem_nil, or_false] at hf
    rcases hf with rfl | rfl | rfl | rfl | rfl | rfl | rfl | rfl
    · exact ⟨S1.out.keep bz, hn, hn⟩
    · exact ⟨hn, hn, hn⟩
    · exact ⟨S2.out.keep bz, hn, hn⟩
    · exact ⟨hn, hn, hn⟩
    · exact ⟨hn, hn, hn⟩
    · exact ⟨S3.out.keep bz, hn, hn⟩
    · exact ⟨S4.out.keep bz, hn, hn⟩
    · exact ⟨hn, hn, hn⟩
  have hm : Fs.map (·.x) = exL := by rw [hFs]; rfl
  rw [HZ.out] at SL
  have FIN := Lib.hid (show Below m w (w13.alloc (.cells (Fs.flatMap imC).toArray 42)) ∧ InsAt (w13.alloc (.cells (Fs.flatMap imC).toArray 42)) exL (.slice (some ⟨a4 + 1, 0, none⟩) Fs.length Fs.length) from ⟨B14, Fs, hm, SL, hI⟩)
  clear SL B14 bz hn hI hm
  subst hFs
  go_ret
  exact ⟨FIN.out.1, _, rfl, FIN.out.2⟩
end Go.Proofs.YtekfnonjhcfdmaaDoor
