/- The document's example, plain: what is live before its instructions. -/
import Derived.Test.YtekfnonjhcfdmaaDoorFam
namespace Go.Proofs.YtekfnonjhcfdmaaDoor
open Go.RowKit

def nmE : ByteArray := { data := #[] }
def exL : List In := [⟨1, ⟨4, 1⟩, [⟨1, 0⟩], 0, 0, 0, nmE, [], []⟩, ⟨28, ⟨0, 0⟩, [], 5, 0, 0, nmE, [], []⟩, ⟨14, ⟨4, 2⟩, [⟨4, 1⟩, ⟨4, 1⟩], 0, 0, 0, { data := #[43] }, [], []⟩, ⟨29, ⟨0, 0⟩, [], 0, 0, 0, nmE, [], []⟩,
  ⟨8, ⟨0, 0⟩, [], 6, 0, 0, nmE, [], []⟩, ⟨1, ⟨4, 2⟩, [⟨4, 1⟩], 0, 0, 0, nmE, [], []⟩, ⟨1, ⟨1, 0⟩, [⟨4, 2⟩], 0, 0, 0, nmE, [], []⟩, ⟨26, ⟨0, 0⟩, [], 0, 0, 0, nmE, [], []⟩]
def exQ (i : Nat) : Option (List Int) := if i = 2 ∨ i = 3 then some [5] else if i < 8 then some [] else none
def exT (i : Nat) : List Int := [[], [1], [1], [1, 2], [2], [1], [2], []].getD i []
theorem ex_cases {i : Nat} (h : i < exL.length) : i = 0 ∨ i = 1 ∨ i = 2 ∨ i = 3 ∨ i = 4 ∨ i = 5 ∨ i = 6 ∨ i = 7 := by
  have : i < 8 := h
  omega
theorem one_mem {j : Nat} {a : Nat} (h : (j : Int) ∈ [(a : Int)]) : j = a := by
  rw [List.mem_singleton] at h
  omega
theorem none_mem {j : Nat} (h : (j : Int) ∈ ([] : List Int)) : False := by cases h
/-- The places are found. -/
theorem ex_shut : Shut exL [0] exQ := by
  have f0 : Forced exL [0] 0 [] := Forced.entry 0 (by simp) (by decide)
  have f1 : Forced exL [0] 1 [] := f0.step (by decide) rfl (by decide) (by decide)
  have f2 : Forced exL [0] 2 [5] := f1.step (by decide) rfl (by decide) (by decide)
  have f5 : Forced exL [0] 5 [] := f1.hand (by decide) (by decide) rfl rfl
  have f3 : Forced exL [0] 3 [5] := f2.step (by decide) rfl (by decide) (by decide)
  have f4 : Forced exL [0] 4 [] := f3.step (by decide) rfl (by decide) (by decide)
  have f6 : Forced exL [0] 6 [] := f4.step (by decide) rfl (by decide) (by decide)
  have f7 : Forced exL [0] 7 [] := f6.step (by decide) rfl (by decide) (by decide)
  refine ⟨fun i t h => ?_, fun i h _ => ?_, fun i j hi t h hj h1 h2 => ?_, fun i hi t h => ?_⟩
  · have hi : i < exL.length := by
      unfold exQ at h
      show i < 8
      split at h
      · omega
      · split at h
        · assumption
        · cases h
    rcases ex_cases hi with rfl | rfl | rfl | rfl | rfl | rfl | rfl | rfl <;> (cases h; assumption)
  · simp at h
    subst h
    rfl
  · rcases ex_cases hi with rfl | rfl | rfl | rfl | rfl | rfl | rfl | rfl
    · exact absurd (show (1 : Int) = 28 from h1) (by decide)
    · have h3 : ((5 : Nat) : Int) = j := h2
      have h4 : 5 = j := by omega
      subst h4
      cases h
      rfl
    · exact absurd (show (14 : Int) = 28 from h1) (by decide)
    · exact absurd (show (29 : Int) = 28 from h1) (by decide)
    · exact absurd (show (8 : Int) = 28 from h1) (by decide)
    · exact absurd (show (1 : Int) = 28 from h1) (by decide)
    · exact absurd (show (1 : Int) = 28 from h1) (by decide)
    · exact absurd (show (26 : Int) = 28 from h1) (by decide)
  · rcases ex_cases hi with rfl | rfl | rfl | rfl | rfl | rfl | rfl | rfl <;> cases h
    · refine ⟨_, rfl, fun j hj hm => ?_⟩
      obtain rfl : j = 1 := one_mem hm
      rfl
    · refine ⟨_, rfl, fun j hj hm => ?_⟩
      obtain rfl : j = 2 := one_mem hm
      rfl
    · refine ⟨_, rfl, fun j hj hm => ?_⟩
      obtain rfl : j = 3 := one_mem hm
      rfl
    · refine ⟨_, rfl, fun j hj hm => ?_⟩
      obtain rfl : j = 4 := one_mem hm
      rfl
    · refine ⟨_, rfl, fun j hj hm => ?_⟩
      obtain rfl : j = 6 := one_mem hm
      rfl
    · refine ⟨_, rfl, fun j hj hm => ?_⟩
      obtain rfl : j = 6 := one_mem hm
      rfl
    · refine ⟨_, rfl, fun j hj hm => ?_⟩
      obtain rfl : j = 7 := one_mem hm
      rfl
    · exact ⟨_, rfl, fun j hj hm => (none_mem hm).elim⟩
/-- What is live: nothing else. -/
theorem ex_live {T : Nat → List Int} (hT : ∀ i, Rch exL [0] i → T i = (exQ i).getD []) {i : Nat} {n : Int} (h : Lv exL [0] T 4 i n) : n ∈ exT i := by
  induction h with
  | use i hi n hr hu =>
    rcases ex_cases hi with rfl | rfl | rfl | rfl | rfl | rfl | rfl | rfl
    · have hu2 : (⟨4, n⟩ : Ar) ∈ ([⟨1, 0⟩] : List Ar) := hu
      simp at hu2
    · have hu2 : (⟨4, n⟩ : Ar) ∈ ([] : List Ar) := hu
      simp at hu2
    · have hu2 : (⟨4, n⟩ : Ar) ∈ ([⟨4, 1⟩, ⟨4, 1⟩] : List Ar) := hu
      simp at hu2
      subst hu2
      decide
    · have hu2 : (⟨4, n⟩ : Ar) ∈ ([] : List Ar) := hu
      simp at hu2
    · have hu2 : (⟨4, n⟩ : Ar) ∈ ([] : List Ar) := hu
      simp at hu2
    · have hu2 : (⟨4, n⟩ : Ar) ∈ ([⟨4, 1⟩] : List Ar) := hu
      simp at hu2
      subst hu2
      decide
    · have hu2 : (⟨4, n⟩ : Ar) ∈ ([⟨4, 2⟩] : List Ar) := hu
      simp at hu2
      subst hu2
      decide
    · have hu2 : (⟨4, n⟩ : Ar) ∈ ([⟨1, 0⟩] : List Ar) := hu
      simp at hu2
  | step i j hi n hr hj ht hnd _ ih =>
    rcases ex_cases hi with rfl | rfl | rfl | rfl | rfl | rfl | rfl | rfl
    · obtain rfl : j = 1 := one_mem ht
      have hn : (⟨4, n⟩ : Ar) ∉ ([⟨4, 1⟩] : List Ar) := hnd
      have ih2 : n ∈ ([1] : List Int) := ih
      show n ∈ ([] : List Int)
      simp at hn ih2 ⊢
      try omega
    · obtain rfl : j = 2 := one_mem ht
      have hn : (⟨4, n⟩ : Ar) ∉ ([] : List Ar) := hnd
      have ih2 : n ∈ ([1] : List Int) := ih
      show n ∈ ([1] : List Int)
      simp at hn ih2 ⊢
      try omega
    · obtain rfl : j = 3 := one_mem ht
      have hn : (⟨4, n⟩ : Ar) ∉ ([⟨4, 2⟩] : List Ar) := hnd
      have ih2 : n ∈ ([1, 2] : List Int) := ih
      show n ∈ ([1] : List Int)
      simp at hn ih2 ⊢
      try omega
    · obtain rfl : j = 4 := one_mem ht
      have hn : (⟨4, n⟩ : Ar) ∉ ([] : List Ar) := hnd
      have ih2 : n ∈ ([2] : List Int) := ih
      show n ∈ ([1, 2] : List Int)
      simp at hn ih2 ⊢
      try omega
    · obtain rfl : j = 6 := one_mem ht
      have hn : (⟨4, n⟩ : Ar) ∉ ([] : List Ar) := hnd
      have ih2 : n ∈ ([2] : List Int) := ih
      show n ∈ ([2] : List Int)
      simp at hn ih2 ⊢
      try omega
    · obtain rfl : j = 6 := one_mem ht
      have hn : (⟨4, n⟩ : Ar) ∉ ([⟨4, 2⟩] : List Ar) := hnd
      have ih2 : n ∈ ([2] : List Int) := ih
      show n ∈ ([1] : List Int)
      simp at hn ih2 ⊢
      try omega
    · obtain rfl : j = 7 := one_mem ht
      have hn : (⟨4, n⟩ : Ar) ∉ ([⟨1, 0⟩] : List Ar) := hnd
      have ih2 : n ∈ ([] : List Int) := ih
      show n ∈ ([2] : List Int)
      simp at hn ih2 ⊢
      try omega
    · exact (none_mem ht).elim
  | hand i j hi n hr hj ht _ ih =>
    rw [hT i hr] at ht
    rcases ex_cases hi with rfl | rfl | rfl | rfl | rfl | rfl | rfl | rfl
    · cases (show (none : Option Int) = some (j : Int) from ht)
    · cases (show (none : Option Int) = some (j : Int) from ht)
    · have h5 : ((5 : Nat) : Int) = j := Option.some.inj (show some ((5 : Nat) : Int) = some (j : Int) from ht)
      have h6 : 5 = j := by omega
      subst h6
      have ih2 : n ∈ ([1] : List Int) := ih
      show n ∈ ([1] : List Int)
      simp at ih2 ⊢
      try omega
    · have h5 : ((5 : Nat) : Int) = j := Option.some.inj (show some ((5 : Nat) : Int) = some (j : Int) from ht)
      have h6 : 5 = j := by omega
      subst h6
      have ih2 : n ∈ ([1] : List Int) := ih
      show n ∈ ([1, 2] : List Int)
      simp at ih2 ⊢
      try omega
    · cases (show (none : Option Int) = some (j : Int) from ht)
    · cases (show (none : Option Int) = some (j : Int) from ht)
    · cases (show (none : Option Int) = some (j : Int) from ht)
    · cases (show (none : Option Int) = some (j : Int) from ht)
/-- What is live before three of them. -/
theorem ex_ans {Q : Nat → Option (List Int)} (hQ : Shut exL [0] Q) {R : List (List Int)} (h : LvL exL [0] (fun i => (Q i).getD []) 4 R) : ∃ R1 R2 R4 R6 R7, R = [[], R1, R2, [1, 2], R4, [1], R6, R7] := by
  have hT : ∀ i, Rch exL [0] i → (Q i).getD [] = (exQ i).getD [] := fun i hr => Fits.one hQ.fits ex_shut.fits i hr
  have r : ∀ i t, exQ i = some t → Rch exL [0] i := fun i t e => (ex_shut.rch i).2 ⟨t, e⟩
  obtain ⟨h1, h2⟩ := h
  have hl : R.length = 8 := h1
  have m5 : Lv exL [0] (fun i => (Q i).getD []) 4 5 1 := Lv.use 5 (by decide) 1 (r 5 _ rfl) (by show (⟨4, 1⟩ : Ar) ∈ ([⟨4, 1⟩] : List Ar); simp)
  have m6 : Lv exL [0] (fun i => (Q i).getD []) 4 6 2 := Lv.use 6 (by decide) 2 (r 6 _ rfl) (by show (⟨4, 2⟩ : Ar) ∈ ([⟨4, 2⟩] : List Ar); simp)
  have m4 : Lv exL [0] (fun i => (Q i).getD []) 4 4 2 := Lv.step 4 6 (by decide) 2 (r 4 _ rfl) (by decide) (by decide) (by show (⟨4, 2⟩ : Ar) ∉ ([] : List Ar); simp) m6
  have m32 : Lv exL [0] (fun i => (Q i).getD []) 4 3 2 := Lv.step 3 4 (by decide) 2 (r 3 _ rfl) (by decide) (by decide) (by show (⟨4, 2⟩ : Ar) ∉ ([] : List Ar); simp) m4
  have m31 : Lv exL [0] (fun i => (Q i).getD []) 4 3 1 := Lv.hand 3 5 (by decide) 1 (r 3 _ rfl) (by decide) (by show ((Q 3).getD []).getLast? = _; rw [hT 3 (r 3 _ rfl)]; rfl) m5
  have e0 : R[0] = [] := up_ext _ _ (h2 0 _).1 List.Pairwise.nil (fun n => ⟨fun hn => ex_live hT (((h2 0 _).2 n).1 hn), fun hn => by cases hn⟩)
  have e3 : R[3] = [1, 2] := up_ext _ _ (h2 3 _).1 (by unfold Up; decide) (fun n => ⟨fun hn => ex_live hT (((h2 3 _).2 n).1 hn), fun hn => by
    simp at hn
    rcases hn with rfl | rfl
    · exact ((h2 3 _).2 1).2 m31
    · exact ((h2 3 _).2 2).2 m32⟩)
  have e5 : R[5] = [1] := up_ext _ _ (h2 5 _).1 (by unfold Up; decide) (fun n => ⟨fun hn => ex_live hT (((h2 5 _).2 n).1 hn), fun hn => by
    simp at hn
    subst hn
    exact ((h2 5 _).2 1).2 m5⟩)
  have p0 : R[0]? = some [] := by rw [List.getElem?_eq_getElem (by omega), e0]
  have p3 : R[3]? = some [1, 2] := by rw [List.getElem?_eq_getElem (by omega), e3]
  have p5 : R[5]? = some [1] := by rw [List.getElem?_eq_getElem (by omega), e5]
  clear e0 e3 e5 h1 h2
  match R, hl, p0, p3, p5 with
  | [a, b, c, d, e, f, g, k], _, p0, p3, p5 =>
    simp at p0 p3 p5
    subst p0 p3 p5
    exact ⟨b, c, e, g, k, rfl⟩
end Go.Proofs.YtekfnonjhcfdmaaDoor
