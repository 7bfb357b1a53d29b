/- More of the document's examples, plain. -/
import Derived.Test.YtekfnonjhcfdmaaDoorEx
import Derived.Test.YtekfnonjhcfdmaaDoorSames
namespace Go.Proofs.YtekfnonjhcfdmaaDoor
open Go.RowKit

def askI : In := ⟨15, ⟨0, 0⟩, [], 0, 2, 0, nmE, [], []⟩
def backL : List In := [⟨11, ⟨0, 0⟩, [], 0, 0, 0, nmE, [], []⟩, ⟨26, ⟨0, 0⟩, [], 0, 0, 0, nmE, [], []⟩]
def untL : List In := [⟨29, ⟨0, 0⟩, [], 0, 0, 0, nmE, [], []⟩]
theorem kn_u2 (h : 2 < exL.length) : usesF exL[2] = [⟨4, 1⟩, ⟨4, 1⟩] := rfl
theorem kn_d2 (h : 2 < exL.length) : defsF exL[2] = [⟨4, 2⟩] := rfl
theorem kn_u7 (h : 7 < exL.length) : usesF exL[7] = [⟨1, 0⟩] := rfl
theorem kn_ua : usesF askI = [⟨1, 0⟩, ⟨1, 1⟩] := rfl
theorem kn_da : defsF askI = [⟨1, 0⟩] := rfl
theorem kn_n1 : nextF exL 1 = [2] := rfl
theorem kn_n4 : nextF exL 4 = [6] := rfl
theorem kn_n7 : nextF exL 7 = [] := rfl
theorem kn_n8 : nextF exL 8 = [] := rfl
theorem kn_nb : nextF backL 0 = [0, 1] := rfl
theorem kn_t0 : triesF exL [0] = ([[], [], [5], [5], [], [], [], []], 0) := (triesF_shut (by intro k hk; simp at hk; subst hk; decide) ex_shut).trans rfl
theorem kn_t9 : triesF exL [9] = ([], 2) := triesF_arg (k := 9) (by simp) (by decide)
theorem kn_tu : triesF untL [0] = ([], 182) := triesF_try (by intro k hk; simp at hk; subst hk; decide) (Forced.shut (l := untL) (fr := [0]) (i := 0) (t := []) (by decide) (Forced.entry 0 (by simp) (by decide)) rfl)
def exX (i : Nat) : List Int := [[0], [], [], [], [], [], [], [0]].getD i []
theorem ex_livx {T : Nat → List Int} (hT : ∀ i, Rch exL [0] i → T i = (exQ i).getD []) {i : Nat} {n : Int} (h : Lv exL [0] T 1 i n) : n ∈ exX i := by
  induction h with
  | use i hi n hr hu =>
    rcases ex_cases hi with rfl | rfl | rfl | rfl | rfl | rfl | rfl | rfl
    · have hu2 : (⟨1, n⟩ : Ar) ∈ ([⟨1, 0⟩] : List Ar) := hu
      simp at hu2
      subst hu2
      decide
    · have hu2 : (⟨1, n⟩ : Ar) ∈ ([] : List Ar) := hu
      simp at hu2
    · have hu2 : (⟨1, n⟩ : Ar) ∈ ([⟨4, 1⟩, ⟨4, 1⟩] : List Ar) := hu
      simp at hu2
    · have hu2 : (⟨1, n⟩ : Ar) ∈ ([] : List Ar) := hu
      simp at hu2
    · have hu2 : (⟨1, n⟩ : Ar) ∈ ([] : List Ar) := hu
      simp at hu2
    · have hu2 : (⟨1, n⟩ : Ar) ∈ ([⟨4, 1⟩] : List Ar) := hu
      simp at hu2
    · have hu2 : (⟨1, n⟩ : Ar) ∈ ([⟨4, 2⟩] : List Ar) := hu
      simp at hu2
    · have hu2 : (⟨1, n⟩ : Ar) ∈ ([⟨1, 0⟩] : List Ar) := hu
      simp at hu2
      subst hu2
      decide
  | step i j hi n hr hj ht hnd _ ih =>
    rcases ex_cases hi with rfl | rfl | rfl | rfl | rfl | rfl | rfl | rfl
    · obtain rfl : j = 1 := one_mem ht
      have hn : (⟨1, n⟩ : Ar) ∉ ([⟨4, 1⟩] : List Ar) := hnd
      have ih2 : n ∈ ([] : List Int) := ih
      show n ∈ ([0] : List Int)
      simp at hn ih2
      try omega
    · obtain rfl : j = 2 := one_mem ht
      have hn : (⟨1, n⟩ : Ar) ∉ ([] : List Ar) := hnd
      have ih2 : n ∈ ([] : List Int) := ih
      show n ∈ ([] : List Int)
      simp at hn ih2
      try omega
    · obtain rfl : j = 3 := one_mem ht
      have hn : (⟨1, n⟩ : Ar) ∉ ([⟨4, 2⟩] : List Ar) := hnd
      have ih2 : n ∈ ([] : List Int) := ih
      show n ∈ ([] : List Int)
      simp at hn ih2
      try omega
    · obtain rfl : j = 4 := one_mem ht
      have hn : (⟨1, n⟩ : Ar) ∉ ([] : List Ar) := hnd
      have ih2 : n ∈ ([] : List Int) := ih
      show n ∈ ([] : List Int)
      simp at hn ih2
      try omega
    · obtain rfl : j = 6 := one_mem ht
      have hn : (⟨1, n⟩ : Ar) ∉ ([] : List Ar) := hnd
      have ih2 : n ∈ ([] : List Int) := ih
      show n ∈ ([] : List Int)
      simp at hn ih2
      try omega
    · obtain rfl : j = 6 := one_mem ht
      have hn : (⟨1, n⟩ : Ar) ∉ ([⟨4, 2⟩] : List Ar) := hnd
      have ih2 : n ∈ ([] : List Int) := ih
      show n ∈ ([] : List Int)
      simp at hn ih2
      try omega
    · obtain rfl : j = 7 := one_mem ht
      have hn : (⟨1, n⟩ : Ar) ∉ ([⟨1, 0⟩] : List Ar) := hnd
      have ih2 : n ∈ ([0] : List Int) := ih
      show n ∈ ([] : List Int)
      simp at hn ih2
      try omega
    · exact (none_mem ht).elim
  | hand i j hi n hr hj ht _ ih =>
    rw [hT i hr] at ht
    rcases ex_cases hi with rfl | rfl | rfl | rfl | rfl | rfl | rfl | rfl
    · cases (show (none : Option Int) = some (j : Int) from ht)
    · cases (show (none : Option Int) = some (j : Int) from ht)
    · have h5 : ((5 : Nat) : Int) = j := Option.some.inj (show some ((5 : Nat) : Int) = some (j : Int) from ht)
      have h6 : 5 = j := by omega
      subst h6
      have ih2 : n ∈ ([] : List Int) := ih
      cases ih2
    · have h5 : ((5 : Nat) : Int) = j := Option.some.inj (show some ((5 : Nat) : Int) = some (j : Int) from ht)
      have h6 : 5 = j := by omega
      subst h6
      have ih2 : n ∈ ([] : List Int) := ih
      cases ih2
    · cases (show (none : Option Int) = some (j : Int) from ht)
    · cases (show (none : Option Int) = some (j : Int) from ht)
    · cases (show (none : Option Int) = some (j : Int) from ht)
    · cases (show (none : Option Int) = some (j : Int) from ht)
theorem ex_ansx {Q : Nat → Option (List Int)} (hQ : Shut exL [0] Q) {R : List (List Int)} (h : LvL exL [0] (fun i => (Q i).getD []) 1 R) : R = [[0], [], [], [], [], [], [], [0]] := by
  have hT : ∀ i, Rch exL [0] i → (Q i).getD [] = (exQ i).getD [] := fun i hr => Fits.one hQ.fits ex_shut.fits i hr
  have r : ∀ i t, exQ i = some t → Rch exL [0] i := fun i t e => (ex_shut.rch i).2 ⟨t, e⟩
  obtain ⟨h1, h2⟩ := h
  have hl : R.length = 8 := h1
  have m0 : Lv exL [0] (fun i => (Q i).getD []) 1 0 0 := Lv.use 0 (by decide) 0 (r 0 _ rfl) (by show (⟨1, 0⟩ : Ar) ∈ ([⟨1, 0⟩] : List Ar); simp)
  have m7 : Lv exL [0] (fun i => (Q i).getD []) 1 7 0 := Lv.use 7 (by decide) 0 (r 7 _ rfl) (by show (⟨1, 0⟩ : Ar) ∈ ([⟨1, 0⟩] : List Ar); simp)
  have hm : ∀ i, exX i = [0] → Lv exL [0] (fun i => (Q i).getD []) 1 i 0 → ∀ h : i < R.length, R[i] = exX i := fun i e m h => by
    rw [e]
    refine up_ext _ _ (h2 i h).1 (by unfold Up; simp) (fun n => ⟨fun hn => by have := ex_livx hT (((h2 i h).2 n).1 hn); rwa [e] at this, fun hn => ?_⟩)
    simp at hn
    subst hn
    exact ((h2 i h).2 0).2 m
  have he : ∀ i, exX i = [] → ∀ h : i < R.length, R[i] = exX i := fun i e h => by
    rw [e]
    refine up_ext _ _ (h2 i h).1 List.Pairwise.nil (fun n => ⟨fun hn => by have := ex_livx hT (((h2 i h).2 n).1 hn); rwa [e] at this, fun hn => by cases hn⟩)
  have key : ∀ i (h : i < R.length), R[i] = exX i := fun i h => by
    have : i = 0 ∨ i = 1 ∨ i = 2 ∨ i = 3 ∨ i = 4 ∨ i = 5 ∨ i = 6 ∨ i = 7 := by omega
    rcases this with rfl | rfl | rfl | rfl | rfl | rfl | rfl | rfl
    · exact hm 0 rfl m0 h
    · exact he 1 rfl h
    · exact he 2 rfl h
    · exact he 3 rfl h
    · exact he 4 rfl h
    · exact he 5 rfl h
    · exact he 6 rfl h
    · exact hm 7 rfl m7 h
  apply List.ext_getElem
  · rw [hl]; rfl
  · intro i a b
    rw [key i a]
    have : i = 0 ∨ i = 1 ∨ i = 2 ∨ i = 3 ∨ i = 4 ∨ i = 5 ∨ i = 6 ∨ i = 7 := by omega
    rcases this with rfl | rfl | rfl | rfl | rfl | rfl | rfl | rfl <;> rfl
end Go.Proofs.YtekfnonjhcfdmaaDoor
