/- Layer 17, plain: when a search is complete. -/
import Derived.Test.YtekfnonjhcfdmaaDoorPlain
namespace Go.Proofs.YtekfnonjhcfdmaaDoor

/-- Whatever holds the entries and is closed holds all that can be reached. -/
theorem Rch.sub {l : List In} {fr : List Int} (S : Nat → Prop) (he : ∀ i : Nat, (i : Int) ∈ fr → i < l.length → S i)
    (hs : ∀ (i j : Nat) (hi : i < l.length), S i → j < l.length → (j : Int) ∈ targF l[i] i → S j)
    (hh : ∀ (i j : Nat) (hi : i < l.length), S i → j < l.length → l[i].op = 28 → l[i].to = j → S j) : ∀ i, Rch l fr i → S i := by
  intro i h
  induction h with
  | entry i h1 h2 => exact he i h1 h2
  | step i j hi _ hj ht ih => exact hs i j hi ih hj ht
  | hand i j hi _ hj h1 h2 ih => exact hh i j hi ih hj h1 h2
/-- More entries, more reached. -/
theorem Rch.more {l : List In} {fr fr' : List Int} (h : ∀ k, k ∈ fr → k ∈ fr') : ∀ i, Rch l fr i → Rch l fr' i :=
  Rch.sub (fun i => Rch l fr' i) (fun i h1 h2 => .entry i (h _ h1) h2) (fun i j hi hr hj ht => .step i j hi hr hj ht) (fun i j hi hr hj h1 h2 => .hand i j hi hr hj h1 h2)
theorem Rch.none {l : List In} (i : Nat) : ¬ Rch l [] i := fun h =>
  Rch.sub (fun _ => False) (fun i h => by cases h) (fun _ _ _ h => h.elim) (fun _ _ _ h => h.elim) i h
/-- What is forced along the paths. -/
def Forced (l : List In) (fr : List Int) (i : Nat) (t : List Int) : Prop := Rch l fr i ∧ ∀ T, Fits l fr T → T i = t
theorem Forced.entry {l : List In} {fr : List Int} (i : Nat) (h : (i : Int) ∈ fr) (hi : i < l.length) : Forced l fr i [] := ⟨.entry i h hi, fun _ hT => hT.entry i h hi⟩
theorem Forced.hand {l : List In} {fr : List Int} {i j : Nat} {t : List Int} (hi : i < l.length) (h : Forced l fr i t) (hj : j < l.length) (h1 : l[i].op = 28) (h2 : l[i].to = j) : Forced l fr j t :=
  ⟨.hand i j hi h.1 hj h1 h2, fun T hT => (hT.hand i j hi h.1 hj h1 h2).trans (h.2 T hT)⟩
theorem Forced.step {l : List In} {fr : List Int} {i j : Nat} {t o : List Int} (hi : i < l.length) (h : Forced l fr i t) (ho : aftF l[i] t = some o) (hj : j < l.length) (ht : (j : Int) ∈ targF l[i] i) : Forced l fr j o :=
  ⟨.step i j hi h.1 hj ht, fun T hT => by
    obtain ⟨p, hp, hq⟩ := hT.step i hi h.1
    rw [h.2 T hT, ho] at hp
    cases hp
    exact hq j hj ht⟩
/-- Two lists along two paths. -/
theorem Forced.clash {l : List In} {fr : List Int} {i : Nat} {t u : List Int} (h : Forced l fr i t) (k : Forced l fr i u) (hne : t ≠ u) : ¬ ∃ T, Fits l fr T := fun ⟨T, hT⟩ => hne ((h.2 T hT).symm.trans (k.2 T hT))
theorem Forced.shut {l : List In} {fr : List Int} {i : Nat} {t : List Int} (hi : i < l.length) (h : Forced l fr i t) (ho : aftF l[i] t = none) : ¬ ∃ T, Fits l fr T := fun ⟨T, hT⟩ => by
  obtain ⟨p, hp, _⟩ := hT.step i hi h.1
  rw [h.2 T hT, ho] at hp
  cases hp
/-- A search that ended: what is known is closed. -/
structure Shut (l : List In) (fr : List Int) (L : Nat → Option (List Int)) : Prop where
  forced : ∀ i t, L i = some t → Forced l fr i t
  entry : ∀ i : Nat, (i : Int) ∈ fr → i < l.length → L i = some []
  hand : ∀ (i j : Nat) (hi : i < l.length) (t : List Int), L i = some t → j < l.length → l[i].op = 28 → l[i].to = j → L j = some t
  step : ∀ (i : Nat) (hi : i < l.length) (t : List Int), L i = some t → ∃ o, aftF l[i] t = some o ∧ ∀ j : Nat, j < l.length → (j : Int) ∈ targF l[i] i → L j = some o
theorem Shut.rch {l : List In} {fr : List Int} {L : Nat → Option (List Int)} (h : Shut l fr L) (i : Nat) : Rch l fr i ↔ ∃ t, L i = some t := by
  constructor
  · intro hr
    refine Rch.sub (fun i => ∃ t, L i = some t) (fun i h1 h2 => ⟨_, h.entry i h1 h2⟩) (fun i j hi hs hj ht => ?_) (fun i j hi hs hj h1 h2 => ?_) i hr
    · obtain ⟨t, e⟩ := hs
      obtain ⟨o, _, hq⟩ := h.step i hi t e
      exact ⟨o, hq j hj ht⟩
    · obtain ⟨t, e⟩ := hs
      exact ⟨t, h.hand i j hi t e hj h1 h2⟩
  · rintro ⟨t, e⟩
    exact (h.forced i t e).1
theorem Shut.fits {l : List In} {fr : List Int} {L : Nat → Option (List Int)} (h : Shut l fr L) : Fits l fr (fun i => (L i).getD []) := by
  constructor
  · intro i h1 h2
    simp [h.entry i h1 h2]
  · intro i j hi hr hj h1 h2
    obtain ⟨t, e⟩ := (h.rch i).1 hr
    simp [e, h.hand i j hi t e hj h1 h2]
  · intro i hi hr
    obtain ⟨t, e⟩ := (h.rch i).1 hr
    obtain ⟨o, ho, hq⟩ := h.step i hi t e
    refine ⟨o, by simpa [e] using ho, fun j hj ht => by simp [hq j hj ht]⟩
open Classical in
/-- What Reach returns. -/
noncomputable def reachF (l : List In) (fr : List Int) : List Bool := (List.range l.length).map fun i => decide (Rch l fr i)
open Classical in
/-- What Tries returns: the lists, the error. -/
noncomputable def triesF (l : List In) (fr : List Int) : List (List Int) × Int :=
  if ∃ k, k ∈ fr ∧ inR l k = false then ([], 2)
  else if h : ∃ T, Fits l fr T then ((List.range l.length).map fun i => if Rch l fr i then h.choose i else [], 0) else ([], 182)
theorem triesF_shut {l : List In} {fr : List Int} {L : Nat → Option (List Int)} (hin : ∀ k, k ∈ fr → inR l k = true) (h : Shut l fr L) : triesF l fr = ((List.range l.length).map fun i => (L i).getD [], 0) := by
  unfold triesF
  have hT : ∃ T, Fits l fr T := ⟨_, h.fits⟩
  rw [if_neg (fun ⟨k, hk, e⟩ => by rw [hin k hk] at e; cases e), dif_pos hT]
  congr 1
  apply List.map_congr_left
  intro i _
  split
  · rename_i hr
    exact Fits.one hT.choose_spec h.fits i hr
  · rename_i hr
    cases e : L i with
    | none => rfl
    | some t => exact absurd ((h.rch i).2 ⟨t, e⟩) hr
theorem triesF_arg {l : List In} {fr : List Int} {k : Int} (hk : k ∈ fr) (e : inR l k = false) : triesF l fr = ([], 2) := by unfold triesF; rw [if_pos ⟨k, hk, e⟩]
theorem triesF_try {l : List In} {fr : List Int} (hin : ∀ k, k ∈ fr → inR l k = true) (h : ¬ ∃ T, Fits l fr T) : triesF l fr = ([], 182) := by
  unfold triesF
  rw [if_neg (fun ⟨k, hk, e⟩ => by rw [hin k hk] at e; cases e), dif_neg h]
end Go.Proofs.YtekfnonjhcfdmaaDoor
