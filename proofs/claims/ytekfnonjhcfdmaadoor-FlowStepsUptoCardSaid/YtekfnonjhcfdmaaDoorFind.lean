/- Layer 17, plain: a search step by step. -/
import Derived.Test.YtekfnonjhcfdmaaDoorPass
namespace Go.Proofs.YtekfnonjhcfdmaaDoor

/-- How many are not known yet. -/
def un (Q : Nat → Option (List Int)) (n : Nat) : Nat := ((List.range n).filter fun i => (Q i).isNone).length
theorem un_le (Q : Nat → Option (List Int)) (n : Nat) : un Q n ≤ n := by
  have := List.length_filter_le (fun i => (Q i).isNone) (List.range n)
  simpa [un] using this
theorem un_set (Q : Nat → Option (List Int)) (i : Nat) (t : List Int) : ∀ n, i < n → Q i = none → un (setQ Q i t) n + 1 = un Q n
  | 0, h, _ => by omega
  | n + 1, h, hq => by
    unfold un
    rw [List.range_succ, List.filter_append, List.filter_append, List.length_append, List.length_append]
    by_cases hin : i = n
    · subst hin
      have e1 : (List.range i).filter (fun k => (setQ Q i t k).isNone) = (List.range i).filter fun k => (Q k).isNone := List.filter_congr fun k hk => by
        have := List.mem_range.1 hk
        unfold setQ
        rw [if_neg (by omega)]
      rw [e1]
      simp [setQ, hq]
    · have := un_set Q i t n (by omega) hq
      unfold un at this
      have e2 : (setQ Q i t n).isNone = (Q n).isNone := by unfold setQ; rw [if_neg (fun e => hin e.symm)]
      simp only [List.filter_cons, List.filter_nil, e2]
      omega
/-- What is known stays. -/
def LeQ (Q Q' : Nat → Option (List Int)) : Prop := ∀ i t, Q i = some t → Q' i = some t
theorem LeQ.refl (Q : Nat → Option (List Int)) : LeQ Q Q := fun _ _ h => h
theorem LeQ.trans {a b c : Nat → Option (List Int)} (h : LeQ a b) (k : LeQ b c) : LeQ a c := fun i t q => k i t (h i t q)
/-- An instruction is done with. -/
def Don (l : List In) (Q : Nat → Option (List Int)) (i : Nat) (t : List Int) : Prop :=
  ∀ hi : i < l.length, (∀ j : Nat, j < l.length → l[i].op = 28 → l[i].to = j → Q j = some t) ∧ ∃ o, aftF l[i] t = some o ∧ ∀ j : Nat, j < l.length → (j : Int) ∈ targF l[i] i → Q j = some o
theorem Don.le {l : List In} {Q Q' : Nat → Option (List Int)} {i : Nat} {t : List Int} (h : Don l Q i t) (hq : LeQ Q Q') : Don l Q' i t := fun hi => by
  obtain ⟨h1, o, h2, h3⟩ := h hi
  exact ⟨fun j hj a b => hq _ _ (h1 j hj a b), o, h2, fun j hj a => hq _ _ (h3 j hj a)⟩
/-- The search's invariant; x is being treated. -/
structure SI (l : List In) (fr : List Int) (Q : Nat → Option (List Int)) (O : List Int) (x : Int) : Prop where
  forced : ∀ i t, Q i = some t → Forced l fr i t
  opens : ∀ k ∈ O, ∃ j : Nat, k = j ∧ ∃ t, Q j = some t
  closed : ∀ i t, Q i = some t → (i : Int) ∉ O → (i : Int) ≠ x → Don l Q i t
  cnt : O.length + un Q l.length ≤ l.length
theorem SI.start (l : List In) (fr : List Int) : SI l fr (fun _ => none) [] (-1) := ⟨fun _ _ h => (by cases h), fun _ h => (by cases h), fun _ _ h => (by cases h), by simpa using un_le _ _⟩
/-- One pass. -/
theorem SI.pass {l : List In} {fr : List Int} {Q : Nat → Option (List Int)} {O : List Int} {x : Int} (h : SI l fr Q O x) (i : Int) (t : List Int) (hf : ∀ j : Nat, i = j → j < l.length → Forced l fr j t) :
    ((passF Q l.length O i t).1 = false → ¬ ∃ T, Fits l fr T) ∧
    ((passF Q l.length O i t).1 = true → SI l fr (passF Q l.length O i t).2.1 (passF Q l.length O i t).2.2 x ∧ LeQ Q (passF Q l.length O i t).2.1 ∧ (∀ j : Nat, i = j → j < l.length → (passF Q l.length O i t).2.1 j = some t) ∧ 2 * un (passF Q l.length O i t).2.1 l.length + (passF Q l.length O i t).2.2.length ≤ 2 * un Q l.length + O.length) := by
  unfold passF
  by_cases hi : 0 ≤ i ∧ i < l.length
  · rw [if_pos hi]
    obtain ⟨k, rfl⟩ := Int.eq_ofNat_of_zero_le hi.1
    have hk : k < l.length := by omega
    have hfk := hf k rfl hk
    rw [Int.toNat_natCast]
    cases hq : Q k with
    | some u =>
      refine ⟨fun e => ?_, fun e => ⟨h, LeQ.refl _, fun j hj hjl => ?_, Nat.le_refl _⟩⟩
      · exact Forced.clash (h.forced k u hq) hfk (of_decide_eq_false e)
      · obtain rfl : j = k := by omega
        simp only at e ⊢
        rw [hq, of_decide_eq_true e]
    | none =>
      have hle : LeQ Q (setQ Q k t) := fun j u hj => by
        unfold setQ
        rw [if_neg (fun e => by subst e; rw [hq] at hj; cases hj)]
        exact hj
      have hun := un_set Q k t l.length hk hq
      refine ⟨fun e => (by cases e), fun _ => ⟨⟨fun j u hj => ?_, fun y hy => ?_, fun j u hj hjo hjx => ?_, ?_⟩, hle, fun j hj hjl => ?_, ?_⟩⟩
      · dsimp only at hj
        unfold setQ at hj
        by_cases hjk : j = k
        · subst hjk
          rw [if_pos rfl] at hj
          cases hj
          exact hfk
        · rw [if_neg hjk] at hj
          exact h.forced j u hj
      · rcases List.mem_append.1 hy with hy | hy
        · obtain ⟨j, e, u, hu⟩ := h.opens y hy
          exact ⟨j, e, u, hle _ _ hu⟩
        · rw [List.mem_singleton] at hy
          exact ⟨k, hy, t, by simp [setQ]⟩
      · rw [List.mem_append, not_or, List.mem_singleton] at hjo
        have hjk : j ≠ k := fun e => hjo.2 (by rw [e])
        simp only [setQ] at hj
        rw [if_neg hjk] at hj
        exact (h.closed j u hj hjo.1 hjx).le hle
      · have := h.cnt
        simp only [List.length_append, List.length_cons, List.length_nil]
        omega
      · obtain rfl : j = k := by omega
        simp [setQ]
      · simp only [List.length_append, List.length_cons, List.length_nil]
        omega
  · rw [if_neg hi]
    exact ⟨fun e => (by cases e), fun _ => ⟨h, LeQ.refl _, fun j hj hjl => absurd ⟨by omega, by omega⟩ hi, Nat.le_refl _⟩⟩
/-- The last one is taken. -/
theorem SI.pop {l : List In} {fr : List Int} {Q : Nat → Option (List Int)} {O : List Int} {y : Int} (h : SI l fr Q (O ++ [y]) (-1)) : ∃ (j : Nat) (t : List Int), y = j ∧ j < l.length ∧ Q j = some t ∧ Forced l fr j t ∧ SI l fr Q O j := by
  obtain ⟨j, e, t, ht⟩ := h.opens y (by simp)
  have hf := h.forced j t ht
  refine ⟨j, t, e, hf.1.lt, ht, hf, ⟨h.forced, fun k hk => h.opens k (by simp [hk]), fun i u hi ho hx => h.closed i u hi (fun hm => ?_) (by omega), by have := h.cnt; simp at this; omega⟩⟩
  rw [List.mem_append, List.mem_singleton] at hm
  rcases hm with hm | hm
  · exact ho hm
  · exact hx (by rw [hm, e])
/-- It is done with. -/
theorem SI.done {l : List In} {fr : List Int} {Q : Nat → Option (List Int)} {O : List Int} {j : Nat} {t : List Int} (h : SI l fr Q O j) (hj : Q j = some t) (hd : Don l Q j t) : SI l fr Q O (-1) :=
  ⟨h.forced, h.opens, fun i u hi ho _ => by
    by_cases hij : i = j
    · subst hij
      rw [hj] at hi
      cases hi
      exact hd
    · exact h.closed i u hi ho (by omega), h.cnt⟩
/-- The end. -/
theorem SI.shut {l : List In} {fr : List Int} {Q : Nat → Option (List Int)} (h : SI l fr Q [] (-1)) (he : ∀ i : Nat, (i : Int) ∈ fr → i < l.length → Q i = some []) : Shut l fr Q := by
  have hc : ∀ i t, Q i = some t → Don l Q i t := fun i t hi => h.closed i t hi (by simp) (by omega)
  exact ⟨h.forced, he, fun i j hi t hq hj h1 h2 => (hc i t hq hi).1 j hj h1 h2, fun i hi t hq => (hc i t hq hi).2⟩
end Go.Proofs.YtekfnonjhcfdmaaDoor
