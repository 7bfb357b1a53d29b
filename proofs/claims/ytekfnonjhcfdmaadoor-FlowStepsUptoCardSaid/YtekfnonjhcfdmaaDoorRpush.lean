/- flow.Reach's closure push; the plain search. -/
import Derived.Test.YtekfnonjhcfdmaaDoorRst
namespace Go.Proofs.YtekfnonjhcfdmaaDoor
open Go.RowKit Go.Rt Go.Rw

set_option maxRecDepth 100000 in
set_option maxHeartbeats 4000000 in
theorem push47 {Bl Bs Bo gS base : Nat} {sa : Option Addr} {cap n : Nat} {F : List Nat} {Q : Nat → Bool} {O : List Int} (w : World) (i : Int) (h : RS Bl Bs Bo gS base (.slice sa n cap) n F Q O w) (hO : O.length + 1 ≤ 10000000000000) :
    Calls Tryd.prog 47 #[.int .i64 i, .pointer (some ⟨Bl, 0, none⟩), .pointer (some ⟨Bs, 0, none⟩), .pointer (some ⟨Bo, 0, none⟩)] w fun e w' =>
      e = .returned (.tuple #[]) ∧ RS Bl Bs Bo gS base (.slice sa n cap) n F (pushF Q n O i).1 (pushF Q n O i).2 w' ∧ RK base F w w' := by
  have HS := Lib.hid h
  have cl := h.l.cell
  by_cases h0 : 0 ≤ i
  · by_cases h1 : i < (n : Int)
    · obtain ⟨k, rfl⟩ := Int.eq_ofNat_of_zero_le h0
      have hk : k < n := by omega
      have cs := h.bs.cell
      have ck : w.cell? ⟨gS, k, none⟩ = some (.bool (Q k)) := by
        have := h.seen.cell k
        simpa [hk] using this
      have fk := h.seen.frozen k
      cases hq : Q k with
      | true =>
        have HP : Hid (pushF Q n O k = (Q, O)) := Lib.hid (by unfold pushF; rw [if_neg (fun q => by have := q.2.2; rw [Int.toNat_natCast, hq] at this; cases this)])
        rw [hq] at ck
        clear h hq
        rw [HP.out]
        go_enter Tryd.func47, Tryd.ntmps47
        go_wp2_with fail
        go_end0
        exact ⟨rfl, HS.out, RK.refl⟩
      | false =>
        have HP : Hid (pushF Q n O k = (setB Q k, O ++ [(k : Int)])) := Lib.hid (by unfold pushF; rw [if_pos ⟨by omega, by omega, by rw [Int.toNat_natCast]; exact hq⟩, Int.toNat_natCast])
        rw [hq] at ck
        obtain ⟨m1, m2⟩ := h.mark hk
        have M1 := Lib.hid m1
        have M2 := Lib.hid m2
        clear h hq m1 m2
        rw [HP.out]
        go_enter Tryd.func47, Tryd.ntmps47
        go_upto_region 2 with fail
        generalize w.setCell ⟨gS, k, none⟩ (.bool true) = w5 at M1 M2 ⊢
        obtain ⟨sb, co, g, cap2, W2, q1, hrun, q2, q3, q4⟩ := M1.out.push k hO
        have HRN := Lib.hid hrun
        have Q3 := Lib.hid q3
        have Q4 := Lib.hid (M2.out.trans q4)
        have d0 := q1.cell
        have d1 := q2.cell
        have d2 := q2.frozen
        clear hrun q1 q2 q3 q4 M1 M2 cs ck fk cl
        go_wp2_with (at_builtin; refine wpList_append_run rfl _ _ 23 23 rfl rfl rfl HRN.out ?_)
        go_end0
        exact ⟨rfl, Q3.out, Q4.out⟩
    · have HP : Hid (pushF Q n O i = (Q, O)) := Lib.hid (by unfold pushF; rw [if_neg (fun q => h1 q.2.1)])
      clear h
      rw [HP.out]
      go_enter Tryd.func47, Tryd.ntmps47
      go_wp2_with fail
      go_end0
      exact ⟨rfl, HS.out, RK.refl⟩
  · have HP : Hid (pushF Q n O i = (Q, O)) := Lib.hid (by unfold pushF; rw [if_neg (fun q => h0 q.1)])
    clear h
    rw [HP.out]
    go_enter Tryd.func47, Tryd.ntmps47
    go_wp2_with fail
    go_end0
    exact ⟨rfl, HS.out, RK.refl⟩
/-- How many are not marked yet. -/
def unB (Q : Nat → Bool) (n : Nat) : Nat := ((List.range n).filter fun i => !Q i).length
theorem unB_le (Q : Nat → Bool) (n : Nat) : unB Q n ≤ n := by
  have := List.length_filter_le (fun i => !Q i) (List.range n)
  simpa [unB] using this
theorem unB_set (Q : Nat → Bool) (i : Nat) : ∀ n, i < n → Q i = false → unB (setB Q i) n + 1 = unB Q n
  | 0, h, _ => by omega
  | n + 1, h, hq => by
    unfold unB
    rw [List.range_succ, List.filter_append, List.filter_append, List.length_append, List.length_append]
    by_cases hin : i = n
    · subst hin
      have e1 : (List.range i).filter (fun k => !setB Q i k) = (List.range i).filter fun k => !Q k := List.filter_congr fun k hk => by
        have := List.mem_range.1 hk
        unfold setB
        rw [if_neg (by omega)]
      rw [e1]
      simp [setB, hq]
    · have := unB_set Q i n (by omega) hq
      unfold unB at this
      have e2 : (setB Q i n) = Q n := by unfold setB; rw [if_neg (fun e => hin e.symm)]
      simp only [List.filter_cons, List.filter_nil, e2]
      omega
def LeB (Q Q' : Nat → Bool) : Prop := ∀ i, Q i = true → Q' i = true
theorem LeB.refl (Q : Nat → Bool) : LeB Q Q := fun _ h => h
theorem LeB.trans {a b c : Nat → Bool} (h : LeB a b) (k : LeB b c) : LeB a c := fun i q => k i (h i q)
/-- An instruction is done with. -/
def DonB (l : List In) (Q : Nat → Bool) (i : Nat) : Prop :=
  ∀ hi : i < l.length, (∀ j : Nat, j < l.length → l[i].op = 28 → l[i].to = j → Q j = true) ∧ ∀ j : Nat, j < l.length → (j : Int) ∈ targF l[i] i → Q j = true
theorem DonB.le {l : List In} {Q Q' : Nat → Bool} {i : Nat} (h : DonB l Q i) (hq : LeB Q Q') : DonB l Q' i := fun hi => by
  obtain ⟨h1, h3⟩ := h hi
  exact ⟨fun j hj a b => hq _ (h1 j hj a b), fun j hj a => hq _ (h3 j hj a)⟩
/-- The search's invariant; x is being treated. -/
structure RI (l : List In) (fr : List Int) (Q : Nat → Bool) (O : List Int) (x : Int) : Prop where
  sound : ∀ i, Q i = true → Rch l fr i
  opens : ∀ k ∈ O, ∃ j : Nat, k = j ∧ Q j = true
  closed : ∀ i, Q i = true → (i : Int) ∉ O → (i : Int) ≠ x → DonB l Q i
  cnt : O.length + unB Q l.length ≤ l.length
theorem RI.start (l : List In) (fr : List Int) : RI l fr (fun _ => false) [] (-1) := ⟨fun _ h => (by cases h), fun _ h => (by cases h), fun _ h => (by cases h), by simpa using unB_le _ _⟩
theorem RI.push {l : List In} {fr : List Int} {Q : Nat → Bool} {O : List Int} {x : Int} (h : RI l fr Q O x) (i : Int) (hf : ∀ j : Nat, i = j → j < l.length → Rch l fr j) :
    RI l fr (pushF Q l.length O i).1 (pushF Q l.length O i).2 x ∧ LeB Q (pushF Q l.length O i).1 ∧ (∀ j : Nat, i = j → j < l.length → (pushF Q l.length O i).1 j = true) ∧ 2 * unB (pushF Q l.length O i).1 l.length + (pushF Q l.length O i).2.length ≤ 2 * unB Q l.length + O.length := by
  unfold pushF
  by_cases hi : 0 ≤ i ∧ i < l.length ∧ Q i.toNat = false
  · rw [if_pos hi]
    obtain ⟨k, rfl⟩ := Int.eq_ofNat_of_zero_le hi.1
    have hk : k < l.length := by omega
    have hq := hi.2.2
    rw [Int.toNat_natCast] at hq ⊢
    have hle : LeB Q (setB Q k) := fun j hj => by
      unfold setB
      split
      · rfl
      · exact hj
    have hun := unB_set Q k l.length hk hq
    refine ⟨⟨fun j hj => ?_, fun y hy => ?_, fun j hj hjo hjx => ?_, ?_⟩, hle, fun j hj hjl => ?_, ?_⟩
    · dsimp only at hj
      unfold setB at hj
      by_cases hjk : j = k
      · subst hjk
        exact hf j rfl hk
      · rw [if_neg hjk] at hj
        exact h.sound j hj
    · rcases List.mem_append.1 hy with hy | hy
      · obtain ⟨j, e, hu⟩ := h.opens y hy
        exact ⟨j, e, hle _ hu⟩
      · rw [List.mem_singleton] at hy
        exact ⟨k, hy, by simp [setB]⟩
    · rw [List.mem_append, not_or, List.mem_singleton] at hjo
      have hjk : j ≠ k := fun e => hjo.2 (by rw [e])
      simp only [setB] at hj
      rw [if_neg hjk] at hj
      exact (h.closed j hj hjo.1 hjx).le hle
    · have := h.cnt
      simp only [List.length_append, List.length_cons, List.length_nil]
      omega
    · obtain rfl : j = k := by omega
      simp [setB]
    · simp only [List.length_append, List.length_cons, List.length_nil]
      omega
  · rw [if_neg hi]
    refine ⟨h, LeB.refl _, fun j hj hjl => ?_, Nat.le_refl _⟩
    subst hj
    cases hq : Q j with
    | true => exact hq
    | false => exact absurd ⟨by omega, by omega, by rw [Int.toNat_natCast]; exact hq⟩ hi
theorem RI.pop {l : List In} {fr : List Int} {Q : Nat → Bool} {O : List Int} {y : Int} (h : RI l fr Q (O ++ [y]) (-1)) : ∃ j : Nat, y = j ∧ j < l.length ∧ Q j = true ∧ Rch l fr j ∧ RI l fr Q O j := by
  obtain ⟨j, e, ht⟩ := h.opens y (by simp)
  have hf := h.sound j ht
  refine ⟨j, e, hf.lt, ht, hf, ⟨h.sound, fun k hk => h.opens k (by simp [hk]), fun i hi ho hx => h.closed i hi (fun hm => ?_) (by omega), by have := h.cnt; simp at this; omega⟩⟩
  rw [List.mem_append, List.mem_singleton] at hm
  rcases hm with hm | hm
  · exact ho hm
  · exact hx (by rw [hm, e])
theorem RI.done {l : List In} {fr : List Int} {Q : Nat → Bool} {O : List Int} {j : Nat} (h : RI l fr Q O j) (hd : DonB l Q j) : RI l fr Q O (-1) :=
  ⟨h.sound, h.opens, fun i hi ho _ => by
    by_cases hij : i = j
    · subst hij
      exact hd
    · exact h.closed i hi ho (by omega), h.cnt⟩
theorem RI.fin {l : List In} {fr : List Int} {Q : Nat → Bool} (h : RI l fr Q [] (-1)) (he : ∀ i : Nat, (i : Int) ∈ fr → i < l.length → Q i = true) (i : Nat) : Q i = true ↔ Rch l fr i := by
  have hc : ∀ i, Q i = true → DonB l Q i := fun i hi => h.closed i hi (by simp) (by omega)
  exact ⟨h.sound i, fun hr => Rch.sub (fun i => Q i = true) he (fun i j hi hq hj ht => (hc i hq hi).2 j hj ht) (fun i j hi hq hj h1 h2 => (hc i hq hi).1 j hj h1 h2) i hr⟩
end Go.Proofs.YtekfnonjhcfdmaaDoor
