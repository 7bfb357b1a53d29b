/- Plain: interleaved messages: what a gatherer does with the next piece of one of them. -/
import Derived.Test.YtbddggdbhfmlnaaGathersP
namespace Go.Proofs.Ytbddggdbhfmlnaa
open Go.RowKit Go.Mp

/-- feed looks at its own message alone. -/
theorem feed_local {P Q R : PL} (hp : P.Perm (Q ++ R)) (hk : (P.map (·.1)).Nodup) (id left : Int) (fi : Bool) (data : ByteArray) (hR : ∀ p ∈ R, p.1 ≠ id) (hl : P.length < 64) :
    (feedF P id fi left data).1 = (feedF Q id fi left data).1 ∧ (feedF P id fi left data).2.1 = (feedF Q id fi left data).2.1 ∧ (feedF P id fi left data).2.2.1 = (feedF Q id fi left data).2.2.1 ∧
      (feedF P id fi left data).2.2.2.Perm ((feedF Q id fi left data).2.2.2 ++ R) := by
  have hkq : ((Q ++ R).map (·.1)).Nodup := (hp.map _).nodup_iff.1 hk
  have hql : Q.length < 64 := by have := hp.length_eq; rw [List.length_append] at this; omega
  have hgR : Mp.get R id = none := by
    cases h : Mp.get R id with
    | none => rfl
    | some v => exact absurd rfl (hR _ (get_some_mem R id v h))
  have gapp : ∀ Q : PL, Mp.get (Q ++ R) id = Mp.get Q id := by
    intro Q
    induction Q with
    | nil => rw [List.nil_append, hgR]; rfl
    | cons q r ih =>
      obtain ⟨a, u⟩ := q
      rw [List.cons_append, Mp.get, Mp.get, ih]
  have papp : ∀ (Q : PL) (v : ByteArray × Int), (Mp.put (Q ++ R) id v).Perm (Mp.put Q id v ++ R) := by
    intro Q v
    induction Q with
    | nil =>
      rw [List.nil_append, Mp.put_none _ _ _ hgR]
      exact List.perm_append_singleton _ _
    | cons q r ih =>
      obtain ⟨a, u⟩ := q
      rw [List.cons_append, Mp.put, Mp.put]
      split
      · exact List.Perm.refl _
      · exact ih.cons _
  have dapp : ∀ Q : PL, (Mp.del (Q ++ R) id) = (Mp.del Q id ++ R) := by
    intro Q
    induction Q with
    | nil => rw [List.nil_append, Mp.del_none _ _ hgR]; rfl
    | cons q r ih =>
      obtain ⟨a, u⟩ := q
      rw [List.cons_append, Mp.del, Mp.del]
      split
      · rfl
      · rw [ih]; rfl
  have hg : Mp.get P id = Mp.get Q id := (get_perm hp hk id).trans (gapp Q)
  have hput : ∀ u v, Mp.get P id = some u → (Mp.put P id v).Perm (Mp.put Q id v ++ R) := by
    intro u v h
    refine ((put_perm P id u v h).trans ((del_perm hp hk id).append_right _)).trans ?_
    exact (put_perm (Q ++ R) id u v ((gapp Q).trans (hg ▸ h))).symm.trans (papp Q v)
  have hput0 : ∀ v, Mp.get P id = none → (Mp.put P id v).Perm (Mp.put Q id v ++ R) := by
    intro v h
    rw [Mp.put_none _ _ _ h, Mp.put_none _ _ _ (hg ▸ h)]
    refine (hp.append_right _).trans ?_
    rw [List.append_assoc, List.append_assoc]
    exact List.Perm.append_left _ List.perm_append_comm
  have hdel : (Mp.del P id).Perm (Mp.del Q id ++ R) := by rw [← dapp]; exact del_perm hp hk id
  unfold feedF
  rw [← hg]
  split
  · exact ⟨rfl, rfl, rfl, hp⟩
  · cases h : Mp.get P id with
    | none =>
      simp only
      rw [if_neg (show ¬ (1 < left ∧ 64 ≤ P.length) by omega), if_neg (show ¬ (1 < left ∧ 64 ≤ Q.length) by omega)]
      split
      · exact ⟨rfl, rfl, rfl, hp⟩
      · split
        · exact ⟨rfl, rfl, rfl, hput0 _ h⟩
        · exact ⟨rfl, rfl, rfl, hdel⟩
    | some q =>
      obtain ⟨d, next⟩ := q
      simp only
      split
      · exact ⟨rfl, rfl, rfl, hp⟩
      · split
        · exact ⟨rfl, rfl, rfl, hp⟩
        · split
          · exact ⟨rfl, rfl, rfl, hp⟩
          · split
            · exact ⟨rfl, rfl, rfl, hput _ _ h⟩
            · exact ⟨rfl, rfl, rfl, hdel⟩

/-- A message under way: its ID, its text, how many of its pieces have come. -/
abbrev Way := Int × ByteArray × Nat
def openE (most : Nat) (a : Way) : PL := openK a.1 a.2.1 most a.2.2
def openA (most : Nat) (A : List Way) : PL := A.flatMap (openE most)
theorem openA_len (most : Nat) (A : List Way) : (openA most A).length ≤ A.length := by
  induction A with
  | nil => simp [openA]
  | cons a r ih =>
    have := openK_len a.1 a.2.1 most a.2.2
    simp only [openA, List.flatMap_cons, List.length_append, List.length_cons] at ih ⊢
    unfold openE at ih ⊢
    omega
theorem openE_id (most : Nat) (a : Way) : ∀ p ∈ openE most a, p.1 = a.1 := by
  unfold openE openK
  split
  · intro p hp; simp only [List.mem_singleton] at hp; subst hp; rfl
  · simp
theorem openA_id (most : Nat) (A : List Way) : ∀ p ∈ openA most A, ∃ a ∈ A, p.1 = a.1 := by
  intro p hp
  obtain ⟨a, ha, h⟩ := List.mem_flatMap.1 hp
  exact ⟨a, ha, openE_id most a p h⟩
theorem openE_small (most : Nat) (a : Way) (h : a.2.1.size ≤ 262144) : ∀ p ∈ openE most a, p.2.1.size ≤ 262144 := openK_small _ _ _ _ h
theorem openA_nodup (most : Nat) : ∀ (A : List Way), (A.map (·.1)).Nodup → ((openA most A).map (·.1)).Nodup
  | [], _ => by simp [openA]
  | a :: r, h => by
    simp only [List.map_cons, List.nodup_cons] at h
    simp only [openA, List.flatMap_cons, List.map_append]
    rw [List.nodup_append]
    refine ⟨?_, openA_nodup most r h.2, ?_⟩
    · unfold openE openK
      split <;> simp
    · intro x hx y hy e
      subst e
      obtain ⟨p, hp, rfl⟩ := List.mem_map.1 hx
      obtain ⟨q, hq, e⟩ := List.mem_map.1 hy
      obtain ⟨b, hb, e'⟩ := openA_id most r q hq
      rw [openE_id most a p hp] at e
      exact h.1 (by rw [← e, e']; exact List.mem_map_of_mem (f := fun b : Way => b.1) hb)
theorem split_at {α : Type} {A : List α} {k : Nat} (h : k < A.length) : A = A.take k ++ A[k] :: A.drop (k + 1) := by
  rw [← List.drop_eq_getElem_cons h, List.take_append_drop]
/-- The next piece of message k. -/
theorem weave_feed {P : PL} {A : List Way} {most k : Nat} (hp : P.Perm (openA most A)) (hn : (A.map (·.1)).Nodup) (hk : k < A.length) (hA : A.length ≤ 60) (h1 : 1 ≤ A[k].1) (h2 : A[k].1 ≤ 2147483647)
    (hm : 1 ≤ most) (hm2 : most ≤ 4096) (hd : A[k].2.1.size ≤ 3000) (hi : A[k].2.2 < manyK A[k].2.1 most) :
    (feedF P A[k].1 (decide (A[k].2.2 = 0)) ((manyK A[k].2.1 most : Int) - (A[k].2.2 : Int)) (partK A[k].2.1 most A[k].2.2)).1 = (if A[k].2.2 + 1 = manyK A[k].2.1 most then A[k].2.1 else ByteArray.empty) ∧
    (feedF P A[k].1 (decide (A[k].2.2 = 0)) ((manyK A[k].2.1 most : Int) - (A[k].2.2 : Int)) (partK A[k].2.1 most A[k].2.2)).2.1 = decide (A[k].2.2 + 1 = manyK A[k].2.1 most) ∧
    (feedF P A[k].1 (decide (A[k].2.2 = 0)) ((manyK A[k].2.1 most : Int) - (A[k].2.2 : Int)) (partK A[k].2.1 most A[k].2.2)).2.2.1 = 0 ∧
    (feedF P A[k].1 (decide (A[k].2.2 = 0)) ((manyK A[k].2.1 most : Int) - (A[k].2.2 : Int)) (partK A[k].2.1 most A[k].2.2)).2.2.2.Perm
      (openA most (if A[k].2.2 + 1 = manyK A[k].2.1 most then A.eraseIdx k else A.set k (A[k].1, A[k].2.1, A[k].2.2 + 1))) := by
  have hk' : (P.map (·.1)).Nodup := (hp.map _).nodup_iff.2 (openA_nodup most A hn)
  have hs := split_at hk
  obtain ⟨a, ha⟩ : ∃ a, a = A[k] := ⟨_, rfl⟩
  rw [← ha] at hs h1 h2 hd hi ⊢
  have hperm : P.Perm (openE most a ++ (openA most (A.take k) ++ openA most (A.drop (k + 1)))) := by
    refine hp.trans ?_
    have e : openA most A = openA most (A.take k) ++ (openE most a ++ openA most (A.drop (k + 1))) := by
      conv => lhs; rw [hs]
      simp [openA]
    rw [e, ← List.append_assoc, ← List.append_assoc]
    exact List.perm_append_comm.append_right _
  have hR : ∀ p ∈ openA most (A.take k) ++ openA most (A.drop (k + 1)), p.1 ≠ a.1 := by
    rw [hs, List.map_append, List.map_cons, List.nodup_append, List.nodup_cons] at hn
    obtain ⟨_, ⟨n2, _⟩, n4⟩ := hn
    intro p hp e
    rcases List.mem_append.1 hp with h | h
    · obtain ⟨b, hb, e'⟩ := openA_id most _ p h
      exact n4 b.1 (List.mem_map_of_mem (f := fun b : Way => b.1) hb) a.1 (by simp) (e' ▸ e)
    · obtain ⟨b, hb, e'⟩ := openA_id most _ p h
      exact n2 (by rw [← e, e']; exact List.mem_map_of_mem (f := fun b : Way => b.1) hb)
  have hlen : P.length < 64 := by
    have := hp.length_eq
    have := openA_len most A
    omega
  obtain ⟨q1, q2, q3, q4⟩ := feed_local hperm hk' a.1 ((manyK a.2.1 most : Int) - (a.2.2 : Int)) (decide (a.2.2 = 0)) (partK a.2.1 most a.2.2) hR hlen
  have hf := feed_piece a.1 a.2.1 most a.2.2 h1 h2 hm hm2 (by omega) hi
  rw [show openE most a = openK a.1 a.2.1 most a.2.2 from rfl] at q1 q2 q3 q4
  rw [hf] at q1 q2 q3 q4
  refine ⟨q1, q2, q3, q4.trans ?_⟩
  simp only
  split
  · rename_i he
    have e0 : openK a.1 a.2.1 most (a.2.2 + 1) = [] := by unfold openK; rw [if_neg (by omega)]
    rw [e0, List.nil_append, List.eraseIdx_eq_take_drop_succ]
    simp [openA]
  · rename_i he
    have e1 : A.set k (a.1, a.2.1, a.2.2 + 1) = A.take k ++ (a.1, a.2.1, a.2.2 + 1) :: A.drop (k + 1) := by
      rw [List.set_eq_take_append_cons_drop, if_pos hk]
    rw [e1]
    simp only [openA, List.flatMap_append, List.flatMap_cons]
    rw [← List.append_assoc, ← List.append_assoc]
    exact List.perm_append_comm.append_right _

/-- How many pieces are still to come. -/
def leftA (most : Nat) : List Way → Nat
  | [] => 0
  | a :: r => (manyK a.2.1 most - a.2.2) + leftA most r
theorem left_append (most : Nat) (A B : List Way) : leftA most (A ++ B) = leftA most A + leftA most B := by
  induction A with
  | nil => simp [leftA]
  | cons a r ih => simp only [List.cons_append, leftA, ih]; omega
theorem left_next {most k : Nat} {A : List Way} (hk : k < A.length) (hi : A[k].2.2 < manyK A[k].2.1 most) :
    leftA most (if A[k].2.2 + 1 = manyK A[k].2.1 most then A.eraseIdx k else A.set k (A[k].1, A[k].2.1, A[k].2.2 + 1)) + 1 = leftA most A := by
  have hs := split_at hk
  obtain ⟨a, ha⟩ : ∃ a, a = A[k] := ⟨_, rfl⟩
  rw [← ha] at hs hi ⊢
  have e : leftA most A = leftA most (A.take k) + (manyK a.2.1 most - a.2.2 + leftA most (A.drop (k + 1))) := by
    conv => lhs; rw [hs]
    rw [left_append]; rfl
  rw [e]
  split
  · rw [List.eraseIdx_eq_take_drop_succ, left_append]; omega
  · rw [List.set_eq_take_append_cons_drop, if_pos hk, left_append]
    simp only [leftA]
    omega
end Go.Proofs.Ytbddggdbhfmlnaa
