/- Plain: the reference's list of open messages beside the gatherer's: the same results, and lists that are permutations of one another. -/
import Derived.Test.YtbddggdbhfmlnaaFind
namespace Go.Proofs.Ytbddggdbhfmlnaa
open Go.RowKit Go.Mp

/-- What the reference's Feed hands back. -/
def rfeedF (L : List MsgD) (id : Int) (fi : Bool) (left : Int) (data : ByteArray) : ByteArray × Bool × Int × List MsgD :=
  if validB id left data = false then (ByteArray.empty, false, 2, L) else
  match Mp.get L id with
  | none => if fi = false then (ByteArray.empty, false, 6, L) else if 1 < left ∧ 64 ≤ L.length then (ByteArray.empty, false, 5, L) else
      if 1 < left then (ByteArray.empty, false, 0, L ++ [(id, ByteArray.empty ++ data, left - 1)]) else (ByteArray.empty ++ data, true, 0, L)
  | some (d, next) => if fi = true then (ByteArray.empty, false, 6, L) else if left ≠ next then (ByteArray.empty, false, 6, L) else if 262144 < d.size + data.size then (ByteArray.empty, false, 3, L) else
      if 1 < left then (ByteArray.empty, false, 0, Mp.del L id ++ [(id, d ++ data, left - 1)]) else (d ++ data, true, 0, Mp.del L id)

theorem get_some_mem : ∀ (P : PL) (k : Int) (v : ByteArray × Int), Mp.get P k = some v → (k, v) ∈ P
  | (a, u) :: r, k, v, h => by
    by_cases e : a = k
    · rw [Mp.get, if_pos e] at h
      cases h
      subst e
      simp
    · rw [Mp.get, if_neg e] at h
      exact List.mem_cons_of_mem _ (get_some_mem r k v h)
theorem get_of_mem : ∀ (P : PL) (k : Int) (v : ByteArray × Int), (P.map (·.1)).Nodup → (k, v) ∈ P → Mp.get P k = some v
  | (a, u) :: r, k, v, hn, h => by
    simp only [List.map_cons, List.nodup_cons] at hn
    rcases List.mem_cons.1 h with e | e
    · cases e; rw [Mp.get, if_pos rfl]
    · have : a ≠ k := fun q => hn.1 (q ▸ List.mem_map_of_mem (f := fun b : Int × (ByteArray × Int) => b.1) e)
      rw [Mp.get, if_neg this]
      exact get_of_mem r k v hn.2 e
theorem get_perm {P L : PL} (hp : P.Perm L) (hk : (P.map (·.1)).Nodup) (k : Int) : Mp.get P k = Mp.get L k := by
  have hk' : (L.map (·.1)).Nodup := (hp.map _).nodup_iff.1 hk
  cases h : Mp.get P k with
  | some v => exact (get_of_mem L k v hk' (hp.mem_iff.1 (get_some_mem P k v h))).symm
  | none =>
    cases h' : Mp.get L k with
    | none => rfl
    | some v =>
      have := get_of_mem P k v hk (hp.mem_iff.2 (get_some_mem L k v h'))
      rw [h] at this
      cases this
theorem del_filter : ∀ (P : PL) (k : Int), (P.map (·.1)).Nodup → Mp.del P k = P.filter (fun p => decide (p.1 ≠ k))
  | [], _, _ => rfl
  | (a, u) :: r, k, hn => by
    simp only [List.map_cons, List.nodup_cons] at hn
    by_cases e : a = k
    · subst e
      rw [Mp.del, if_pos rfl, List.filter_cons_of_neg (by simp)]
      refine (List.filter_eq_self.2 fun p hp => ?_).symm
      simp only [decide_eq_true_eq]
      intro q
      exact hn.1 (q ▸ List.mem_map_of_mem (f := fun b : Int × (ByteArray × Int) => b.1) hp)
    · rw [Mp.del, if_neg e, List.filter_cons_of_pos (by simpa using e), del_filter r k hn.2]
theorem del_perm {P L : PL} (hp : P.Perm L) (hk : (P.map (·.1)).Nodup) (k : Int) : (Mp.del P k).Perm (Mp.del L k) := by
  rw [del_filter P k hk, del_filter L k ((hp.map _).nodup_iff.1 hk)]
  exact hp.filter _
theorem put_perm : ∀ (P : PL) (k : Int) (u v : ByteArray × Int), Mp.get P k = some u → (Mp.put P k v).Perm (Mp.del P k ++ [(k, v)])
  | [], _, _, _, h => by cases h
  | (a, w) :: r, k, u, v, h => by
    by_cases e : a = k
    · rw [Mp.put, if_pos e, Mp.del, if_pos e]
      exact (List.perm_append_singleton _ _).symm
    · rw [Mp.get, if_neg e] at h
      rw [Mp.put, if_neg e, Mp.del, if_neg e, List.cons_append]
      exact (put_perm r k u v h).cons _

theorem feeds_agree {P L : PL} (hp : P.Perm L) (hk : (P.map (·.1)).Nodup) (id left : Int) (fi : Bool) (data : ByteArray) :
    (feedF P id fi left data).1 = (rfeedF L id fi left data).1 ∧ (feedF P id fi left data).2.1 = (rfeedF L id fi left data).2.1 ∧ (feedF P id fi left data).2.2.1 = (rfeedF L id fi left data).2.2.1 ∧ (feedF P id fi left data).2.2.2.Perm (rfeedF L id fi left data).2.2.2 := by
  have hg := get_perm hp hk id
  have hl := hp.length_eq
  unfold feedF rfeedF
  rw [← hg, hl]
  split
  · exact ⟨rfl, rfl, rfl, hp⟩
  · cases h : Mp.get P id with
    | none =>
      simp only
      split
      · exact ⟨rfl, rfl, rfl, hp⟩
      · split
        · exact ⟨rfl, rfl, rfl, hp⟩
        · split
          · exact ⟨rfl, rfl, rfl, by rw [Mp.put_none _ _ _ h]; exact hp.append_right _⟩
          · exact ⟨rfl, rfl, rfl, by rw [Mp.del_none _ _ h]; exact hp⟩
    | some q =>
      obtain ⟨d, next⟩ := q
      simp only
      split
      · exact ⟨rfl, rfl, rfl, hp⟩
      · split
        · exact ⟨rfl, rfl, rfl, hp⟩
        · split
          · exact ⟨rfl, rfl, rfl, hp⟩
          · split
            · exact ⟨rfl, rfl, rfl, (put_perm P id _ _ h).trans ((del_perm hp hk id).append_right _)⟩
            · exact ⟨rfl, rfl, rfl, del_perm hp hk id⟩

/-- What is open stays small. -/
theorem del_sub : ∀ (P : PL) (k : Int), (Mp.del P k).Sublist P
  | [], _ => by simp [Mp.del]
  | (a, u) :: r, k => by
    rw [Mp.del]
    split
    · exact List.sublist_cons_self _ _
    · exact (del_sub r k).cons_cons _
theorem rfeed_small {L : PL} {n : Nat} (hl : L.length ≤ n) (hs : ∀ p ∈ L, p.2.1.size ≤ 262144) (id left : Int) (fi : Bool) (data : ByteArray) :
    (rfeedF L id fi left data).2.2.2.length ≤ n + 1 ∧ ∀ p ∈ (rfeedF L id fi left data).2.2.2, p.2.1.size ≤ 262144 := by
  have hd := (del_sub L id).length_le
  unfold rfeedF
  split
  · exact ⟨by simp; omega, hs⟩
  · rename_i hv
    have hv' : validB id left data = true := by simpa using hv
    have := valid_of hv'
    cases h : Mp.get L id with
    | none =>
      simp only
      repeat' split
      all_goals first
        | exact ⟨by simp; omega, hs⟩
        | (refine ⟨by simp; omega, fun p hp => ?_⟩
           simp only [List.mem_append, List.mem_singleton] at hp
           rcases hp with hp | rfl
           · exact hs p hp
           · simp; omega)
    | some q =>
      obtain ⟨d, next⟩ := q
      simp only
      repeat' split
      all_goals first
        | exact ⟨by simp; omega, hs⟩
        | exact ⟨by simp; omega, fun p hp => hs p ((del_sub L id).subset hp)⟩
        | (refine ⟨by simp; omega, fun p hp => ?_⟩
           simp only [List.mem_append, List.mem_singleton] at hp
           rcases hp with hp | rfl
           · exact hs p ((del_sub L id).subset hp)
           · simp; omega)
end Go.Proofs.Ytbddggdbhfmlnaa
