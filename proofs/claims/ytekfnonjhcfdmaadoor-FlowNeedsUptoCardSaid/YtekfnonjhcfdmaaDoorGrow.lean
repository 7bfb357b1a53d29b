/- Plain: the reference's live places: sets that grow. -/
import Derived.Test.YtekfnonjhcfdmaaDoorRef2
namespace Go.Proofs.YtekfnonjhcfdmaaDoor

theorem up_len : ∀ (R M : List Int), Up R → (∀ x ∈ R, x ∈ M) → R.length ≤ M.length
  | [], _, _, _ => Nat.zero_le _
  | a :: r, M, hu, hm => by
    obtain ⟨h1, h2⟩ := List.pairwise_cons.1 hu
    have ha := hm a (List.mem_cons_self ..)
    have := up_len r (M.erase a) h2 (fun x hx => (List.mem_erase_of_ne (by have := h1 x hx; omega)).2 (hm x (List.mem_cons_of_mem _ hx)))
    rw [List.length_erase_of_mem ha] at this
    have := List.length_pos_of_mem ha
    simp only [List.length_cons]
    omega
/-- A set with more. -/
def addS (s L : List Int) : List Int := L.foldl insF s
theorem addS_nil (s : List Int) : addS s [] = s := rfl
theorem addS_snoc (s L : List Int) (x : Int) : addS s (L ++ [x]) = insF (addS s L) x := by unfold addS; rw [List.foldl_append]; rfl
theorem mem_addS (s L : List Int) (x : Int) : x ∈ addS s L ↔ x ∈ s ∨ x ∈ L := mem_foldl_insF L s x
theorem up_addS {s : List Int} (L : List Int) (h : Up s) : Up (addS s L) := up_foldl_insF L s h
theorem addS_len {s L M : List Int} (h : Up s) (hs : ∀ x ∈ s, x ∈ M) (hL : ∀ x ∈ L, x ∈ M) : (addS s L).length ≤ M.length :=
  up_len _ _ (up_addS L h) (fun x hx => by
    rcases (mem_addS s L x).1 hx with h | h
    · exact hs x h
    · exact hL x h)
theorem gat_snoc (kd : Int) (L : List Ar) (k : Nat) (hk : k < L.length) : gat kd (L.take (k + 1)) = if L[k].k = kd then gat kd (L.take k) ++ [L[k].n] else gat kd (L.take k) := by
  rw [List.take_succ_eq_append_getElem hk, gat_append]
  unfold gat
  split
  · rename_i e
    simp [e]
  · rename_i e
    simp [e]
/-- What the open handler adds. -/
def handS (l : List In) (S : Nat → List Int) (t : List Int) : List Int := match t.getLast? with
  | some h => if inR l h then S h.toNat else []
  | none => []
/-- What a successor adds. -/
def stepS (S : Nat → List Int) (D : List Int) (j : Int) : List Int := (S j.toNat).filter fun y => decide (y ∉ D)
def addL (l : List In) (kd : Int) (S : Nat → List Int) (i : Nat) (x : In) (t : List Int) : List Int :=
  gat kd (usesF x) ++ (nextF l i).flatMap (stepS S (asc (gat kd (defsF x)))) ++ handS l S t
/-- What is live before an instruction, as far as it is known what is live before others. -/
def befF (l : List In) (kd : Int) (S : Nat → List Int) (i : Nat) (x : In) (t : List Int) : List Int := addS (S i) (addL l kd S i x t)
theorem mem_stepS (S : Nat → List Int) (D : List Int) (j y : Int) : y ∈ stepS S D j ↔ y ∈ S j.toNat ∧ y ∉ D := by
  unfold stepS
  rw [List.mem_filter]
  simp
structure GI (l : List In) (fr : List Int) (T : Nat → List Int) (kd : Int) (S : Nat → List Int) : Prop where
  up : ∀ i, Up (S i)
  sound : ∀ i n, n ∈ S i → Lv l fr T kd i n
theorem GI.start (l : List In) (fr : List Int) (T : Nat → List Int) (kd : Int) : GI l fr T kd (fun _ => []) := ⟨fun _ => List.Pairwise.nil, fun _ _ h => by cases h⟩
theorem GI.step {l : List In} {fr : List Int} {T : Nat → List Int} {kd : Int} {S : Nat → List Int} (h : GI l fr T kd S) {i : Nat} (hi : i < l.length) (hr : Rch l fr i) : GI l fr T kd (upd S i (befF l kd S i l[i] (T i))) := by
  refine ⟨fun j => ?_, fun j n hn => ?_⟩
  · by_cases e : j = i
    · subst e
      rw [upd_at]
      exact up_addS _ (h.up j)
    · rw [upd_ne _ _ e]
      exact h.up j
  · by_cases e : j = i
    · subst e
      rw [upd_at] at hn
      unfold befF at hn
      rcases (mem_addS _ _ n).1 hn with hn | hn
      · exact h.sound j n hn
      · unfold addL at hn
        rw [List.mem_append, List.mem_append] at hn
        rcases hn with (hn | hn) | hn
        · exact .use j hi n hr ((mem_gat kd _ n).1 hn)
        · obtain ⟨x, hx, hy⟩ := List.mem_flatMap.1 hn
          obtain ⟨h1, h2⟩ := (mem_stepS _ _ x n).1 hy
          obtain ⟨⟨q1, q2⟩, q3⟩ := (mem_nextF l j hi x).1 hx
          obtain ⟨k, rfl⟩ : ∃ k : Nat, x = k := ⟨x.toNat, by omega⟩
          rw [Int.toNat_natCast] at h1
          refine .step j k hi n hr (by omega) q3 (fun hd => h2 ((mem_asc _ n).2 ((mem_gat kd _ n).2 hd))) (h.sound k n h1)
        · unfold handS at hn
          split at hn
          · rename_i x hx
            split at hn
            · rename_i hb
              unfold inR at hb
              simp only [Bool.and_eq_true, decide_eq_true_eq] at hb
              obtain ⟨k, rfl⟩ : ∃ k : Nat, x = k := ⟨x.toNat, by omega⟩
              rw [Int.toNat_natCast] at hn
              exact .hand j k hi n hr (by omega) hx (h.sound k n hn)
            · cases hn
          · cases hn
    · rw [upd_ne _ _ e] at hn
      exact h.sound j n hn
theorem GI.fin {l : List In} {fr : List Int} {T : Nat → List Int} {kd : Int} {S : Nat → List Int} (h : GI l fr T kd S) (hc : ∀ i (hi : i < l.length), Rch l fr i → befF l kd S i l[i] (T i) = S i) (i : Nat) (n : Int) : n ∈ S i ↔ Lv l fr T kd i n := by
  refine ⟨h.sound i n, fun hl => ?_⟩
  have hadd : ∀ i (hi : i < l.length), Rch l fr i → ∀ n, n ∈ addL l kd S i l[i] (T i) → n ∈ S i := fun i hi hr n hn => by
    rw [← hc i hi hr]
    exact (mem_addS _ _ n).2 (.inr hn)
  induction hl with
  | use i hi n hr hu => exact hadd i hi hr n (by unfold addL; rw [List.mem_append, List.mem_append]; exact .inl (.inl ((mem_gat kd _ n).2 hu)))
  | step i j hi n hr hj hm hd _ ih =>
    refine hadd i hi hr n ?_
    unfold addL
    rw [List.mem_append, List.mem_append]
    exact .inl (.inr (List.mem_flatMap.2 ⟨(j : Int), (mem_nextF l i hi j).2 ⟨⟨by omega, by omega⟩, hm⟩, (mem_stepS _ _ _ n).2 ⟨by rw [Int.toNat_natCast]; exact ih, fun q => hd ((mem_gat kd _ n).1 ((mem_asc _ n).1 q))⟩⟩))
  | hand i j hi n hr hj ht _ ih =>
    refine hadd i hi hr n ?_
    unfold addL
    rw [List.mem_append]
    refine .inr ?_
    unfold handS
    rw [ht]
    dsimp only
    rw [if_pos (by unfold inR; simp [hj]), Int.toNat_natCast]
    exact ih
/-- All places that are named. -/
theorem Lv.named {l : List In} {fr : List Int} {T : Nat → List Int} {kd : Int} {i : Nat} {n : Int} (h : Lv l fr T kd i n) : n ∈ gat kd (argsF l) := by
  induction h with
  | use i hi n hr hu =>
    refine (mem_gat kd _ n).2 ?_
    unfold argsF
    exact List.mem_flatMap.2 ⟨l[i], List.getElem_mem _, List.mem_append_left _ hu⟩
  | step _ _ _ _ _ _ _ _ _ ih => exact ih
  | hand _ _ _ _ _ _ _ _ ih => exact ih
theorem uses_named {l : List In} {kd : Int} {i : Nat} (hi : i < l.length) : ∀ x ∈ gat kd (usesF l[i]), x ∈ gat kd (argsF l) := fun x hx => by
  refine (mem_gat kd _ x).2 ?_
  unfold argsF
  exact List.mem_flatMap.2 ⟨l[i], List.getElem_mem _, List.mem_append_left _ ((mem_gat kd _ x).1 hx)⟩
/-- A set that has not grown is the same. -/
theorem addS_same {s : List Int} (L : List Int) (h : Up s) (hl : (addS s L).length ≤ s.length) : addS s L = s := by
  have hx : ∀ x, x ∈ addS s L → x ∈ s := fun x hx => by
    rcases Classical.em (x ∈ s) with h0 | h0
    · exact h0
    · have := up_len (insF s x) (addS s L) (up_insF s x h) (fun y hy => by
        rcases (mem_insF s x y).1 hy with rfl | hy
        · exact hx
        · exact (mem_addS s L y).2 (.inl hy))
      have h2 : s.length + 1 ≤ (insF s x).length := by
        have : ∀ (s : List Int), x ∉ s → (insF s x).length = s.length + 1 := by
          intro s
          induction s with
          | nil => intro _; rfl
          | cons a r ih =>
            intro hn
            rw [List.mem_cons, not_or] at hn
            unfold insF
            split
            · rfl
            · split
              · exact absurd ‹_› hn.1
              · simp only [List.length_cons]
                rw [ih hn.2]
        rw [this s h0]
        exact Nat.le_refl _
      omega
  exact up_ext _ _ (up_addS L h) h (fun k => ⟨hx k, fun hk => (mem_addS s L k).2 (.inl hk)⟩)
theorem addS_le (s L : List Int) (h : Up s) : s.length ≤ (addS s L).length := up_len _ _ h (fun x hx => (mem_addS s L x).2 (.inl hx))
/-- What Tries' answer says. -/
theorem triesF_ok {l : List In} {fr : List Int} {R : List (List Int)} {er : Int} (h : triesF l fr = (R, er)) :
    (er ≠ 0 ∧ R = []) ∨ (er = 0 ∧ (∀ k, k ∈ fr → inR l k = true) ∧ ∃ Q, Shut l fr Q ∧ R = (List.range l.length).map fun i => (Q i).getD []) := by
  by_cases h1 : ∃ k, k ∈ fr ∧ inR l k = false
  · obtain ⟨k, hk, e⟩ := h1
    rw [triesF_arg hk e] at h
    cases h
    exact .inl ⟨by decide, rfl⟩
  · have hin : ∀ k, k ∈ fr → inR l k = true := fun k hk => by
      cases e : inR l k with
      | true => rfl
      | false => exact absurd ⟨k, hk, e⟩ h1
    by_cases h2 : ∃ T, Fits l fr T
    · obtain ⟨T, hT⟩ := h2
      have hs : Shut l fr (fun i => open Classical in if Rch l fr i then some (T i) else none) := by
        refine ⟨fun i t e => ?_, fun i a b => ?_, fun i j hi t e hj a b => ?_, fun i hi t e => ?_⟩
        · split at e
          · rename_i hr
            cases e
            exact ⟨hr, fun U hU => hU.one hT i hr⟩
          · cases e
        · try dsimp only
          rw [if_pos (.entry i a b), hT.entry i a b]
        · try dsimp only at e ⊢
          split at e
          · rename_i hr
            cases e
            rw [if_pos (.hand i j hi hr hj a b), hT.hand i j hi hr hj a b]
          · cases e
        · try dsimp only at e
          split at e
          · rename_i hr
            cases e
            obtain ⟨o, q1, q2⟩ := hT.step i hi hr
            refine ⟨o, q1, fun j hj hm => ?_⟩
            try dsimp only
            rw [if_pos (.step i j hi hr hj hm), q2 j hj hm]
          · cases e
      rw [triesF_shut hin hs] at h
      cases h
      exact .inr ⟨rfl, hin, _, hs, rfl⟩
    · rw [triesF_try hin h2] at h
      cases h
      exact .inl ⟨by decide, rfl⟩
theorem Lv.fit {l : List In} {fr : List Int} {T U : Nat → List Int} {kd : Int} (h : ∀ i, Rch l fr i → T i = U i) {i : Nat} {n : Int} (hl : Lv l fr T kd i n) : Lv l fr U kd i n := by
  induction hl with
  | use i hi n hr hu => exact .use i hi n hr hu
  | step i j hi n hr hj hm hd _ ih => exact .step i j hi n hr hj hm hd ih
  | hand i j hi n hr hj ht _ ih => exact .hand i j hi n hr hj (by rw [← h i hr]; exact ht) ih
end Go.Proofs.YtekfnonjhcfdmaaDoor
