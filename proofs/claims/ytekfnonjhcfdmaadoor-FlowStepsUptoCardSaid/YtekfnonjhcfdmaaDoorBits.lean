/- flow's sets, plain: which bits they hold. -/
import Derived.Test.YtekfnonjhcfdmaaDoorNums
import Derived.Test.YtekfnonjhcfdmaaDoorSList
namespace Go.Proofs.YtekfnonjhcfdmaaDoor
open Go

theorem getD_pad (l : List Nat) (m i : Nat) : (l ++ List.replicate m 0).getD i 0 = l.getD i 0 := by
  rw [List.getD_eq_getElem?_getD, List.getD_eq_getElem?_getD]
  by_cases h : i < l.length
  · rw [List.getElem?_append_left h]
  · rw [List.getElem?_append_right (by omega), List.getElem?_eq_none (by omega : l.length ≤ i)]
    by_cases h2 : i - l.length < m
    · rw [List.getElem?_replicate, if_pos h2]; rfl
    · rw [List.getElem?_replicate, if_neg h2]
theorem getD_set (l : List Nat) (q x i : Nat) (hq : q < l.length) : (l.set q x).getD i 0 = if i = q then x else l.getD i 0 := by
  rw [List.getD_eq_getElem?_getD, List.getElem?_set, List.getD_eq_getElem?_getD]
  by_cases h : i = q
  · subst h; simp [hq]
  · rw [if_neg (Ne.symm h), if_neg h]
theorem has_bitF (ws : List Nat) (q r j : Nat) (hr : r < 64) : hasF (bitF ws q r) j = (hasF ws j || decide (j = 64 * q + r)) := by
  unfold hasF bitF
  rw [getD_set _ _ _ _ (by simp; omega), getD_pad, getD_pad]
  by_cases h : j / 64 = q
  · rw [if_pos h, Nat.testBit_or, Nat.testBit_two_pow, h]
    congr 1
    rw [decide_eq_decide]
    omega
  · rw [if_neg h]
    have : ¬ j = 64 * q + r := by omega
    simp [this]
theorem bitF_len (ws : List Nat) (q r : Nat) : (bitF ws q r).length = max ws.length (q + 1) := by
  unfold bitF
  simp
  omega
theorem has_numF (idx : List (Int × Nat)) (kind : Int) (j : Nat) : ∀ (l : List Ar) (ws : List Nat), hasF (numF idx kind l ws) j = true ↔ hasF ws j = true ∨ ∃ a ∈ l, a.k = kind ∧ ixF idx a.n = j
  | [], ws => by simp [numF]
  | a :: r, ws => by
    rw [numF, has_numF idx kind j r]
    by_cases h : a.k = kind
    · rw [if_pos h, has_bitF _ _ _ _ (by omega), Nat.div_add_mod]
      simp only [Bool.or_eq_true, decide_eq_true_eq, List.mem_cons, exists_eq_or_imp, h, true_and]
      constructor
      · rintro ((h1 | h1) | h1)
        · exact .inl h1
        · exact .inr (.inl h1.symm)
        · exact .inr (.inr h1)
      · rintro (h1 | h1 | h1)
        · exact .inl (.inl h1)
        · exact .inl (.inr h1.symm)
        · exact .inr h1
    · rw [if_neg h]
      simp [h]
theorem numF_len (idx : List (Int × Nat)) (kind : Int) (M : Nat) : ∀ (l : List Ar) (ws : List Nat), ws.length ≤ M → (∀ a ∈ l, ixF idx a.n < 64 * M) → (numF idx kind l ws).length ≤ M
  | [], ws, h, _ => h
  | a :: r, ws, h, hx => by
    rw [numF]
    refine numF_len idx kind M r _ ?_ (fun b hb => hx b (by simp [hb]))
    split
    · rw [bitF_len]
      have := hx a (by simp)
      omega
    · exact h
theorem has_nil (j : Nat) : hasF [] j = false := by simp [hasF]
theorem joinK_len' (us ds ws : List Nat) : ∀ i, (joinK us ds ws i).1.length = max ws.length i
  | 0 => by simp [joinK]
  | i + 1 => by
    have ih := joinK_len' us ds ws i
    simp only [joinK, stepJ]
    by_cases h : (joinK us ds ws i).1.length ≤ i
    · rw [if_pos h]
      split <;> simp <;> omega
    · rw [if_neg h]
      split <;> simp <;> omega
/-- What the first words of a join hold. -/
theorem joinK_bits (us ds ws : List Nat) : ∀ i, (∀ k, (joinK us ds ws i).1.getD k 0 = if k < i then ws.getD k 0 ||| andN (us.getD k 0) (ds.getD k 0) else ws.getD k 0) ∧
    ((joinK us ds ws i).2 = false ↔ ∀ k, k < i → andN (andN (us.getD k 0) (ds.getD k 0)) (ws.getD k 0) = 0)
  | 0 => ⟨fun k => by simp [joinK], by simp [joinK]⟩
  | i + 1 => by
    obtain ⟨ih1, ih2⟩ := joinK_bits us ds ws i
    obtain ⟨c, hc⟩ : ∃ c, c = joinK us ds ws i := ⟨_, rfl⟩
    obtain ⟨u, hu⟩ : ∃ u, u = andN (us.getD i 0) (ds.getD i 0) := ⟨_, rfl⟩
    obtain ⟨d, hd⟩ : ∃ d, d = if c.1.length ≤ i then c.1 ++ [0] else c.1 := ⟨_, rfl⟩
    have hl := joinK_len' us ds ws i
    rw [← hc] at ih1 ih2 hl
    have hdl : i < d.length := by
      rw [hd]
      split
      · simp; omega
      · omega
    have hdg : ∀ k, d.getD k 0 = c.1.getD k 0 := fun k => by
      rw [hd]
      split
      · exact getD_pad c.1 1 k
      · rfl
    have hdi : d.getD i 0 = ws.getD i 0 := by rw [hdg, ih1, if_neg (Nat.lt_irrefl i)]
    rw [joinK, stepJ, ← hc, ← hu, ← hd]
    by_cases hz : andN u (d.getD i 0) = 0
    · rw [if_pos hz]
      rw [hdi] at hz
      have hor : ws.getD i 0 ||| u = ws.getD i 0 := by
        apply Nat.eq_of_testBit_eq
        intro b
        have := congrArg (fun x => x.testBit b) hz
        simp only [andN_bit, Nat.zero_testBit] at this
        rw [Nat.testBit_or]
        revert this
        cases u.testBit b <;> cases (ws.getD i 0).testBit b <;> simp
      refine ⟨fun k => ?_, ?_⟩
      · rw [hdg, ih1]
        by_cases h1 : k < i
        · rw [if_pos h1, if_pos (by omega)]
        · rw [if_neg h1]
          by_cases h2 : k = i
          · subst h2
            rw [if_pos (by omega), ← hu, hor]
          · rw [if_neg (by omega)]
      · show c.2 = false ↔ _
        rw [ih2]
        constructor
        · intro h k hk
          by_cases h2 : k = i
          · subst h2; rw [← hu]; exact hz
          · exact h k (by omega)
        · intro h k hk
          exact h k (by omega)
    · rw [if_neg hz]
      rw [hdi] at hz
      refine ⟨fun k => ?_, ?_⟩
      · show (d.set i (d.getD i 0 ||| u)).getD k 0 = _
        rw [getD_set _ _ _ _ hdl]
        by_cases h2 : k = i
        · subst h2
          rw [if_pos rfl, if_pos (by omega), hdi, hu]
        · rw [if_neg h2, hdg, ih1]
          by_cases h1 : k < i
          · rw [if_pos h1, if_pos (by omega)]
          · rw [if_neg h1, if_neg (by omega)]
      · constructor
        · intro h; cases h
        · intro h
          exact absurd (by rw [hu]; exact h i (by omega)) hz
/-- What a join holds. -/
theorem has_join (us ds ws : List Nat) (j : Nat) : hasF (joinK us ds ws us.length).1 j = (hasF ws j || (hasF us j && !hasF ds j)) := by
  unfold hasF
  rw [(joinK_bits us ds ws us.length).1]
  by_cases h : j / 64 < us.length
  · rw [if_pos h, Nat.testBit_or, andN_bit]
  · rw [if_neg h]
    have : us.getD (j / 64) 0 = 0 := by rw [List.getD_eq_getElem?_getD, List.getElem?_eq_none (by omega)]; rfl
    rw [this]
    simp
/-- Nothing has changed. -/
theorem join_same (us ds ws : List Nat) (h : (joinK us ds ws us.length).2 = false) (j : Nat) (hu : hasF us j = true) (hd : hasF ds j = false) : hasF ws j = true := by
  have := (joinK_bits us ds ws us.length).2.1 h
  unfold hasF at hu hd ⊢
  by_cases hj : j / 64 < us.length
  · have := congrArg (fun x => x.testBit (j % 64)) (this _ hj)
    simp only [andN_bit, Nat.zero_testBit, hu, hd] at this
    simpa using this
  · have e : us.getD (j / 64) 0 = 0 := by rw [List.getD_eq_getElem?_getD, List.getElem?_eq_none (by omega)]; rfl
    rw [e] at hu
    simp at hu
/-- Something has changed. -/
theorem join_new (us ds ws : List Nat) (hu : ∀ x ∈ us, x < 18446744073709551616) (h : (joinK us ds ws us.length).2 = true) : ∃ j, hasF us j = true ∧ hasF ds j = false ∧ hasF ws j = false := by
  have := mt (joinK_bits us ds ws us.length).2.2 (by rw [h]; simp)
  have h3 : ∃ k, k < us.length ∧ andN (andN (us.getD k 0) (ds.getD k 0)) (ws.getD k 0) ≠ 0 := Classical.byContradiction fun hc => this fun k hk => Classical.byContradiction fun hn => hc ⟨k, hk, hn⟩
  obtain ⟨k, hk, hn⟩ := h3
  obtain ⟨b, hb⟩ := Nat.exists_testBit_of_ne_zero hn
  have hlt : andN (andN (us.getD k 0) (ds.getD k 0)) (ws.getD k 0) < 2 ^ 64 := andN_lt _ _ (andN_lt _ _ (getD_lt us k hu))
  have hb64 : b < 64 := Classical.byContradiction fun hc => by
    rw [Nat.testBit_lt_two_pow (Nat.lt_of_lt_of_le hlt (Nat.pow_le_pow_right (by omega) (by omega)))] at hb
    cases hb
  simp only [andN_bit, Bool.and_eq_true, Bool.not_eq_true'] at hb
  refine ⟨64 * k + b, ?_⟩
  unfold hasF
  rw [show (64 * k + b) / 64 = k by omega, show (64 * k + b) % 64 = b by omega]
  exact ⟨hb.1.1, hb.1.2, hb.2⟩
theorem mem_listK (ws : List Nat) : ∀ (i : Nat) (n : Int), n ∈ listK ws i ↔ ∃ j : Nat, j < 64 * i ∧ hasF ws j = true ∧ n = j
  | 0, n => by simp [listK]
  | i + 1, n => by
    rw [listK, List.mem_append, mem_listK ws i n, mem_bitsI]
    constructor
    · rintro (⟨j, h1, h2, h3⟩ | ⟨j, h1, h2, h3⟩)
      · exact ⟨j, by omega, h2, h3⟩
      · refine ⟨64 * i + j, by omega, ?_, by rw [h3]; simp⟩
        unfold hasF
        rw [show (64 * i + j) / 64 = i by omega, show (64 * i + j) % 64 = j by omega]
        exact h2
    · rintro ⟨j, h1, h2, h3⟩
      by_cases h : j < 64 * i
      · exact .inl ⟨j, h, h2, h3⟩
      · refine .inr ⟨j - 64 * i, by omega, ?_, by rw [h3]; omega⟩
        unfold hasF at h2
        rw [show j / 64 = i by omega, show j % 64 = j - 64 * i by omega] at h2
        exact h2
theorem up_listK (ws : List Nat) : ∀ i, Up (listK ws i)
  | 0 => List.Pairwise.nil
  | i + 1 => by
    unfold Up
    rw [listK]
    refine List.pairwise_append.2 ⟨up_listK ws i, up_bitsI i _, fun a ha b hb => ?_⟩
    obtain ⟨j, h1, _, h3⟩ := (mem_listK ws i a).1 ha
    obtain ⟨k, _, _, h4⟩ := (mem_bitsI i _ b).1 hb
    omega
theorem has_lt (ws : List Nat) (j : Nat) (h : hasF ws j = true) : j < 64 * ws.length := Classical.byContradiction fun hc => by
  unfold hasF at h
  rw [List.getD_eq_getElem?_getD, List.getElem?_eq_none (by omega)] at h
  simp at h
/-- The numbers of a set. -/
theorem mem_list (ws : List Nat) (n : Int) : n ∈ listK ws ws.length ↔ ∃ j : Nat, hasF ws j = true ∧ n = j := by
  rw [mem_listK]
  exact ⟨fun ⟨j, _, h2, h3⟩ => ⟨j, h2, h3⟩, fun ⟨j, h2, h3⟩ => ⟨j, has_lt ws j h2, h2, h3⟩⟩
theorem get_put (l : List (Int × Nat)) (a b : Int) (v : Nat) : Mp.get (Mp.put l a v) b = if a = b then some v else Mp.get l b := by
  induction l with
  | nil => simp [Mp.put, Mp.get]
  | cons p r ih =>
    obtain ⟨c, u⟩ := p
    by_cases h : c = a
    · subst h
      simp [Mp.put, Mp.get]
      split <;> rfl
    · simp only [Mp.put, h, if_false, Mp.get, ih]
      by_cases h2 : c = b
      · subst h2
        simp [Ne.symm h]
      · simp [h2]
end Go.Proofs.YtekfnonjhcfdmaaDoor
