/- Plain: a path to an instruction that reads a place. -/
import Derived.Test.YtekfnonjhcfdmaaDoorGrow
namespace Go.Proofs.YtekfnonjhcfdmaaDoor

/-- An open handler that is an instruction can be reached. -/
theorem Shut.opens {l : List In} {fr : List Int} {Q : Nat → Option (List Int)} (h : Shut l fr Q) : ∀ i, Rch l fr i → ∀ x : Nat, (x : Int) ∈ (Q i).getD [] → x < l.length → Rch l fr x := by
  have hF := h.fits
  intro i hr
  induction hr with
  | entry i h1 h2 =>
    intro x hx _
    have := hF.entry i h1 h2
    try dsimp only at this
    rw [this] at hx
    cases hx
  | step i j hi hr hj ht ih =>
    intro x hx hl
    obtain ⟨o, ho, hq⟩ := hF.step i hi hr
    have e := hq j hj ht
    try dsimp only at e ho
    rw [e] at hx
    unfold aftF at ho
    split at ho
    · rename_i h28
      cases ho
      rcases List.mem_append.1 hx with hx | hx
      · exact ih x hx hl
      · rw [List.mem_singleton] at hx
        exact .hand i x hi hr hl h28 hx.symm
    · split at ho
      · split at ho
        · cases ho
        · cases ho
          exact ih x (List.mem_of_mem_take (by rw [List.dropLast_eq_take] at hx; exact hx)) hl
      · cases ho
        exact ih x hx hl
  | hand i j hi hr hj h1 h2 ih =>
    intro x hx hl
    have e := hF.hand i j hi hr hj h1 h2
    try dsimp only at e
    rw [e] at hx
    exact ih x hx hl
theorem getLast_mem {l : List Int} {x : Int} (h : l.getLast? = some x) : x ∈ l := List.mem_of_getLast? h
/-- The search for an instruction that reads a place: the queue is read up to k. -/
structure NI (l : List In) (fr : List Int) (T : Nat → List Int) (kd n0 : Int) (i : Nat) (Q : Nat → Bool) (O : List Int) (k : Nat) : Prop where
  path : ∀ x ∈ O, ∀ j : Nat, x = j → j < l.length → Rch l fr j ∧ (Lv l fr T kd j n0 → Lv l fr T kd i n0)
  start : (i : Int) ∈ O
  mark : ∀ j, Q j = true → ∀ hj : j < l.length, ⟨kd, n0⟩ ∉ usesF l[j]
  done : ∀ q (hq : q < O.length), q < k → ∀ j : Nat, O[q] = j → j < l.length → Q j = true
  step : ∀ j (hj : j < l.length), Q j = true → ⟨kd, n0⟩ ∉ defsF l[j] → ∀ t : Nat, t < l.length → (t : Int) ∈ targF l[j] j → (t : Int) ∈ O
  hand : ∀ j, Q j = true → ∀ t : Int, (T j).getLast? = some t → t ∈ O
theorem NI.begin (l : List In) (fr : List Int) (T : Nat → List Int) (kd n0 : Int) (i : Nat) (hr : Rch l fr i) : NI l fr T kd n0 i (fun _ => false) [(i : Int)] 0 where
  path := fun x hx j hj _ => by
    rw [List.mem_singleton] at hx
    obtain rfl : i = j := by omega
    exact ⟨hr, fun h => h⟩
  start := List.mem_singleton.2 rfl
  mark := fun _ h => by cases h
  done := fun _ _ h => by omega
  step := fun _ _ h => by cases h
  hand := fun _ h => by cases h
theorem NI.skip {l : List In} {fr : List Int} {T : Nat → List Int} {kd n0 : Int} {i : Nat} {Q : Nat → Bool} {O : List Int} {k : Nat} (h : NI l fr T kd n0 i Q O k) (hk : k < O.length) (hj : ∀ j : Nat, O[k] = j → j < l.length → Q j = true) : NI l fr T kd n0 i Q O (k + 1) :=
  ⟨h.path, h.start, h.mark, fun q hq hqk j e hl => by
    rcases Nat.lt_succ_iff_lt_or_eq.1 hqk with e2 | e2
    · exact h.done q hq e2 j e hl
    · subst e2
      exact hj j e hl, h.step, h.hand⟩
/-- What a marked instruction adds. -/
def addN (l : List In) (T : Nat → List Int) (kd n0 : Int) (j : Nat) (x : In) : List Int := (if (⟨kd, n0⟩ : Ar) ∈ defsF x then [] else nextF l j) ++ (T j).getLast?.toList
theorem addN_len (l : List In) (T : Nat → List Int) (kd n0 : Int) (j : Nat) (h : j < l.length) : (addN l T kd n0 j l[j]).length + 1 ≤ wtI l j := by
  have := next_len l j h
  have h2 : (T j).getLast?.toList.length ≤ 1 := by cases (T j).getLast? <;> simp
  unfold addN wtI
  rw [List.length_append, dif_pos h]
  split <;> simp <;> omega
theorem NI.found {l : List In} {fr : List Int} {T : Nat → List Int} {kd n0 : Int} {i : Nat} {Q : Nat → Bool} {O : List Int} {k j : Nat} (h : NI l fr T kd n0 i Q O k) (hk : k < O.length) (hj : O[k] = j) (hl : j < l.length) (hu : ⟨kd, n0⟩ ∈ usesF l[j]) : Lv l fr T kd i n0 := by
  obtain ⟨h1, h2⟩ := h.path _ (List.getElem_mem hk) j hj hl
  exact h2 (.use j hl n0 h1 hu)
theorem NI.pop {l : List In} {fr : List Int} {T : Nat → List Int} {kd n0 : Int} {i : Nat} {Q : Nat → Bool} {O : List Int} {k j : Nat} (h : NI l fr T kd n0 i Q O k) (ho : ∀ i, Rch l fr i → ∀ x : Nat, (x : Int) ∈ T i → x < l.length → Rch l fr x) (hk : k < O.length) (hj : O[k] = j) (hl : j < l.length) (hu : ⟨kd, n0⟩ ∉ usesF l[j]) :
    NI l fr T kd n0 i (setB Q j) (O ++ addN l T kd n0 j l[j]) (k + 1) := by
  obtain ⟨hr, hv⟩ := h.path _ (List.getElem_mem hk) j hj hl
  have hset : ∀ i, setB Q j i = true → i = j ∨ Q i = true := fun i hi => by
    unfold setB at hi
    split at hi
    · exact .inl ‹_›
    · exact .inr hi
  have hle : ∀ i, Q i = true → setB Q j i = true := fun i hi => by
    unfold setB
    split
    · rfl
    · exact hi
  refine ⟨fun x hx t ht htl => ?_, List.mem_append_left _ h.start, fun t ht htl => ?_, fun q hq hqk t ht htl => ?_, fun t ht hq hd s hs hm => ?_, fun t hq s hs => ?_⟩
  · rcases List.mem_append.1 hx with hx | hx
    · exact h.path x hx t ht htl
    · unfold addN at hx
      rcases List.mem_append.1 hx with hx | hx
      · split at hx
        · cases hx
        · rename_i hd
          obtain ⟨_, q3⟩ := (mem_nextF l j hl x).1 hx
          rw [ht] at q3
          exact ⟨.step j t hl hr htl q3, fun q => hv (.step j t hl n0 hr htl q3 hd q)⟩
      · have hx2 : (T j).getLast? = some x := by
          rw [Option.mem_toList] at hx
          exact hx
        rw [ht] at hx2
        exact ⟨ho j hr t (getLast_mem hx2) htl, fun q => hv (.hand j t hl n0 hr htl hx2 q)⟩
  · rcases hset t ht with rfl | q
    · exact hu
    · exact h.mark t q htl
  · rcases Nat.lt_succ_iff_lt_or_eq.1 hqk with e | e
    · rw [List.getElem_append_left (by omega)] at ht
      exact hle t (h.done q (by omega) e t ht htl)
    · subst e
      rw [List.getElem_append_left hk, hj] at ht
      have : t = j := by omega
      subst this
      simp [setB]
  · rcases hset t hq with rfl | q
    · refine List.mem_append_right _ (List.mem_append_left _ ?_)
      rw [if_neg hd]
      exact (mem_nextF l t hl s).2 ⟨⟨by omega, by omega⟩, hm⟩
    · exact List.mem_append_left _ (h.step t ht q hd s hs hm)
  · rcases hset t hq with rfl | q
    · refine List.mem_append_right _ (List.mem_append_right _ ?_)
      rw [Option.mem_toList]
      exact hs
    · exact List.mem_append_left _ (h.hand t q s hs)
theorem NI.fin {l : List In} {fr : List Int} {T : Nat → List Int} {kd n0 : Int} {i : Nat} {Q : Nat → Bool} {O : List Int} {k : Nat} (h : NI l fr T kd n0 i Q O k) (hk : O.length ≤ k) (hi : i < l.length) : ¬ Lv l fr T kd i n0 := by
  have hm : ∀ j : Nat, (j : Int) ∈ O → j < l.length → Q j = true := fun j hj hl => by
    obtain ⟨t, ht, e⟩ := List.getElem_of_mem hj
    exact h.done t ht (by omega) j e hl
  have hno : ∀ j n, Lv l fr T kd j n → n = n0 → Q j = true → False := fun j n hv => by
    induction hv with
    | use j hj n hr hu => exact fun e hq => h.mark j hq hj (by rw [← e]; exact hu)
    | step j t hj n hr ht hm2 hd _ ih => exact fun e hq => ih e (hm t (h.step j hj hq (by rw [← e]; exact hd) t ht hm2) ht)
    | hand j t hj n hr ht hg _ ih => exact fun e hq => ih e (hm t (h.hand j hq t hg) ht)
  exact fun hv => hno i n0 hv rfl (hm i h.start hi)
end Go.Proofs.YtekfnonjhcfdmaaDoor
