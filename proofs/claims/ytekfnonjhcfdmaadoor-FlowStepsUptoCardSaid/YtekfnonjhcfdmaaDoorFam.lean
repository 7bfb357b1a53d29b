/- flow's rows of sets: live and defs in memory; what the search for the least sets keeps. -/
import Derived.Test.YtekfnonjhcfdmaaDoorBits
import Derived.Test.YtekfnonjhcfdmaaDoorRst
namespace Go.Proofs.YtekfnonjhcfdmaaDoor
open Go Go.RowKit Go.Rt Go.Rw

def upd {α : Type} (f : Nat → α) (k : Nat) (v : α) : Nat → α := fun i => if i = k then v else f i
theorem upd_at {α : Type} (f : Nat → α) (k : Nat) (v : α) : upd f k v k = v := if_pos rfl
theorem upd_ne {α : Type} (f : Nat → α) {k i : Nat} (v : α) (h : i ≠ k) : upd f k v i = f i := if_neg h
def sp (b : Nat) : Value := .pointer (some ⟨b, 0, none⟩)
def own (b : Nat) (o : Option Nat) : List Nat := b :: o.toList
theorem SetAt.only {w w' : World} {base b : Nat} {o : Option Nat} {ws : List Nat} {bs : List Nat} (h : SetAt w base b o ws) (ho : Only bs w w') (hn : ∀ r ∈ own b o, r ∉ bs) : SetAt w' base b o ws := by
  obtain ⟨h0, h1, sa, co, h2, h3, h4⟩ := h
  exact ⟨h0, h1, sa, co, h2.only ho (hn _ (List.mem_cons_self ..)), h3.only ho (fun g hg => hn g (by rw [h4] at hg; unfold own; rw [List.mem_cons, Option.mem_toList]; exact .inr hg)), h4⟩
/-- The blocks of a set hold no pointers. -/
theorem SetAt.not {w : World} {base b g : Nat} {o : Option Nat} {ws : List Nat} {t : TypeId} {cs : Array Value} (h : SetAt w base b o ws) (hg : Blk w g t cs) (h1 : t ≠ 62) (h2 : t ≠ 95) : g ∉ own b o := by
  obtain ⟨h0, _, sa, co, hb, hs, hown⟩ := h
  intro hm
  unfold own at hm
  rw [List.mem_cons, Option.mem_toList] at hm
  rcases hm with rfl | hm
  · exact blk_ne hg hb h1 rfl
  · rw [← hown] at hm
    rcases hs.2 with ⟨q, _⟩ | ⟨g2, cap2, cur, q, _, q3, _⟩
    · rw [q] at hm
      simp [Value.ownBlock] at hm
    · rw [q] at hm
      simp only [Value.ownBlock, Option.some.injEq] at hm
      subst hm
      exact blk_ne hg (show Blk w g2 95 cur from q3) h2 rfl
theorem SetAt.lt {w : World} {base b : Nat} {o : Option Nat} {ws : List Nat} (h : SetAt w base b o ws) : ∀ r ∈ own b o, base ≤ r ∧ r < w.heap.size := h.lo
theorem SetAt.mono {w : World} {base base' b : Nat} {o : Option Nat} {ws : List Nat} (h : SetAt w base b o ws) (hb : base' ≤ base) : SetAt w base' b o ws := by
  obtain ⟨h0, h1, sa, co, h2, h3, h4⟩ := h
  exact ⟨Nat.le_trans hb h0, h1, sa, co, h2, h3.mono hb, h4⟩
/-- A row of sets, the first k of n. -/
structure Fam (W : World) (base n k g : Nat) (T : List Value) (b : Nat → Nat) (o : Nat → Option Nat) (s : Nat → List Nat) : Prop where
  len : T.length = n
  arr : Blk W g 59 T.toArray
  ptr : ∀ i, i < k → T[i]? = some (sp (b i))
  set : ∀ i, i < k → SetAt W base (b i) (o i) (s i)
  ne : ∀ i j, i < k → j < k → i ≠ j → ∀ r ∈ own (b i) (o i), r ∉ own (b j) (o j)
theorem Fam.only {W W' : World} {base n k g : Nat} {T : List Value} {b : Nat → Nat} {o : Nat → Option Nat} {s : Nat → List Nat} {bs : List Nat} (h : Fam W base n k g T b o s) (ho : Only bs W W') (hg : g ∉ bs) (hs : ∀ i, i < k → ∀ r ∈ own (b i) (o i), r ∉ bs) : Fam W' base n k g T b o s :=
  ⟨h.len, h.arr.only ho hg, h.ptr, fun i hi => (h.set i hi).only ho (hs i hi), h.ne⟩
theorem Fam.below {W W' : World} {base n k g : Nat} {T : List Value} {b : Nat → Nat} {o : Nat → Option Nat} {s : Nat → List Nat} {m : Nat} (h : Fam W base n k g T b o s) (hb : Below m W W') (hm : W.heap.size ≤ m) : Fam W' base n k g T b o s :=
  h.only (bs := []) (Only.of_below (hb.mono hm)) (by simp) (fun _ _ _ _ => by simp)
theorem Fam.cell {W : World} {base n k g : Nat} {T : List Value} {b : Nat → Nat} {o : Nat → Option Nat} {s : Nat → List Nat} (h : Fam W base n k g T b o s) {i : Nat} (hi : i < k) : W.cell? ⟨g, i, none⟩ = some (sp (b i)) := by
  rw [h.arr.cell i, List.getElem?_toArray, h.ptr i hi]
/-- One set is joined. -/
theorem Fam.join {W W' : World} {base n k g : Nat} {T : List Value} {b : Nat → Nat} {o : Nat → Option Nat} {s : Nat → List Nat} (h : Fam W base n k g T b o s) {i : Nat} (hi : i < k) {o' : Option Nat} {s' : List Nat} (hs : SetAt W' base (b i) o' s') (hm : Same W (o i) o') (ho : Only (own (b i) (o i)) W W') : Fam W' base n k g T b (upd o i o') (upd s i s') := by
  have hfar : ∀ j, j < k → j ≠ i → ∀ r ∈ own (b j) (o j), r ∉ own (b i) o' := fun j hj hji r hr hmem => by
    have h1 := h.ne j i hj hi hji r hr
    have h2 := ((h.set j hj).lt r hr).2
    unfold own at hmem h1
    rw [List.mem_cons, Option.mem_toList] at hmem h1
    rcases hmem with e | e
    · exact h1 (.inl e)
    · rcases hm with rfl | ⟨q, rfl, hq⟩
      · exact h1 (.inr e)
      · simp only [Option.some.injEq] at e
        omega
  refine ⟨h.len, h.arr.only ho ((h.set i hi).not h.arr (by decide) (by decide)), h.ptr, fun j hj => ?_, fun j j2 hj hj2 hne => ?_⟩
  · by_cases e : j = i
    · subst e
      rw [upd_at, upd_at]
      exact hs
    · rw [upd_ne _ _ e, upd_ne _ _ e]
      exact (h.set j hj).only ho (h.ne j i hj hi e)
  · by_cases e : j = i
    · subst e
      rw [upd_at, upd_ne _ _ (Ne.symm hne)]
      intro r hr hmem
      exact hfar j2 hj2 (Ne.symm hne) r hmem hr
    · rw [upd_ne _ _ e]
      by_cases e2 : j2 = i
      · subst e2
        rw [upd_at]
        exact hfar j hj e
      · rw [upd_ne _ _ e2]
        exact h.ne j j2 hj hj2 hne
/-- One set is put. -/
theorem Fam.make {W0 W : World} {base n k g : Nat} {T : List Value} {b : Nat → Nat} {o : Nat → Option Nat} {s : Nat → List Nat} (h : Fam W0 base n k g T b o s) {bs : List Nat} (ho : Only bs W0 W) (hs : ∀ i, i < k → ∀ r ∈ own (b i) (o i), r ∉ bs) {j k' : Nat} (hj : j < n) (hk : ∀ i, i < k' → i ≠ j → i < k)
    {bj : Nat} {oj : Option Nat} {sj : List Nat} (hb : Blk W g 59 (T.set j (sp bj)).toArray) (hn : SetAt W base bj oj sj) (hf : ∀ r ∈ own bj oj, W0.heap.size ≤ r) : Fam W base n k' g (T.set j (sp bj)) (upd b j bj) (upd o j oj) (upd s j sj) := by
  have hfar : ∀ i, i < k → ∀ r ∈ own (b i) (o i), r ∉ own bj oj := fun i hi r hr hm => by
    have h1 := ((h.set i hi).lt r hr).2
    have h2 := hf r hm
    omega
  refine ⟨by rw [List.length_set]; exact h.len, hb, fun i hi => ?_, fun i hi => ?_, fun i i2 hi hi2 hne => ?_⟩
  · by_cases e : i = j
    · subst e
      rw [upd_at, List.getElem?_set_self (by rw [h.len]; exact hj)]
    · rw [upd_ne _ _ e, List.getElem?_set_ne (Ne.symm e)]
      exact h.ptr i (hk i hi e)
  · by_cases e : i = j
    · subst e
      rw [upd_at, upd_at, upd_at]
      exact hn
    · rw [upd_ne _ _ e, upd_ne _ _ e, upd_ne _ _ e]
      exact (h.set i (hk i hi e)).only ho (hs i (hk i hi e))
  · by_cases e : i = j
    · subst e
      rw [upd_at, upd_at, upd_ne _ _ (Ne.symm hne), upd_ne _ _ (Ne.symm hne)]
      intro r hr hm
      exact hfar i2 (hk i2 hi2 (Ne.symm hne)) r hm hr
    · rw [upd_ne _ _ e, upd_ne _ _ e]
      by_cases e2 : i2 = j
      · subst e2
        rw [upd_at, upd_at]
        exact hfar i (hk i hi e)
      · rw [upd_ne _ _ e2, upd_ne _ _ e2]
        exact h.ne i i2 (hk i hi e) (hk i2 hi2 e2) hne
/-- Two rows share no block. -/
def Apart (kL kD : Nat) (bL : Nat → Nat) (oL : Nat → Option Nat) (bD : Nat → Nat) (oD : Nat → Option Nat) : Prop := ∀ i j, i < kL → j < kD → ∀ r ∈ own (bL i) (oL i), r ∉ own (bD j) (oD j)

/-! ### Plain -/
def sumN (f : Nat → Nat) (n : Nat) : Nat := match n with
  | 0 => 0
  | n + 1 => sumN f n + f n
theorem sumN_le {f g : Nat → Nat} : ∀ n, (∀ i, i < n → f i ≤ g i) → sumN f n ≤ sumN g n
  | 0, _ => Nat.le_refl _
  | n + 1, h => Nat.add_le_add (sumN_le n fun i hi => h i (by omega)) (h n (by omega))
theorem sumN_lt {f g : Nat → Nat} : ∀ n, (∀ i, i < n → f i ≤ g i) → (∃ i, i < n ∧ f i < g i) → sumN f n < sumN g n
  | 0, _, ⟨_, h, _⟩ => by omega
  | n + 1, h, ⟨i, hi, hlt⟩ => by
    have h1 := sumN_le n fun i hi => h i (by omega)
    have h2 := h n (by omega)
    unfold sumN
    by_cases e : i = n
    · subst e; omega
    · have := sumN_lt n (fun i hi => h i (by omega)) ⟨i, by omega, hlt⟩
      omega
theorem sumN_congr {f g : Nat → Nat} : ∀ n, (∀ i, i < n → f i = g i) → sumN f n = sumN g n
  | 0, _ => rfl
  | n + 1, h => by rw [sumN, sumN, sumN_congr n (fun i hi => h i (by omega)), h n (by omega)]
def lackN (f : Nat → Bool) (n : Nat) : Nat := sumN (fun k => if f k then 0 else 1) n
/-- How many numbers the sets lack. -/
def miss (n N : Nat) (s : Nat → List Nat) : Nat := sumN (fun i => lackN (hasF (s i)) N) n
theorem miss_lt {n N : Nat} {s : Nat → List Nat} {i : Nat} (hi : i < n) {x : List Nat} (hx : ∀ k, hasF (s i) k = true → hasF x k = true) (hk : ∃ k, k < N ∧ hasF x k = true ∧ hasF (s i) k = false) : miss n N (upd s i x) < miss n N s := by
  have hle : lackN (hasF x) N ≤ lackN (hasF (s i)) N := sumN_le N fun k _ => by
    by_cases h : hasF (s i) k = true
    · rw [if_pos h, if_pos (hx k h)]; exact Nat.le_refl _
    · rw [if_neg h]; split <;> omega
  refine sumN_lt n (fun j _ => ?_) ⟨i, hi, ?_⟩
  · by_cases e : j = i
    · subst e; simp only [upd_at]; exact hle
    · simp only [upd_ne _ _ e]; exact Nat.le_refl _
  · simp only [upd_at]
    obtain ⟨k, hkN, h1, h2⟩ := hk
    refine sumN_lt N (fun k _ => ?_) ⟨k, hkN, by rw [if_pos h1, if_neg (by rw [h2]; simp)]; omega⟩
    by_cases h : hasF (s i) k = true
    · rw [if_pos h, if_pos (hx k h)]; exact Nat.le_refl _
    · rw [if_neg h]; split <;> omega
/-- The same numbers. -/
def EqS (s s' : Nat → List Nat) : Prop := ∀ i k, hasF (s i) k = hasF (s' i) k
theorem miss_eq {n N : Nat} {s s' : Nat → List Nat} (h : EqS s s') : miss n N s = miss n N s' := sumN_congr n fun i _ => sumN_congr N fun k _ => by rw [h i k]
/-- What the sets hold is live; what is read is held. -/
structure LI (l : List In) (fr : List Int) (T : Nat → List Int) (kd : Int) (all : List Int) (s : Nat → List Nat) : Prop where
  sound : ∀ i k, i < l.length → hasF (s i) k = true → ∃ n, all[k]? = some n ∧ Lv l fr T kd i n
  uses : ∀ i (hi : i < l.length) n, Rch l fr i → ⟨kd, n⟩ ∈ usesF l[i] → ∃ k, all[k]? = some n ∧ hasF (s i) k = true
  size : ∀ i, i < l.length → (s i).length ≤ all.length / 64 + 1
/-- The sets of what is written. -/
structure DI (l : List In) (kd : Int) (all : List Int) (d : Nat → List Nat) : Prop where
  is : ∀ i (hi : i < l.length) k n, all[k]? = some n → (hasF (d i) k = true ↔ ⟨kd, n⟩ ∈ defsF l[i])
  size : ∀ i, i < l.length → (d i).length ≤ all.length / 64 + 1
/-- Nothing is lacking along a step. -/
def ClT (_ : List In) (d s : Nat → List Nat) (i j : Nat) : Prop := ∀ k, hasF (s j) k = true → hasF (d i) k = false → hasF (s i) k = true
def ClH (s : Nat → List Nat) (i j : Nat) : Prop := ∀ k, hasF (s j) k = true → hasF (s i) k = true
theorem ClT.eq {l : List In} {d s s' : Nat → List Nat} {i j : Nat} (h : ClT l d s i j) (e : EqS s s') : ClT l d s' i j := fun k h1 h2 => by rw [← e i k]; exact h k (by rw [e j k]; exact h1) h2
theorem ClH.eq {s s' : Nat → List Nat} {i j : Nat} (h : ClH s i j) (e : EqS s s') : ClH s' i j := fun k h1 => by rw [← e i k]; exact h k (by rw [e j k]; exact h1)
def AllT (l : List In) (d s : Nat → List Nat) (i : Nat) : Prop := ∀ (hi : i < l.length) (j : Nat), j < l.length → (j : Int) ∈ targF l[i] i → ClT l d s i j
def AllH (l : List In) (T : Nat → List Int) (s : Nat → List Nat) (i : Nat) : Prop := ∀ j : Nat, j < l.length → (T i).getLast? = some (j : Int) → ClH s i j
def Cl (l : List In) (fr : List Int) (T : Nat → List Int) (d s : Nat → List Nat) (i : Nat) : Prop := Rch l fr i → AllT l d s i ∧ AllH l T s i
theorem Cl.eq {l : List In} {fr : List Int} {T : Nat → List Int} {d s s' : Nat → List Nat} {i : Nat} (h : Cl l fr T d s i) (e : EqS s s') : Cl l fr T d s' i := fun hr => ⟨fun hi j hj hm => ((h hr).1 hi j hj hm).eq e, fun j hj hm => ((h hr).2 j hj hm).eq e⟩
/-- At the end the sets are what is live. -/
theorem LI.fin {l : List In} {fr : List Int} {T : Nat → List Int} {kd : Int} {all : List Int} {s d : Nat → List Nat} (h : LI l fr T kd all s) (hd : DI l kd all d) (hc : ∀ i, i < l.length → Cl l fr T d s i) (i : Nat) (n : Int) (hi : i < l.length) : Lv l fr T kd i n ↔ ∃ k, all[k]? = some n ∧ hasF (s i) k = true := by
  constructor
  · intro hL
    clear hi
    induction hL with
    | use i hi n hr hu => exact h.uses i hi n hr hu
    | step i j hi n hr hj ht hnd _ ih =>
      obtain ⟨k, h1, h2⟩ := ih
      refine ⟨k, h1, (hc i hi hr).1 hi j hj ht k h2 ?_⟩
      cases e : hasF (d i) k with
      | false => rfl
      | true => exact absurd ((hd.is i hi k n h1).1 e) hnd
    | hand i j hi n hr hj ht _ ih =>
      obtain ⟨k, h1, h2⟩ := ih
      exact ⟨k, h1, (hc i hi hr).2 j hj ht k h2⟩
  · rintro ⟨k, h1, h2⟩
    obtain ⟨m, h3, h4⟩ := h.sound i k hi h2
    rw [h1] at h3
    cases h3
    exact h4
/-- What a join does to the sets. -/
structure JoinR (n N : Nat) (s s' : Nat → List Nat) (r : Bool) : Prop where
  no : r = false → EqS s s'
  yes : r = true → miss n N s' < miss n N s
def joinS (us ds ws : List Nat) : List Nat := (joinK us ds ws us.length).1
def joinB (us ds ws : List Nat) : Bool := (joinK us ds ws us.length).2
theorem join_all {l : List In} {fr : List Int} {T : Nat → List Int} {kd : Int} {all : List Int} {s : Nat → List Nat} (h : LI l fr T kd all s) {i j : Nat} (hi : i < l.length) (hj : j < l.length) (ds : List Nat) (hw : ∀ x ∈ s j, x < 18446744073709551616)
    (hs : ∀ k n, all[k]? = some n → hasF (s j) k = true → hasF ds k = false → Lv l fr T kd j n → Lv l fr T kd i n) :
    LI l fr T kd all (upd s i (joinS (s j) ds (s i))) ∧ JoinR l.length all.length s (upd s i (joinS (s j) ds (s i))) (joinB (s j) ds (s i)) ∧ (joinB (s j) ds (s i) = false → ∀ k, hasF (s j) k = true → hasF ds k = false → hasF (s i) k = true) := by
  refine ⟨⟨fun i2 k hi2 hk => ?_, fun i2 hi2 n hr hu => ?_, fun i2 hi2 => ?_⟩, ⟨fun hr i2 k => ?_, fun hr => ?_⟩, fun hr k => join_same _ _ _ hr k⟩
  · by_cases e : i2 = i
    · subst e
      rw [upd_at, joinS, has_join] at hk
      simp only [Bool.or_eq_true, Bool.and_eq_true, Bool.not_eq_true'] at hk
      rcases hk with hk | ⟨h1, h2⟩
      · exact h.sound i2 k hi2 hk
      · obtain ⟨n, h3, h4⟩ := h.sound j k hj h1
        exact ⟨n, h3, hs k n h3 h1 h2 h4⟩
    · rw [upd_ne _ _ e] at hk
      exact h.sound i2 k hi2 hk
  · obtain ⟨k, h1, h2⟩ := h.uses i2 hi2 n hr hu
    refine ⟨k, h1, ?_⟩
    by_cases e : i2 = i
    · subst e
      rw [upd_at, joinS, has_join, h2, Bool.true_or]
    · rw [upd_ne _ _ e]
      exact h2
  · by_cases e : i2 = i
    · subst e
      rw [upd_at, joinS, joinK_len']
      have h1 := h.size i2 hi2
      have h2 := h.size j hj
      omega
    · rw [upd_ne _ _ e]
      exact h.size i2 hi2
  · by_cases e : i2 = i
    · subst e
      rw [upd_at, joinS, has_join]
      have := join_same _ _ _ hr k
      cases h1 : hasF (s j) k with
      | false => simp
      | true =>
        cases h2 : hasF ds k with
        | true => simp
        | false => simp [this h1 h2]
    · rw [upd_ne _ _ e]
  · obtain ⟨k, h1, h2, h3⟩ := join_new _ _ _ hw hr
    refine miss_lt hi (fun k h => ?_) ⟨k, ?_, ?_, h3⟩
    · rw [joinS, has_join, h, Bool.true_or]
    · obtain ⟨n, h4, _⟩ := h.sound j k hj h1
      exact (List.getElem?_eq_some_iff.1 h4).1
    · rw [joinS, has_join, h1, h2]
      simp
/-- What a pass keeps: while nothing has changed, what it has seen holds. -/
structure PI (n N M : Nat) (s : Nat → List Nat) (ch : Bool) (P : Prop) : Prop where
  no : ch = false → miss n N s = M ∧ P
  yes : ch = true → miss n N s < M
theorem PI.step {n N M : Nat} {s s' : Nat → List Nat} {ch r : Bool} {P P' : Prop} (h : PI n N M s ch P) (hj : JoinR n N s s' r) (hp : r = false → P → P') : PI n N M s' (ch || r) P' := by
  cases ch with
  | false =>
    cases r with
    | false => exact ⟨fun _ => ⟨by rw [← miss_eq (hj.no rfl)]; exact (h.no rfl).1, hp rfl (h.no rfl).2⟩, fun e => by cases e⟩
    | true => exact ⟨fun e => (by cases e), fun _ => by rw [← (h.no rfl).1]; exact hj.yes rfl⟩
  | true =>
    refine ⟨fun e => by simp at e, fun _ => ?_⟩
    have := h.yes rfl
    cases r with
    | false => rw [← miss_eq (hj.no rfl)]; exact this
    | true => exact Nat.lt_trans (hj.yes rfl) this
theorem PI.keep {n N M : Nat} {s : Nat → List Nat} {ch : Bool} {P P' : Prop} (h : PI n N M s ch P) (hp : P → P') : PI n N M s ch P' := ⟨fun e => ⟨(h.no e).1, hp (h.no e).2⟩, h.yes⟩
/-- The numbers of a kind. -/
def gat (kd : Int) (L : List Ar) : List Int := (L.filter fun a => decide (a.k = kd)).map (·.n)
theorem gat_append (kd : Int) (L M : List Ar) : gat kd (L ++ M) = gat kd L ++ gat kd M := by simp [gat]
theorem mem_gat (kd : Int) (L : List Ar) (n : Int) : n ∈ gat kd L ↔ ⟨kd, n⟩ ∈ L := by
  unfold gat
  rw [List.mem_map]
  constructor
  · rintro ⟨⟨k, m⟩, h, rfl⟩
    rw [List.mem_filter, decide_eq_true_eq] at h
    obtain ⟨h1, rfl⟩ := h
    exact h1
  · intro h
    exact ⟨_, List.mem_filter.2 ⟨h, by simp⟩, rfl⟩
theorem gat_len (kd : Int) (L : List Ar) : (gat kd L).length ≤ L.length := by
  unfold gat
  rw [List.length_map]
  exact List.length_filter_le _ _
theorem insF_len : ∀ (l : List Int) (n : Int), (insF l n).length ≤ l.length + 1
  | [], _ => Nat.le_refl _
  | a :: r, n => by
    unfold insF
    split
    · simp
    · split
      · simp
      · have := insF_len r n
        simp only [List.length_cons]
        omega
theorem asc_len (l : List Int) : (asc l).length ≤ l.length := by
  have h : ∀ (l a : List Int), (l.foldl insF a).length ≤ a.length + l.length := by
    intro l
    induction l with
    | nil => intro a; simp
    | cons b r ih =>
      intro a
      have h1 := ih (insF a b)
      have h2 := insF_len a b
      simp only [List.foldl_cons, List.length_cons]
      omega
  simpa [asc] using h l []
/-- All operands. -/
def argsF (l : List In) : List Ar := l.flatMap fun x => usesF x ++ defsF x
theorem argsF_take (l : List In) (k : Nat) (hk : k < l.length) : argsF (l.take (k + 1)) = argsF (l.take k) ++ (usesF l[k] ++ defsF l[k]) := by
  unfold argsF
  rw [List.take_succ_eq_append_getElem hk, List.flatMap_append]
  simp
theorem argsF_le (l : List In) (k : Nat) : (argsF (l.take k)).length ≤ (argsF l).length := by
  have : argsF l = argsF (l.take k) ++ argsF (l.drop k) := by
    unfold argsF
    rw [← List.flatMap_append, List.take_append_drop]
  rw [this, List.length_append]
  omega
/-- The map gives each number's place. -/
def IdxI (all : List Int) (j : Nat) (idx : List (Int × Nat)) : Prop := ∀ n k, Mp.get idx n = some k ↔ k < j ∧ all[k]? = some n
theorem IdxI.start (all : List Int) : IdxI all 0 [] := fun n k => by simp [Mp.get]
theorem up_inj {l : List Int} (h : Up l) {i j : Nat} {n : Int} (hi : l[i]? = some n) (hj : l[j]? = some n) : i = j := by
  obtain ⟨h1, e1⟩ := List.getElem?_eq_some_iff.1 hi
  obtain ⟨h2, e2⟩ := List.getElem?_eq_some_iff.1 hj
  rcases Nat.lt_trichotomy i j with q | q | q
  · have := List.pairwise_iff_getElem.1 h i j h1 h2 q
    omega
  · exact q
  · have := List.pairwise_iff_getElem.1 h j i h2 h1 q
    omega
theorem IdxI.step {all : List Int} {j : Nat} {idx : List (Int × Nat)} (h : IdxI all j idx) (hu : Up all) (hj : j < all.length) : IdxI all (j + 1) (Mp.put idx all[j] j) := fun n k => by
  rw [get_put]
  by_cases e : all[j] = n
  · rw [if_pos e]
    constructor
    · intro q
      cases q
      exact ⟨by omega, by rw [List.getElem?_eq_getElem hj, e]⟩
    · rintro ⟨_, q⟩
      rw [up_inj hu q (show all[j]? = some n by rw [List.getElem?_eq_getElem hj, e])]
  · rw [if_neg e, h n k]
    constructor
    · rintro ⟨h1, h2⟩
      exact ⟨by omega, h2⟩
    · rintro ⟨h1, h2⟩
      refine ⟨?_, h2⟩
      rcases Nat.lt_succ_iff_lt_or_eq.1 h1 with q | q
      · exact q
      · subst q
        rw [List.getElem?_eq_getElem hj] at h2
        exact absurd (Option.some.inj h2) e
theorem IdxI.ix {all : List Int} {idx : List (Int × Nat)} (h : IdxI all all.length idx) {k : Nat} {n : Int} (hk : all[k]? = some n) : ixF idx n = k := by
  unfold ixF
  rw [(h n k).2 ⟨(List.getElem?_eq_some_iff.1 hk).1, hk⟩]
  rfl
theorem IdxI.le {all : List Int} {j : Nat} {idx : List (Int × Nat)} (h : IdxI all j idx) (n : Int) : ixF idx n ≤ j := by
  unfold ixF
  cases e : Mp.get idx n with
  | none => exact Nat.zero_le _
  | some k => exact Nat.le_of_lt ((h n k).1 e).1
theorem IdxI.has {all : List Int} {idx : List (Int × Nat)} (h : IdxI all all.length idx) {kd : Int} {L : List Ar} (hL : ∀ a ∈ L, a.k = kd → a.n ∈ all) (k : Nat) : hasF (numF idx kd L []) k = true ↔ ∃ n, all[k]? = some n ∧ ⟨kd, n⟩ ∈ L := by
  rw [has_numF, has_nil]
  constructor
  · rintro (q | ⟨⟨ak, an⟩, h1, h2, h3⟩)
    · cases q
    · dsimp only at h2 h3
      subst h2
      obtain ⟨j, hj⟩ := List.getElem?_of_mem (hL _ h1 rfl)
      rw [h.ix hj] at h3
      subst h3
      exact ⟨an, hj, h1⟩
  · rintro ⟨n, h1, h2⟩
    exact .inr ⟨_, h2, rfl, h.ix h1⟩
theorem IdxI.size {all : List Int} {idx : List (Int × Nat)} (h : IdxI all all.length idx) (kd : Int) (L : List Ar) : (numF idx kd L []).length ≤ all.length / 64 + 1 :=
  numF_len idx kd _ L [] (Nat.zero_le _) (fun a _ => by have := h.le a.n; omega)
theorem DI.start {l : List In} {kd : Int} {all : List Int} {idx : List (Int × Nat)} {d : Nat → List Nat} (h : IdxI all all.length idx) (hL : ∀ a ∈ argsF l, a.k = kd → a.n ∈ all) (hd : ∀ i (hi : i < l.length), d i = numF idx kd (defsF l[i]) []) : DI l kd all d := by
  refine ⟨fun i hi k n hk => ?_, fun i hi => by rw [hd i hi]; exact h.size kd _⟩
  rw [hd i hi, h.has (fun a ha => hL a (List.mem_flatMap.2 ⟨l[i], List.getElem_mem _, List.mem_append_right _ ha⟩))]
  constructor
  · rintro ⟨m, h1, h2⟩
    rw [hk] at h1
    cases h1
    exact h2
  · intro h2
    exact ⟨n, hk, h2⟩
theorem LI.start {l : List In} {fr : List Int} {T : Nat → List Int} {kd : Int} {all : List Int} {idx : List (Int × Nat)} {s : Nat → List Nat} (h : IdxI all all.length idx) (hL : ∀ a ∈ argsF l, a.k = kd → a.n ∈ all)
    (hs : ∀ i (hi : i < l.length), (Rch l fr i → s i = numF idx kd (usesF l[i]) []) ∧ (¬ Rch l fr i → s i = [])) : LI l fr T kd all s := by
  have hin : ∀ i (hi : i < l.length), ∀ a ∈ usesF l[i], a.k = kd → a.n ∈ all := fun i hi a ha => hL a (List.mem_flatMap.2 ⟨l[i], List.getElem_mem _, List.mem_append_left _ ha⟩)
  refine ⟨fun i k hi hk => ?_, fun i hi n hr hu2 => ?_, fun i hi => ?_⟩
  · by_cases hr : Rch l fr i
    · rw [(hs i hi).1 hr, h.has (hin i hi)] at hk
      obtain ⟨n, h1, h2⟩ := hk
      exact ⟨n, h1, Lv.use i hi n hr h2⟩
    · rw [(hs i hi).2 hr, has_nil] at hk
      cases hk
  · obtain ⟨k, hk⟩ := List.getElem?_of_mem (hin i hi _ hu2 rfl)
    refine ⟨k, hk, ?_⟩
    rw [(hs i hi).1 hr, h.has (hin i hi)]
    exact ⟨n, hk, hu2⟩
  · by_cases hr : Rch l fr i
    · rw [(hs i hi).1 hr]
      exact h.size kd _
    · rw [(hs i hi).2 hr]
      exact Nat.zero_le _
/-- What Live answers: for each instruction the ascending list of what is live before it. -/
def LvL (l : List In) (fr : List Int) (T : Nat → List Int) (kd : Int) (R : List (List Int)) : Prop := R.length = l.length ∧ ∀ i (hi : i < R.length), Up R[i] ∧ ∀ n, n ∈ R[i] ↔ Lv l fr T kd i n
/-- The list of a set's numbers. -/
def namesF (all : List Int) (ws : List Nat) : List Int := (listK ws ws.length).map fun k => all.getD k.toNat 0
theorem names_up {all : List Int} {ws : List Nat} (hu : Up all) (hw : ∀ k, hasF ws k = true → k < all.length) : Up (namesF all ws) := by
  unfold Up namesF
  rw [List.pairwise_map]
  refine List.Pairwise.imp_of_mem (fun {a b} ha hb hab => ?_) (up_listK ws ws.length)
  obtain ⟨i, h1, rfl⟩ := (mem_list ws a).1 ha
  obtain ⟨j, h2, rfl⟩ := (mem_list ws b).1 hb
  have hi := hw i h1
  have hj := hw j h2
  rw [Int.toNat_natCast, Int.toNat_natCast, List.getD_eq_getElem?_getD, List.getD_eq_getElem?_getD, List.getElem?_eq_getElem hi, List.getElem?_eq_getElem hj]
  exact List.pairwise_iff_getElem.1 hu i j hi hj (by omega)
theorem mem_names {all : List Int} {ws : List Nat} (hw : ∀ k, hasF ws k = true → k < all.length) (n : Int) : n ∈ namesF all ws ↔ ∃ k, all[k]? = some n ∧ hasF ws k = true := by
  unfold namesF
  rw [List.mem_map]
  constructor
  · rintro ⟨a, ha, rfl⟩
    obtain ⟨i, h1, rfl⟩ := (mem_list ws a).1 ha
    have hi := hw i h1
    refine ⟨i, ?_, h1⟩
    rw [Int.toNat_natCast, List.getD_eq_getElem?_getD, List.getElem?_eq_getElem hi]
    rfl
  · rintro ⟨k, h1, h2⟩
    refine ⟨(k : Int), (mem_list ws _).2 ⟨k, h2, rfl⟩, ?_⟩
    rw [Int.toNat_natCast, List.getD_eq_getElem?_getD, h1]
    rfl
theorem LI.lvl {l : List In} {fr : List Int} {T : Nat → List Int} {kd : Int} {all : List Int} {s d : Nat → List Nat} (h : LI l fr T kd all s) (hd : DI l kd all d) (hu : Up all) (hc : ∀ i, i < l.length → Cl l fr T d s i) : LvL l fr T kd ((List.range l.length).map fun i => namesF all (s i)) := by
  refine ⟨by simp, fun i hi => ?_⟩
  have hil : i < l.length := by simpa using hi
  have hw : ∀ k, hasF (s i) k = true → k < all.length := fun k hk => by
    obtain ⟨n, h1, _⟩ := h.sound i k hil hk
    exact (List.getElem?_eq_some_iff.1 h1).1
  rw [List.getElem_map, List.getElem_range]
  exact ⟨names_up hu hw, fun n => by rw [mem_names hw, h.fin hd hc i n hil]⟩
end Go.Proofs.YtekfnonjhcfdmaaDoor
