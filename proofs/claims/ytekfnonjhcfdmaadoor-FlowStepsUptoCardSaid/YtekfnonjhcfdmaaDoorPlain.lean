/- Layer 17, plain: instructions, what they read and write, their successors; ascending lists. No program in sight. -/
import Derived.Lib.Hide
namespace Go.Proofs.YtekfnonjhcfdmaaDoor

/-- An operand. -/
structure Ar where
  k : Int
  n : Int
deriving DecidableEq
/-- A segment. -/
structure Sg where
  ty : Int
  val : Ar
  size : Ar
  little : Bool
/-- A case. -/
structure Cs where
  lit : Int
  to : Int
/-- An instruction. -/
structure In where
  op : Int
  dst : Ar
  src : List Ar
  to : Int
  n : Int
  live : Int
  name : ByteArray
  cases : List Cs
  segs : List Sg
def placeF (a : Ar) : Bool := (decide (a.k = 1) || (decide (a.k = 2) || decide (a.k = 4))) && (decide (0 ≤ a.n) && decide (a.n < 524288))
def regs (n : Nat) : List Ar := (List.range n).map fun k : Nat => ⟨1, (k : Int)⟩
def callOp (op : Int) : Bool := decide (op = 15) || (decide (op = 18) || (decide (op = 19) || (decide (op = 20) || decide (op = 21))))
def moreF (x : In) : List Ar := if callOp x.op then (if x.n ≤ 16 then regs x.n.toNat else []) else if x.op = 26 then [⟨1, 0⟩] else []
def segArgs (l : List Sg) : List Ar := l.flatMap fun g => [g.val, g.size]
/-- What an instruction reads. -/
def usesF (x : In) : List Ar := (x.src ++ segArgs x.segs).filter placeF ++ moreF x
def giveOp (op : Int) : Bool := decide (op = 15) || (decide (op = 16) || (decide (op = 18) || (decide (op = 20) || (decide (op = 22) || decide (op = 37)))))
/-- What an instruction writes. -/
def defsF (x : In) : List Ar := (if placeF x.dst then [x.dst] else []) ++ (if giveOp x.op = true ∧ x.dst ≠ ⟨1, 0⟩ then [⟨1, 0⟩] else [])
def endOp (op : Int) : Bool := decide (op = 17) || (decide (op = 19) || (decide (op = 21) || (decide (op = 23) || (decide (op = 26) || decide (op = 27)))))
def jumpOp (op : Int) : Bool := decide (op = 8) || decide (op = 39)
def forkOp (op : Int) : Bool := decide (op = 9) || (decide (op = 10) || (decide (op = 11) || (decide (op = 13) || (decide (op = 30) || (decide (op = 31) || (decide (op = 32) || (decide (op = 33) || (decide (op = 34) || (decide (op = 37) || decide (op = 40))))))))))
/-- Where an instruction may lead to; perhaps some twice or out of range. -/
def targF (x : In) (i : Int) : List Int :=
  if endOp x.op then [] else if jumpOp x.op then [x.to] else if x.op = 12 then x.to :: x.cases.map (·.to) else if forkOp x.op then [i + 1, x.to] else [i + 1]

/-- One more in an ascending list. -/
def insF : List Int → Int → List Int
  | [], n => [n]
  | a :: r, n => if n < a then n :: a :: r else if n = a then a :: r else a :: insF r n
def asc (l : List Int) : List Int := l.foldl insF []
def Up (l : List Int) : Prop := l.Pairwise (· < ·)
theorem mem_insF : ∀ (l : List Int) (n k : Int), k ∈ insF l n ↔ k = n ∨ k ∈ l
  | [], n, k => by simp [insF]
  | a :: r, n, k => by
    unfold insF
    split
    · simp
    · split
      · rename_i h
        subst h
        simp
      · rw [List.mem_cons, List.mem_cons, mem_insF r n k]
        constructor
        · rintro (h | h | h)
          · exact .inr (.inl h)
          · exact .inl h
          · exact .inr (.inr h)
        · rintro (h | h | h)
          · exact .inr (.inl h)
          · exact .inl h
          · exact .inr (.inr h)
theorem up_insF : ∀ (l : List Int) (n : Int), Up l → Up (insF l n)
  | [], n, _ => by unfold insF Up; exact List.pairwise_singleton _ _
  | a :: r, n, h => by
    unfold Up at h
    obtain ⟨h1, h2⟩ := List.pairwise_cons.1 h
    unfold insF
    split
    · rename_i hn
      exact List.pairwise_cons.2 ⟨fun b hb => by
        rcases List.mem_cons.1 hb with rfl | hb
        · exact hn
        · exact Int.lt_trans hn (h1 b hb), h⟩
    · rename_i hn
      split
      · exact h
      · rename_i he
        refine List.pairwise_cons.2 ⟨fun b hb => ?_, up_insF r n h2⟩
        rcases (mem_insF r n b).1 hb with rfl | hb
        · omega
        · exact h1 b hb
theorem insF_in : ∀ (l : List Int) (n : Int), Up l → n ∈ l → insF l n = l
  | [], n, _, h => by cases h
  | a :: r, n, hu, h => by
    obtain ⟨h1, h2⟩ := List.pairwise_cons.1 hu
    unfold insF
    rcases List.mem_cons.1 h with rfl | h
    · rw [if_neg (by omega), if_pos rfl]
    · have := h1 n h
      rw [if_neg (by omega), if_neg (by omega), insF_in r n h2 h]
theorem mem_foldl_insF : ∀ (l a : List Int) (k : Int), k ∈ l.foldl insF a ↔ k ∈ a ∨ k ∈ l
  | [], a, k => by simp
  | b :: r, a, k => by
    rw [List.foldl_cons, mem_foldl_insF r, mem_insF, List.mem_cons]
    constructor
    · rintro ((h | h) | h)
      · exact .inr (.inl h)
      · exact .inl h
      · exact .inr (.inr h)
    · rintro (h | h | h)
      · exact .inl (.inr h)
      · exact .inl (.inl h)
      · exact .inr h
theorem up_foldl_insF : ∀ (l a : List Int), Up a → Up (l.foldl insF a)
  | [], _, h => h
  | b :: r, a, h => up_foldl_insF r _ (up_insF a b h)
theorem mem_asc (l : List Int) (k : Int) : k ∈ asc l ↔ k ∈ l := by unfold asc; rw [mem_foldl_insF]; simp
theorem up_asc (l : List Int) : Up (asc l) := up_foldl_insF l [] List.Pairwise.nil
/-- Ascending lists with the same members are equal. -/
theorem up_ext : ∀ (l m : List Int), Up l → Up m → (∀ k, k ∈ l ↔ k ∈ m) → l = m
  | [], [], _, _, _ => rfl
  | [], b :: s, _, _, h => absurd ((h b).2 (List.mem_cons_self ..)) (by simp)
  | a :: r, [], _, _, h => absurd ((h a).1 (List.mem_cons_self ..)) (by simp)
  | a :: r, b :: s, hl, hm, h => by
    obtain ⟨h1, h2⟩ := List.pairwise_cons.1 hl
    obtain ⟨h3, h4⟩ := List.pairwise_cons.1 hm
    have hab : a = b := by
      rcases List.mem_cons.1 ((h a).1 (List.mem_cons_self ..)) with q | q
      · exact q
      · rcases List.mem_cons.1 ((h b).2 (List.mem_cons_self ..)) with p | p
        · exact p.symm
        · have := h3 a q
          have := h1 b p
          omega
    subst hab
    rw [up_ext r s h2 h4 fun k => ?_]
    have hk := h k
    rw [List.mem_cons, List.mem_cons] at hk
    constructor
    · intro q
      rcases hk.1 (.inr q) with e | e
      · have := h1 k q
        omega
      · exact e
    · intro q
      rcases hk.2 (.inr q) with e | e
      · have := h3 k q
        omega
      · exact e
def inR (l : List In) (k : Int) : Bool := decide (0 ≤ k) && decide (k < l.length)
/-- The successors of an instruction, ascending. -/
def nextF (l : List In) (i : Int) : List Int := if h : 0 ≤ i ∧ i.toNat < l.length then asc ((targF (l[i.toNat]'h.2) i).filter (inR l)) else []
theorem up_nextF (l : List In) (i : Int) : Up (nextF l i) := by
  unfold nextF
  split
  · exact up_asc _
  · exact List.Pairwise.nil
theorem mem_nextF (l : List In) (i : Nat) (h : i < l.length) (k : Int) : k ∈ nextF l i ↔ (0 ≤ k ∧ k < l.length) ∧ k ∈ targF l[i] i := by
  unfold nextF
  rw [dif_pos ⟨by omega, by simpa using h⟩, mem_asc, List.mem_filter]
  unfold inR
  simp only [Int.toNat_natCast, Bool.and_eq_true, decide_eq_true_eq]
  exact ⟨fun q => ⟨q.2, q.1⟩, fun q => ⟨q.2, q.1⟩⟩
/-- An instruction can be reached. -/
inductive Rch (l : List In) (fr : List Int) : Nat → Prop
  | entry (i : Nat) : (i : Int) ∈ fr → i < l.length → Rch l fr i
  | step (i j : Nat) (hi : i < l.length) : Rch l fr i → j < l.length → (j : Int) ∈ targF l[i] i → Rch l fr j
  | hand (i j : Nat) (hi : i < l.length) : Rch l fr i → j < l.length → l[i].op = 28 → l[i].to = j → Rch l fr j
theorem Rch.lt {l : List In} {fr : List Int} {i : Nat} (h : Rch l fr i) : i < l.length := by
  cases h <;> assumption
/-- What is open behind an instruction. -/
def aftF (x : In) (t : List Int) : Option (List Int) := if x.op = 28 then some (t ++ [x.to]) else if x.op = 29 then (if t = [] then none else some t.dropLast) else some t
/-- An assignment of open handlers that fits along every path. -/
structure Fits (l : List In) (fr : List Int) (T : Nat → List Int) : Prop where
  entry : ∀ i : Nat, (i : Int) ∈ fr → i < l.length → T i = []
  hand : ∀ (i j : Nat) (hi : i < l.length), Rch l fr i → j < l.length → l[i].op = 28 → l[i].to = j → T j = T i
  step : ∀ (i : Nat) (hi : i < l.length), Rch l fr i → ∃ o, aftF l[i] (T i) = some o ∧ ∀ j : Nat, j < l.length → (j : Int) ∈ targF l[i] i → T j = o
/-- It is the only one. -/
theorem Fits.one {l : List In} {fr : List Int} {T U : Nat → List Int} (h : Fits l fr T) (k : Fits l fr U) : ∀ i, Rch l fr i → T i = U i := by
  intro i hi
  induction hi with
  | entry i h1 h2 => rw [h.entry i h1 h2, k.entry i h1 h2]
  | step i j hl hr hj ht ih =>
    obtain ⟨o, ho, hs⟩ := h.step i hl hr
    obtain ⟨p, hp, hq⟩ := k.step i hl hr
    rw [ih, hp] at ho
    cases ho
    rw [hs j hj ht, hq j hj ht]
  | hand i j hl hr hj h1 h2 ih => rw [h.hand i j hl hr hj h1 h2, k.hand i j hl hr hj h1 h2, ih]
/-- A place is live before an instruction. -/
inductive Lv (l : List In) (fr : List Int) (T : Nat → List Int) (kd : Int) : Nat → Int → Prop
  | use (i : Nat) (hi : i < l.length) (n : Int) : Rch l fr i → ⟨kd, n⟩ ∈ usesF l[i] → Lv l fr T kd i n
  | step (i j : Nat) (hi : i < l.length) (n : Int) : Rch l fr i → j < l.length → (j : Int) ∈ targF l[i] i → ⟨kd, n⟩ ∉ defsF l[i] → Lv l fr T kd j n → Lv l fr T kd i n
  | hand (i j : Nat) (hi : i < l.length) (n : Int) : Rch l fr i → j < l.length → (T i).getLast? = some (j : Int) → Lv l fr T kd j n → Lv l fr T kd i n
end Go.Proofs.YtekfnonjhcfdmaaDoor
