/- Plain: two sides whose messages are passed on, perhaps changed; what becomes of them if nothing is changed. -/
import Derived.Test.YtnkkbkceapcahaaDoorWake
namespace Go.Proofs.YtnkkbkceapcahaaDoor
open Go.RowKit Go.Rt Go.Rw

/-- What a run leaves: the dialing side, the listening side, the messages. -/
abbrev Ran := Sd × Sd × List ByteArray
def run4 (d l : Sd) (s : List ByteArray) (ack : ByteArray) (m : Nat → ByteArray → ByteArray) : Ran := ((takeF d (m 3 ack)).1, l, s ++ [ack])
def run3 (d l : Sd) (s : List ByteArray) (reply : ByteArray) (m : Nat → ByteArray → ByteArray) : Ran :=
  if (takeF l (m 2 reply)).2.2 ≠ 0 then (d, (takeF l (m 2 reply)).1, s ++ [reply])
  else run4 d (takeF l (m 2 reply)).1 (s ++ [reply]) (takeF l (m 2 reply)).2.1 m
def run2 (d l : Sd) (s : List ByteArray) (offer : ByteArray) (m : Nat → ByteArray → ByteArray) : Ran :=
  if (takeF d (m 1 offer)).2.2 ≠ 0 then ((takeF d (m 1 offer)).1, l, s ++ [offer])
  else run3 (takeF d (m 1 offer)).1 l (s ++ [offer]) (takeF d (m 1 offer)).2.1 m
def runF (d l : Sd) (hello : ByteArray) (how : Int) (m : Nat → ByteArray → ByteArray) : Ran :=
  if (takeF l (m 0 hello)).2.2 ≠ 0 then (d, (takeF l (m 0 hello)).1, [hello])
  else run2 d (answerF (takeF l (m 0 hello)).1 how).1 [hello] (answerF (takeF l (m 0 hello)).1 how).2.1 m
/-- Nothing is changed. -/
def mId : Nat → ByteArray → ByteArray := fun _ b => b

section
variable (x y : Pr) (xw xc yc : ByteArray) (kx ky : Nat)
def metB (how : Int) : Bool := seqB xw y.name && !seqB x.name y.name && (how == 1)
def firstB (how : Int) : Bool := metB x y xw how && seqB (proofD x y xc kx ky) (proofD x y yc kx ky)
def bothB (how : Int) : Bool := firstB x y xw xc yc kx ky how && seqB (proofL x y xc kx ky) (proofL x y yc kx ky)
end

theorem seqB_comm (a b : ByteArray) : seqB a b = seqB b a := by
  rw [Bool.eq_iff_iff, seqB_eq, seqB_eq]
  exact eq_comm
theorem greet_refused (x y : Pr) (hx : PrOk x) (cy : ByteArray) (ky : Nat) (want : ByteArray) (hw : nameF want = true) (h : seqB want y.name = false ∨ seqB x.name y.name = true) :
    takeF (listenS y cy ky) (helloF x want) = failS (listenS y cy ky) 351 := by
  rw [take_hello _ rfl rfl rfl, greet_hello _ x hx want hw]
  exact if_pos h
theorem offer_empty (d : Sd) : offerF d ⟨#[]⟩ = failS d 6 := by
  unfold offerF
  rw [if_neg (by
    rw [seqB_size (b := busyC) (by show (0 : Nat) ≠ 2; omega), seqB_size (b := staleC) (by show (0 : Nat) ≠ 2; omega)]
    simp), if_pos (.inl (by show (0 : Nat) < 2; omega))]

/-- The states in which a run of unchanged messages leaves the sides, and whom they know. -/
theorem run_plain (x y : Pr) (hx : PrOk x) (hy : PrOk y) (xw xc yc : ByteArray) (kx ky : Nat) (hkx : kx ≤ 18446744073709551615) (hky : ky ≤ 18446744073709551615) (hw : nameF xw = true) (how : Int) :
    ((runF (dialS x xw xc kx) (listenS y yc ky) (helloF x xw) how mId).1.state = 3 ↔ bothB x y xw xc yc kx ky how = true) ∧
    ((runF (dialS x xw xc kx) (listenS y yc ky) (helloF x xw) how mId).2.1.state = 3 ↔ firstB x y xw xc yc kx ky how = true) ∧
    (firstB x y xw xc yc kx ky how = true → (runF (dialS x xw xc kx) (listenS y yc ky) (helloF x xw) how mId).1.other = y ∧ (runF (dialS x xw xc kx) (listenS y yc ky) (helloF x xw) how mId).2.1.other = x) := by
  by_cases hm : seqB xw y.name = false ∨ seqB x.name y.name = true
  · have hf : firstB x y xw xc yc kx ky how = false := by
      unfold firstB metB
      rcases hm with h | h <;> simp [h]
    have hb : bothB x y xw xc yc kx ky how = false := by unfold bothB; rw [hf]; rfl
    unfold runF mId
    rw [greet_refused x y hx yc ky xw hw hm, hf, hb]
    simp [failS, listenS, dialS]
  · have h1 : seqB xw y.name = true := by
      cases h : seqB xw y.name
      · exact absurd (.inl h) hm
      · rfl
    have h2 : seqB x.name y.name = false := by
      cases h : seqB x.name y.name
      · rfl
      · exact absurd (.inr h) hm
    have e1 := step_hello x y hx yc ky xw hw h1 h2
    unfold runF mId
    rw [e1]
    simp only [ne_eq, not_true_eq_false, if_false]
    by_cases h3 : how = 1
    · subst h3
      have e2 := step_offer x y yc ky
      have hmet : metB x y xw 1 = true := by unfold metB; rw [h1, h2]; rfl
      have e3 := step_reply x y hy xw xc kx ky hky (by rw [seqB_comm]; exact h1)
      rw [e2]
      unfold run2
      simp only [e3, ne_eq, not_true_eq_false, if_false]
      have e4 := step_ack x y yc (proofD x y xc kx ky) kx ky hkx (proofD_size _ _ _ _ _)
      unfold run3
      simp only [e4]
      cases hq : seqB (proofD x y xc kx ky) (proofD x y yc kx ky) with
      | false =>
        have hf : firstB x y xw xc yc kx ky 1 = false := by unfold firstB; rw [hq, Bool.and_false]
        have hb : bothB x y xw xc yc kx ky 1 = false := by unfold bothB; rw [hf]; rfl
        rw [hf, hb]
        simp [failS, dia1, dialS]
      | true =>
        have hf : firstB x y xw xc yc kx ky 1 = true := by unfold firstB; rw [hq, hmet]; rfl
        rw [hf]
        simp only [Bool.true_eq_false, if_false]
        unfold run4
        have e5 := step_done x y xw xc (proofL x y yc kx ky) kx ky (proofL_size _ _ _ _ _)
        simp only [e5]
        cases hr : seqB (proofL x y yc kx ky) (proofL x y xc kx ky) with
        | false =>
          have hb : bothB x y xw xc yc kx ky 1 = false := by unfold bothB; rw [seqB_comm, hr, Bool.and_false]
          rw [hb]
          simp [failS, dia1, dialS, lis3, listenS]
        | true =>
          have hb : bothB x y xw xc yc kx ky 1 = true := by unfold bothB; rw [seqB_comm, hr, hf]; rfl
          rw [hb]
          simp [dia2, dialS, lis3, listenS]
    · have hf : firstB x y xw xc yc kx ky how = false := by unfold firstB metB; simp [h3]
      have hb : bothB x y xw xc yc kx ky how = false := by unfold bothB; rw [hf]; rfl
      rw [hf, hb]
      by_cases h4 : how < 1 ∨ 3 < how
      · rw [answerF_no _ _ (.inr h4)]
        unfold run2
        rw [take_offer' _ rfl rfl rfl, offer_empty]
        simp [failS, dialS, lis1, listenS]
      · have hn : how = 2 ∨ how = 3 := by omega
        rw [answerF_refuse _ _ (by rintro (q | q | q); exact q rfl; omega; omega) h3]
        unfold run2
        rw [take_offer' _ rfl rfl rfl, offer_status _ how.toNat (by omega)]
        simp [failS, dialS, lis1, listenS]
end Go.Proofs.YtnkkbkceapcahaaDoor
