/- Plain: the reference's constants: primes, and the digits of their roots. -/
import Derived.Test.YtggfibheolpbiaaDoorCompP
namespace Go.Proofs.YtggfibheolpbiaaDoor

def withinF (x p many : Nat) : Bool :=
  if many = 2 then decide (x * x / 18446744073709551616 < p) || (decide (x * x / 18446744073709551616 = p) && decide (x * x % 18446744073709551616 = 0))
  else decide (x * x % 18446744073709551616 * x / 18446744073709551616 + x * x / 18446744073709551616 * x < 4294967296 * p) ||
    (decide (x * x % 18446744073709551616 * x / 18446744073709551616 + x * x / 18446744073709551616 * x = 4294967296 * p) && decide (x * x % 18446744073709551616 * x % 18446744073709551616 = 0))
def rootStep (p many x k : Nat) : Nat := if decide (x + 2 ^ k < 137438953472 / (many - 1)) && withinF (x + 2 ^ k) p many then x + 2 ^ k else x
/-- k digits are still to come. -/
def rootGo (p many : Nat) : Nat → Nat → Nat
  | x, 0 => x
  | x, k + 1 => rootGo p many (rootStep p many x k) k
def rootF (p many : Nat) : Nat := rootGo p many 0 38 % 4294967296
/-- Is c prime, by the primes below it? -/
def scanF : List Nat → Nat → Bool
  | [], _ => true
  | q :: r, c => if q * q ≤ c then (if c % q = 0 then false else scanF r c) else true
/-- The primes below c. -/
def primesB : Nat → List Nat
  | 0 => []
  | c + 1 => if 2 ≤ c ∧ scanF (primesB c) c = true then primesB c ++ [c] else primesB c
def P64 : List Nat := [2, 3, 5, 7, 11, 13, 17, 19, 23, 29, 31, 37, 41, 43, 47, 53, 59, 61, 67, 71, 73, 79, 83, 89, 97, 101, 103, 107, 109, 113, 127, 131, 137, 139, 149, 151, 157, 163, 167, 173, 179, 181, 191, 193, 197, 199, 211, 223, 227, 229, 233, 239, 241, 251, 257, 263, 269, 271, 277, 281, 283, 293, 307, 311]
theorem primes_all : primesB 312 = P64 := by decide +kernel
theorem roots3 : P64.map (rootF · 3) = KL := by decide +kernel
theorem roots2 : (P64.take 8).map (rootF · 2) = startF.l := by decide +kernel
theorem primes_step (c : Nat) : primesB c <+: primesB (c + 1) := by
  rw [primesB]
  split
  · exact List.prefix_append _ _
  · exact List.prefix_refl _
theorem primes_mono {c d : Nat} (h : c ≤ d) : primesB c <+: primesB d := by
  induction d with
  | zero =>
    have : c = 0 := by omega
    subst this
    exact List.prefix_refl _
  | succ d ih =>
    rcases Nat.eq_or_lt_of_le h with rfl | q
    · exact List.prefix_refl _
    · exact (ih (by omega)).trans (primes_step d)
theorem primes_small {c many : Nat} (h : (primesB c).length < many) (hm : many ≤ 64) : c < 312 := by
  rcases Nat.lt_or_ge c 312 with q | q
  · exact q
  · have := (primes_mono q).length_le
    rw [primes_all] at this
    simp only [P64, List.length_cons, List.length_nil] at this
    omega
theorem primes_take {c many : Nat} (hc : c ≤ 312) (h : (primesB c).length = many) : primesB c = P64.take many := by
  have := primes_mono hc
  rw [primes_all] at this
  rw [List.prefix_iff_eq_take, h] at this
  exact this
theorem primes_bd {c : Nat} (hc : c ≤ 312) : ∀ q ∈ primesB c, 2 ≤ q ∧ q < 312 := by
  intro q hq
  have h1 := (primes_mono hc).subset hq
  rw [primes_all] at h1
  have h2 : ∀ q ∈ P64, 2 ≤ q ∧ q < 312 := by decide +kernel
  exact h2 q h1
theorem P64_bd : ∀ q ∈ P64, 2 ≤ q ∧ q < 312 := by decide +kernel
/-- The walk's way through the primes: from place i on, if all before it divide not. -/
theorem scan_drop {l : List Nat} {c i : Nat} (h : i < l.length) : scanF (l.drop i) c = if l[i] * l[i] ≤ c then (if c % l[i] = 0 then false else scanF (l.drop (i + 1)) c) else true := by
  rw [List.drop_eq_getElem_cons h, scanF]
theorem scan_end {l : List Nat} {c i : Nat} (h : l.length ≤ i) : scanF (l.drop i) c = true := by
  rw [List.drop_eq_nil_of_le h, scanF]
theorem root_bd (p many x k : Nat) (h : x < 137438953472) : rootStep p many x k < 137438953472 := by
  unfold rootStep
  split
  · rename_i h1
    simp only [Bool.and_eq_true, decide_eq_true_eq] at h1
    have h2 : 137438953472 / (many - 1) ≤ 137438953472 := Nat.div_le_self 137438953472 (many - 1)
    omega
  · exact h

/-- The product of two 64-bit numbers, as math/bits makes it of halves. -/
theorem mul_halves (a b c d x y : Nat) (hx : x = a * 4294967296 + b) (hy : y = c * 4294967296 + d) : x * y = a * c * 18446744073709551616 + (a * d + b * c) * 4294967296 + b * d := by
  subst hx hy
  have e1 : (a * 4294967296 + b) * (c * 4294967296 + d) = a * 4294967296 * (c * 4294967296) + a * 4294967296 * d + b * (c * 4294967296) + b * d := by
    rw [Nat.add_mul, Nat.mul_add, Nat.mul_add]; omega
  have e2 : a * 4294967296 * (c * 4294967296) = a * c * 18446744073709551616 := by
    rw [Nat.mul_mul_mul_comm]
  have e3 : a * 4294967296 * d = a * d * 4294967296 := Nat.mul_right_comm _ _ _
  have e4 : b * (c * 4294967296) = b * c * 4294967296 := (Nat.mul_assoc _ _ _).symm
  rw [e1, e2, e3, e4]
  generalize a * c = A
  generalize a * d = B
  generalize b * c = C
  generalize b * d = D
  omega
theorem mul_bd {x y : Nat} (hx : x < 4294967296) (hy : y < 4294967296) : x * y ≤ 18446744065119617025 := by
  calc x * y ≤ 4294967295 * 4294967295 := Nat.mul_le_mul (by omega) (by omega)
    _ = 18446744065119617025 := rfl
theorem mul_hi (x y : Nat) (hx : x < 18446744073709551616) (hy : y < 18446744073709551616) :
    (x / 4294967296) * (y / 4294967296) + ((x / 4294967296) * (y % 4294967296) + (x % 4294967296) * (y % 4294967296) / 4294967296) / 4294967296 +
      (((x / 4294967296) * (y % 4294967296) + (x % 4294967296) * (y % 4294967296) / 4294967296) % 4294967296 + (x % 4294967296) * (y / 4294967296)) / 4294967296 = x * y / 18446744073709551616 := by
  have e := mul_halves (x / 4294967296) (x % 4294967296) (y / 4294967296) (y % 4294967296) x y (by omega) (by omega)
  have b1 := mul_bd (show x / 4294967296 < 4294967296 by omega) (show y / 4294967296 < 4294967296 by omega)
  have b2 := mul_bd (show x / 4294967296 < 4294967296 by omega) (show y % 4294967296 < 4294967296 by omega)
  have b3 := mul_bd (show x % 4294967296 < 4294967296 by omega) (show y / 4294967296 < 4294967296 by omega)
  have b4 := mul_bd (show x % 4294967296 < 4294967296 by omega) (show y % 4294967296 < 4294967296 by omega)
  rw [e]
  generalize x / 4294967296 * (y / 4294967296) = A at *
  generalize x / 4294967296 * (y % 4294967296) = B at *
  generalize x % 4294967296 * (y / 4294967296) = C at *
  generalize x % 4294967296 * (y % 4294967296) = D at *
  omega
end Go.Proofs.YtggfibheolpbiaaDoor
