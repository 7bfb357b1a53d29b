/- Plain: the reference's constants: primes, and the digits of their roots. The reference's small functions: r, s, Mul64, within, Root. The reference's primes, and its tables. The reference's Start. -/
import Derived.Test.YtnkkbkceapcahaaDoorCompP1
import Derived.LoopTactic
import Derived.Test.YtnkkbkceapcahaaDoorLists
import Derived.Deep.DeepCutAuto
import Derived.Test.YtnkkbkceapcahaaDoorSum
namespace Go.Proofs.YtnkkbkceapcahaaDoor

def withinF (x p many : Nat) : Bool :=
  if many = 2 then decide (x * x / 18446744073709551616 < p) || (decide (x * x / 18446744073709551616 = p) && decide (x * x % 18446744073709551616 = 0))
  else decide (x * x % 18446744073709551616 * x / 18446744073709551616 + x * x / 18446744073709551616 * x < 4294967296 * p) ||
    (decide (x * x % 18446744073709551616 * x / 18446744073709551616 + x * x / 18446744073709551616 * x = 4294967296 * p) && decide (x * x % 18446744073709551616 * x % 18446744073709551616 = 0))
def rootStep (p many x k : Nat) : Nat := if decide (x + 2 ^ k < 137438953472 / (many - 1)) && withinF (x + 2 ^ k) p many then x + 2 ^ k else x
/-- k digits are still to come. -/
def rootGo (p many : Nat) : Nat → Nat → Nat
  | x, 0 => x
  | x, k + 1 => rootGo p many (rootStep p many x k) k
def rootF (p many : Nat) : Nat := rootGo p many 0 38 % 4294967296
/-- Is c prime, by the primes below it? -/
def scanF : List Nat → Nat → Bool
  | [], _ => true
  | q :: r, c => if q * q ≤ c then (if c % q = 0 then false else scanF r c) else true
/-- The primes below c. -/
def primesB : Nat → List Nat
  | 0 => []
  | c + 1 => if 2 ≤ c ∧ scanF (primesB c) c = true then primesB c ++ [c] else primesB c
def P64 : List Nat := [2, 3, 5, 7, 11, 13, 17, 19, 23, 29, 31, 37, 41, 43, 47, 53, 59, 61, 67, 71, 73, 79, 83, 89, 97, 101, 103, 107, 109, 113, 127, 131, 137, 139, 149, 151, 157, 163, 167, 173, 179, 181, 191, 193, 197, 199, 211, 223, 227, 229, 233, 239, 241, 251, 257, 263, 269, 271, 277, 281, 283, 293, 307, 311]
theorem primes_all : primesB 312 = P64 := by decide +kernel
theorem roots3 : P64.map (rootF · 3) = KL := by decide +kernel
theorem roots2 : (P64.take 8).map (rootF · 2) = startF.l := by decide +kernel
theorem primes_step (c : Nat) : primesB c <+: primesB (c + 1) := by
  rw [primesB]
  split
  · exact List.prefix_append _ _
  · exact List.prefix_refl _
theorem primes_mono {c d : Nat} (h : c ≤ d) : primesB c <+: primesB d := by
  induction d with
  | zero =>
    have : c = 0 := by omega
    subst this
    exact List.prefix_refl _
  | succ d ih =>
    rcases Nat.eq_or_lt_of_le h with rfl | q
    · exact List.prefix_refl _
    · exact (ih (by omega)).trans (primes_step d)
theorem primes_small {c many : Nat} (h : (primesB c).length < many) (hm : many ≤ 64) : c < 312 := by
  rcases Nat.lt_or_ge c 312 with q | q
  · exact q
  · have := (primes_mono q).length_le
    rw [primes_all] at this
    simp only [P64, List.length_cons, List.length_nil] at this
    omega
theorem primes_take {c many : Nat} (hc : c ≤ 312) (h : (primesB c).length = many) : primesB c = P64.take many := by
  have := primes_mono hc
  rw [primes_all] at this
  rw [List.prefix_iff_eq_take, h] at this
  exact this
theorem primes_bd {c : Nat} (hc : c ≤ 312) : ∀ q ∈ primesB c, 2 ≤ q ∧ q < 312 := by
  intro q hq
  have h1 := (primes_mono hc).subset hq
  rw [primes_all] at h1
  have h2 : ∀ q ∈ P64, 2 ≤ q ∧ q < 312 := by decide +kernel
  exact h2 q h1
theorem P64_bd : ∀ q ∈ P64, 2 ≤ q ∧ q < 312 := by decide +kernel
/-- The walk's way through the primes: from place i on, if all before it divide not. -/
theorem scan_drop {l : List Nat} {c i : Nat} (h : i < l.length) : scanF (l.drop i) c = if l[i] * l[i] ≤ c then (if c % l[i] = 0 then false else scanF (l.drop (i + 1)) c) else true := by
  rw [List.drop_eq_getElem_cons h, scanF]
theorem scan_end {l : List Nat} {c i : Nat} (h : l.length ≤ i) : scanF (l.drop i) c = true := by
  rw [List.drop_eq_nil_of_le h, scanF]
theorem root_bd (p many x k : Nat) (h : x < 137438953472) : rootStep p many x k < 137438953472 := by
  unfold rootStep
  split
  · rename_i h1
    simp only [Bool.and_eq_true, decide_eq_true_eq] at h1
    have h2 : 137438953472 / (many - 1) ≤ 137438953472 := Nat.div_le_self 137438953472 (many - 1)
    omega
  · exact h

/-- The product of two 64-bit numbers, as math/bits makes it of halves. -/
theorem mul_halves (a b c d x y : Nat) (hx : x = a * 4294967296 + b) (hy : y = c * 4294967296 + d) : x * y = a * c * 18446744073709551616 + (a * d + b * c) * 4294967296 + b * d := by
  subst hx hy
  have e1 : (a * 4294967296 + b) * (c * 4294967296 + d) = a * 4294967296 * (c * 4294967296) + a * 4294967296 * d + b * (c * 4294967296) + b * d := by
    rw [Nat.add_mul, Nat.mul_add, Nat.mul_add]; omega
  have e2 : a * 4294967296 * (c * 4294967296) = a * c * 18446744073709551616 := by
    rw [Nat.mul_mul_mul_comm]
  have e3 : a * 4294967296 * d = a * d * 4294967296 := Nat.mul_right_comm _ _ _
  have e4 : b * (c * 4294967296) = b * c * 4294967296 := (Nat.mul_assoc _ _ _).symm
  rw [e1, e2, e3, e4]
  generalize a * c = A
  generalize a * d = B
  generalize b * c = C
  generalize b * d = D
  omega
theorem mul_bd {x y : Nat} (hx : x < 4294967296) (hy : y < 4294967296) : x * y ≤ 18446744065119617025 := by
  calc x * y ≤ 4294967295 * 4294967295 := Nat.mul_le_mul (by omega) (by omega)
    _ = 18446744065119617025 := rfl
theorem mul_hi (x y : Nat) (hx : x < 18446744073709551616) (hy : y < 18446744073709551616) :
    (x / 4294967296) * (y / 4294967296) + ((x / 4294967296) * (y % 4294967296) + (x % 4294967296) * (y % 4294967296) / 4294967296) / 4294967296 +
      (((x / 4294967296) * (y % 4294967296) + (x % 4294967296) * (y % 4294967296) / 4294967296) % 4294967296 + (x % 4294967296) * (y / 4294967296)) / 4294967296 = x * y / 18446744073709551616 := by
  have e := mul_halves (x / 4294967296) (x % 4294967296) (y / 4294967296) (y % 4294967296) x y (by omega) (by omega)
  have b1 := mul_bd (show x / 4294967296 < 4294967296 by omega) (show y / 4294967296 < 4294967296 by omega)
  have b2 := mul_bd (show x / 4294967296 < 4294967296 by omega) (show y % 4294967296 < 4294967296 by omega)
  have b3 := mul_bd (show x % 4294967296 < 4294967296 by omega) (show y / 4294967296 < 4294967296 by omega)
  have b4 := mul_bd (show x % 4294967296 < 4294967296 by omega) (show y % 4294967296 < 4294967296 by omega)
  rw [e]
  generalize x / 4294967296 * (y / 4294967296) = A at *
  generalize x / 4294967296 * (y % 4294967296) = B at *
  generalize x % 4294967296 * (y / 4294967296) = C at *
  generalize x % 4294967296 * (y % 4294967296) = D at *
  omega
end Go.Proofs.YtnkkbkceapcahaaDoor
namespace Go.Proofs.YtnkkbkceapcahaaDoor
open Go.RowKit

theorem rr_any (n : Nat) (k : Int) (x : Nat) (w : World) (hk : k = (n : Int)) (hx : x < 4294967296) (h1 : 1 ≤ n) (h2 : n ≤ 31) :
    Calls Tryd.prog 71 #[.int .u32 x, .int .u64 k] w fun e w' => e = .returned (.int .u32 (rotr n x : Nat)) ∧ w' = w := by
  subst hk
  go_enter Tryd.func71, Tryd.ntmps71
  go_wp2
  go_ret
  refine ⟨?_, rfl⟩
  have hl : x * 2 ^ (32 - n) % 4294967296 < 4294967296 := by omega
  have hr : x / 2 ^ n < 4294967296 := Nat.lt_of_le_of_lt (Nat.div_le_self _ _) hx
  have := u32_or_nat _ _ hr hl
  unfold rotr
  rw [Nat.or_comm, ← this, Int.natCast_emod, Int.natCast_mul, Int.natCast_pow, Int.natCast_ediv, Int.natCast_pow]
  rfl
theorem rs_any (n : Nat) (k : Int) (x : Nat) (w : World) (hk : k = (n : Int)) (_ : x < 4294967296) (h2 : n ≤ 31) :
    Calls Tryd.prog 75 #[.int .u32 x, .int .u64 k] w fun e w' => e = .returned (.int .u32 (x / 2 ^ n : Nat)) ∧ w' = w := by
  subst hk
  go_enter Tryd.func75, Tryd.ntmps75
  go_wp2
  go_ret
  refine ⟨?_, rfl⟩
  rw [Int.natCast_ediv, Int.natCast_pow]
  rfl

theorem wr64 (n : Nat) (h : n < 18446744073709551616) : IntKind.u64.wrap (n : Int) = (n : Int) := by rw [IntKind.wrap_u64]; omega
theorem low32 (x : Nat) (h : x < 18446744073709551616) : bits .and .u64 (x : Int) 4294967295 = ((x % 4294967296 : Nat) : Int) := by
  have := u64_and_nat x 4294967295 h (by omega)
  rw [show ((4294967295 : Nat) : Int) = 4294967295 from rfl] at this
  rw [this, show (4294967295 : Nat) = 2 ^ 32 - 1 from rfl, Nat.and_two_pow_sub_one_eq_mod]
theorem high32 (x : Nat) : (x : Int) / 4294967296 = ((x / 4294967296 : Nat) : Int) := by omega
theorem wrmul (a b : Nat) (h : a * b < 18446744073709551616) : IntKind.u64.wrap ((a : Int) * (b : Int)) = ((a * b : Nat) : Int) := by rw [← Int.natCast_mul]; exact wr64 _ h
theorem wradd (a b : Nat) (h : a + b < 18446744073709551616) : IntKind.u64.wrap ((a : Int) + (b : Int)) = ((a + b : Nat) : Int) := by rw [← Int.natCast_add]; exact wr64 _ h
set_option maxRecDepth 100000 in
theorem mul_any (x y : Nat) (w : World) (hx : x < 18446744073709551616) (hy : y < 18446744073709551616) :
    Calls Tryd.prog 78 #[.int .u64 x, .int .u64 y] w fun e w' => e = .returned (.tuple #[.int .u64 (x * y / 18446744073709551616 : Nat), .int .u64 (x * y % 18446744073709551616 : Nat)]) ∧ w' = w := by
  have hhi := mul_hi x y hx hy
  have hxy : x * y / 18446744073709551616 < 18446744073709551616 := Nat.div_lt_of_lt_mul (Nat.mul_lt_mul'' hx hy)
  have b1 := mul_bd (show x / 4294967296 < 4294967296 by omega) (show y / 4294967296 < 4294967296 by omega)
  have b2 := mul_bd (show x / 4294967296 < 4294967296 by omega) (show y % 4294967296 < 4294967296 by omega)
  have b3 := mul_bd (show x % 4294967296 < 4294967296 by omega) (show y / 4294967296 < 4294967296 by omega)
  have b4 := mul_bd (show x % 4294967296 < 4294967296 by omega) (show y % 4294967296 < 4294967296 by omega)
  have H : IntKind.u64.wrap (IntKind.u64.wrap (IntKind.u64.wrap ((x : Int) / 4294967296 * ((y : Int) / 4294967296)) + IntKind.u64.wrap (IntKind.u64.wrap ((x : Int) / 4294967296 * bits .and .u64 y 4294967295) + IntKind.u64.wrap (bits .and .u64 x 4294967295 * bits .and .u64 y 4294967295) / 4294967296) / 4294967296) +
      IntKind.u64.wrap (bits .and .u64 (IntKind.u64.wrap (IntKind.u64.wrap ((x : Int) / 4294967296 * bits .and .u64 y 4294967295) + IntKind.u64.wrap (bits .and .u64 x 4294967295 * bits .and .u64 y 4294967295) / 4294967296)) 4294967295 + IntKind.u64.wrap (bits .and .u64 x 4294967295 * ((y : Int) / 4294967296))) / 4294967296) = ((x * y / 18446744073709551616 : Nat) : Int) := by
    rw [low32 x hx, low32 y hy, high32 x, high32 y]
    rw [← hhi]
    generalize x / 4294967296 = a at *
    generalize x % 4294967296 = b at *
    generalize y / 4294967296 = c at *
    generalize y % 4294967296 = d at *
    rw [wrmul a c (by omega), wrmul a d (by omega), wrmul b d (by omega), wrmul b c (by omega), high32 (b * d), wradd (a * d) (b * d / 4294967296) (by omega)]
    rw [low32 _ (by omega), high32 (a * d + b * d / 4294967296), wradd _ (b * c) (by omega), high32, wradd (a * c) _ (by omega), wradd _ _ (by omega)]
  go_enter Tryd.func78, Tryd.ntmps78
  go_wp2
  go_ret2
  refine ⟨?_, rfl⟩
  refine (show _ = Ending.returned (.tuple #[.int .u64 ((x : Int) * (y : Int) / 18446744073709551616), .int .u64 (IntKind.u64.wrap ((x : Int) * (y : Int)))]) from rfl).trans ?_
  rw [IntKind.wrap_u64, Int.natCast_emod, Int.natCast_mul, Int.natCast_ediv, Int.natCast_mul]
  rfl

set_option maxRecDepth 100000 in
set_option maxHeartbeats 1000000 in
theorem within2 (x p : Nat) (w : World) (hx : x < 274877906944) (_ : p < 400) :
    Calls Tryd.prog 74 #[.int .u64 x, .int .u64 p, .int .i64 2] w fun e w' => e = .returned (.bool (withinF x p 2)) ∧ w' = w := by
  have hmul := Lib.hid (mul_any x x)
  obtain ⟨hi, hhi⟩ : ∃ n, n = x * x / 18446744073709551616 := ⟨_, rfl⟩
  obtain ⟨lo, hlo⟩ : ∃ n, n = x * x % 18446744073709551616 := ⟨_, rfl⟩
  have HW : Hid (withinF x p 2 = (decide (hi < p) || (decide (hi = p) && decide (lo = 0)))) := by
    refine Lib.hid ?_
    rw [hhi, hlo]; rfl
  rw [← hhi, ← hlo] at hmul
  clear hhi hlo
  by_cases c1 : hi < p
  · have y1 : (hi : Int) < (p : Int) := by omega
    go_enter Tryd.func74, Tryd.ntmps74
    go_wp2_with fail
    refine (hmul.out _ (by omega) (by omega)).mono ?_
    rintro e w1 ⟨rfl, rfl⟩
    go_wp2_with fail
    go_ret
    exact ⟨by rw [HW.out]; simp [c1], rfl⟩
  · have y1 : ¬ (hi : Int) < (p : Int) := by omega
    by_cases c2 : hi = p
    · have y2 : ((hi : Int) == (p : Int)) = true := by simp [c2]
      by_cases c3 : lo = 0
      all_goals
        first
          | have y3 : ((lo : Int) == 0) = true := by simp [c3]
          | have y3 : ((lo : Int) == 0) = false := by simp [c3]
        have HC2 := Lib.hid c2
        clear c2
        go_enter Tryd.func74, Tryd.ntmps74
        go_wp2_with fail
        refine (hmul.out _ (by omega) (by omega)).mono ?_
        rintro e w1 ⟨rfl, rfl⟩
        go_wp2_with fail
        go_ret
        exact ⟨by rw [HW.out, HC2.out]; simp [c3], rfl⟩
    · have y2 : ((hi : Int) == (p : Int)) = false := by simp; omega
      go_enter Tryd.func74, Tryd.ntmps74
      go_wp2_with fail
      refine (hmul.out _ (by omega) (by omega)).mono ?_
      rintro e w1 ⟨rfl, rfl⟩
      go_wp2_with fail
      go_ret
      exact ⟨by rw [HW.out]; simp [c1, c2], rfl⟩
theorem hi_small {x : Nat} (hx : x < 274877906944) : x * x / 18446744073709551616 < 4096 := by
  refine Nat.div_lt_of_lt_mul ?_
  have := Nat.mul_lt_mul'' hx hx
  omega
theorem lo_small {l x : Nat} (hl : l < 18446744073709551616) : l * x / 18446744073709551616 ≤ x :=
  Nat.div_le_of_le_mul (Nat.mul_le_mul_right x (by omega))
set_option maxRecDepth 100000 in
set_option maxHeartbeats 1000000 in
theorem within3 (x p : Nat) (w : World) (hx : x < 274877906944) (hp : p < 400) :
    Calls Tryd.prog 74 #[.int .u64 x, .int .u64 p, .int .i64 3] w fun e w' => e = .returned (.bool (withinF x p 3)) ∧ w' = w := by
  have hmul := Lib.hid (mul_any x x)
  have hs := hi_small hx
  obtain ⟨hi, hhi⟩ : ∃ n, n = x * x / 18446744073709551616 := ⟨_, rfl⟩
  obtain ⟨lo, hlo⟩ : ∃ n, n = x * x % 18446744073709551616 := ⟨_, rfl⟩
  have hll : lo < 18446744073709551616 := by omega
  have hmu2 := Lib.hid (mul_any lo x)
  have hs2 := lo_small (x := x) hll
  rw [← hhi, ← hlo] at hmul
  rw [← hhi] at hs
  obtain ⟨m2, hm2⟩ : ∃ n, n = lo * x / 18446744073709551616 := ⟨_, rfl⟩
  obtain ⟨l2, hl2⟩ : ∃ n, n = lo * x % 18446744073709551616 := ⟨_, rfl⟩
  have hb : hi * x ≤ 4096 * 274877906944 := Nat.mul_le_mul (by omega) (by omega)
  obtain ⟨hx2, hhx⟩ : ∃ n, n = hi * x := ⟨_, rfl⟩
  have q1 : IntKind.u64.wrap ((hi : Int) * (x : Int)) = (hx2 : Int) := by rw [hhx]; exact wrmul hi x (by omega)
  rw [← hhx] at hb
  rw [← hm2] at hs2
  have q2 : IntKind.u64.wrap ((m2 : Int) + (hx2 : Int)) = ((m2 + hx2 : Nat) : Int) := wradd m2 hx2 (by omega)
  obtain ⟨M, hM⟩ : ∃ n, n = m2 + hx2 := ⟨_, rfl⟩
  rw [← hM] at q2
  have HW : Hid (withinF x p 3 = (decide (M < 4294967296 * p) || (decide (M = 4294967296 * p) && decide (l2 = 0)))) := by
    refine Lib.hid ?_
    rw [hM, hm2, hl2, hhx, hhi, hlo]; rfl
  rw [← hm2, ← hl2] at hmu2
  clear hhi hlo hm2 hl2 hhx
  by_cases c1 : M < 4294967296 * p
  · have y1 : (M : Int) < 4294967296 * (p : Int) := by omega
    clear hM
    go_enter Tryd.func74, Tryd.ntmps74
    go_wp2_with fail
    refine (hmul.out _ (by omega) (by omega)).mono ?_
    rintro e w1 ⟨rfl, rfl⟩
    go_wp2_with fail
    refine (hmu2.out _ (by omega) (by omega)).mono ?_
    rintro e w1 ⟨rfl, rfl⟩
    go_wp2_with fail
    go_ret
    exact ⟨by rw [HW.out]; simp [c1], rfl⟩
  · have y1 : ¬ (M : Int) < 4294967296 * (p : Int) := by omega
    by_cases c2 : M = 4294967296 * p
    · have y2 : ((M : Int) == 4294967296 * (p : Int)) = true := by simp; omega
      clear hM
      by_cases c3 : l2 = 0
      all_goals
        first
          | have y3 : ((l2 : Int) == 0) = true := by simp [c3]
          | have y3 : ((l2 : Int) == 0) = false := by simp [c3]
        have HC2 := Lib.hid c2
        clear c2
        go_enter Tryd.func74, Tryd.ntmps74
        go_wp2_with fail
        refine (hmul.out _ (by omega) (by omega)).mono ?_
        rintro e w1 ⟨rfl, rfl⟩
        go_wp2_with fail
        refine (hmu2.out _ (by omega) (by omega)).mono ?_
        rintro e w1 ⟨rfl, rfl⟩
        go_wp2_with fail
        go_ret
        exact ⟨by rw [HW.out, HC2.out]; simp [c3], rfl⟩
    · have y2 : ((M : Int) == 4294967296 * (p : Int)) = false := by simp; omega
      clear hM
      go_enter Tryd.func74, Tryd.ntmps74
      go_wp2_with fail
      refine (hmul.out _ (by omega) (by omega)).mono ?_
      rintro e w1 ⟨rfl, rfl⟩
      go_wp2_with fail
      refine (hmu2.out _ (by omega) (by omega)).mono ?_
      rintro e w1 ⟨rfl, rfl⟩
      go_wp2_with fail
      go_ret
      exact ⟨by rw [HW.out]; simp [c1, c2]; exact y1, rfl⟩
theorem within_any (x p many : Nat) (w : World) (hx : x < 274877906944) (hp : p < 400) (hm : many = 2 ∨ many = 3) :
    Calls Tryd.prog 74 #[.int .u64 x, .int .u64 p, .int .i64 many] w fun e w' => e = .returned (.bool (withinF x p many)) ∧ w' = w := by
  rcases hm with rfl | rfl
  · exact within2 x p w hx hp
  · exact within3 x p w hx hp

def bitF (k : Nat) : Nat := if k = 0 then 0 else 2 ^ (k - 1)
theorem bit_half (k : Nat) : bitF (k + 1) / 2 = bitF k := by
  unfold bitF
  rw [if_neg (by omega)]
  cases k with
  | zero => rfl
  | succ k =>
    rw [if_neg (by omega)]
    simp only [Nat.add_sub_cancel, Nat.pow_succ]
    omega
theorem bit_bd {k : Nat} (hk : k ≤ 38) : bitF k ≤ 137438953472 := by
  unfold bitF
  split
  · omega
  · calc 2 ^ (k - 1) ≤ 2 ^ 37 := Nat.pow_le_pow_right (by omega) (by omega)
      _ = 137438953472 := rfl
set_option maxRecDepth 100000 in
set_option maxHeartbeats 1000000 in
theorem root2 (p : Nat) (w : World) (hp : p < 400) :
    Calls Tryd.prog 69 #[.int .u64 p, .int .i64 2] w fun e w' => e = .returned (.int .u32 (rootF p 2 : Nat)) ∧ w' = w := by
  have hwi := Lib.hid (fun x w h => within2 x p w h hp)
  go_enter Tryd.func69, Tryd.ntmps69
  go_wp2_with fail
  go_loopw [5, 6] (fun a b wr => ∃ (x k : Nat), k ≤ 38 ∧ x < 137438953472 ∧ a = .int .u64 x ∧ b = .int .u64 (bitF k) ∧ w = wr ∧ Hid (rootGo p 2 x k = rootGo p 2 0 38)) (fun _ b _ => (intOf b).toNat)
  case atStart => exact ⟨0, 38, by omega, by omega, rfl, rfl, rfl, rfl⟩
  case round =>
    obtain ⟨x, k, hk, hx, rfl, rfl, rfl, HG⟩ := hrel
    cases k with
    | zero =>
      have hb0 : bitF 0 = 0 := rfl
      rw [hb0]
      have HR : Hid (rootF p 2 = x % 4294967296) := by refine Lib.hid ?_; rw [rootF, ← HG.out]; rfl
      clear HG
      go_wp2_with fail
      go_ret
      exact ⟨by rw [HR.out]; rfl, rfl⟩
    | succ k =>
      have hb := bit_bd hk
      have hh := bit_half k
      have hpos : 0 < bitF (k + 1) := by unfold bitF; rw [if_neg (by omega)]; exact Nat.pow_pos (by omega)
      have hst : rootStep p 2 x k = if decide (x + bitF (k + 1) < 137438953472) && withinF (x + bitF (k + 1)) p 2 then x + bitF (k + 1) else x := by
        have hbk : bitF (k + 1) = 2 ^ k := by simp [bitF]
        rw [hbk]; rfl
      have hbd := root_bd p 2 x k hx
      have hgo : Hid (rootGo p 2 (rootStep p 2 x k) k = rootGo p 2 0 38) := Lib.hid HG.out
      obtain ⟨B, hB⟩ : ∃ B, B = bitF (k + 1) := ⟨_, rfl⟩
      obtain ⟨B', hB'⟩ : ∃ B, B = bitF k := ⟨_, rfl⟩
      rw [← hB, ← hB'] at hh
      rw [← hB] at hb hpos hst ⊢
      have HB' := Lib.hid hB'
      clear hB hB' HG
      have hm1 : (B : Int) / 2 = (B' : Int) := by omega
      obtain ⟨N, hN⟩ : ∃ N, N = rootStep p 2 x k := ⟨_, rfl⟩
      rw [← hN] at hst hbd hgo
      clear hN
      by_cases c1 : x + B < 137438953472
      · have y1 : (x : Int) + (B : Int) < 137438953472 := by omega
        cases hw : withinF (x + B) p 2
        · have hN : N = x := by rw [hst, hw]; simp
          have hcl := fun w => hwi.out (x + B) w (by omega)
          rw [hw] at hcl
          simp only [Int.natCast_add] at hcl
          have HCL := Lib.hid hcl
          clear hcl hst hw
          subst hN
          go_wp2_with fail
          refine (HCL.out _).mono ?_
          rintro e w1 ⟨rfl, rfl⟩
          go_wp2_with fail
          go_roundw
          case rel => exact ⟨_, k, by omega, hbd, rfl, by rw [← HB'.out], trivial, hgo⟩
          case measure => simp [intOf]; omega
        · have hN : N = x + B := by rw [hst, hw]; simp [c1]
          have hcl := fun w => hwi.out (x + B) w (by omega)
          rw [hw] at hcl
          simp only [Int.natCast_add] at hcl
          have HCL := Lib.hid hcl
          clear hcl hst hw
          subst hN
          go_wp2_with fail
          refine (HCL.out _).mono ?_
          rintro e w1 ⟨rfl, rfl⟩
          go_wp2_with fail
          go_roundw
          case rel => exact ⟨x + B, k, by omega, hbd, by rw [Int.natCast_add], by rw [← HB'.out], trivial, hgo⟩
          case measure => simp [intOf]; omega
      · have y1 : ¬ (x : Int) + (B : Int) < 137438953472 := by omega
        have hN : N = x := by rw [hst]; simp [c1]
        clear hst
        subst hN
        go_wp2_with fail
        go_roundw
        case rel => exact ⟨_, k, by omega, hbd, rfl, by rw [← HB'.out], trivial, hgo⟩
        case measure => simp [intOf]; omega
set_option maxRecDepth 100000 in
set_option maxHeartbeats 1000000 in
theorem root3 (p : Nat) (w : World) (hp : p < 400) :
    Calls Tryd.prog 69 #[.int .u64 p, .int .i64 3] w fun e w' => e = .returned (.int .u32 (rootF p 3 : Nat)) ∧ w' = w := by
  have hwi := Lib.hid (fun x w h => within3 x p w h hp)
  go_enter Tryd.func69, Tryd.ntmps69
  go_wp2_with fail
  go_loopw [5, 6] (fun a b wr => ∃ (x k : Nat), k ≤ 38 ∧ x < 137438953472 ∧ a = .int .u64 x ∧ b = .int .u64 (bitF k) ∧ w = wr ∧ Hid (rootGo p 3 x k = rootGo p 3 0 38)) (fun _ b _ => (intOf b).toNat)
  case atStart => exact ⟨0, 38, by omega, by omega, rfl, rfl, rfl, rfl⟩
  case round =>
    obtain ⟨x, k, hk, hx, rfl, rfl, rfl, HG⟩ := hrel
    cases k with
    | zero =>
      have hb0 : bitF 0 = 0 := rfl
      rw [hb0]
      have HR : Hid (rootF p 3 = x % 4294967296) := by refine Lib.hid ?_; rw [rootF, ← HG.out]; rfl
      clear HG
      go_wp2_with fail
      go_ret
      exact ⟨by rw [HR.out]; rfl, rfl⟩
    | succ k =>
      have hb := bit_bd hk
      have hh := bit_half k
      have hpos : 0 < bitF (k + 1) := by unfold bitF; rw [if_neg (by omega)]; exact Nat.pow_pos (by omega)
      have hst : rootStep p 3 x k = if decide (x + bitF (k + 1) < 68719476736) && withinF (x + bitF (k + 1)) p 3 then x + bitF (k + 1) else x := by
        have hbk : bitF (k + 1) = 2 ^ k := by simp [bitF]
        rw [hbk]; rfl
      have hbd := root_bd p 3 x k hx
      have hgo : Hid (rootGo p 3 (rootStep p 3 x k) k = rootGo p 3 0 38) := Lib.hid HG.out
      obtain ⟨B, hB⟩ : ∃ B, B = bitF (k + 1) := ⟨_, rfl⟩
      obtain ⟨B', hB'⟩ : ∃ B, B = bitF k := ⟨_, rfl⟩
      rw [← hB, ← hB'] at hh
      rw [← hB] at hb hpos hst ⊢
      have HB' := Lib.hid hB'
      clear hB hB' HG
      have hm1 : (B : Int) / 2 = (B' : Int) := by omega
      obtain ⟨N, hN⟩ : ∃ N, N = rootStep p 3 x k := ⟨_, rfl⟩
      rw [← hN] at hst hbd hgo
      clear hN
      by_cases c1 : x + B < 68719476736
      · have y1 : (x : Int) + (B : Int) < 68719476736 := by omega
        cases hw : withinF (x + B) p 3
        · have hN : N = x := by rw [hst, hw]; simp
          have hcl := fun w => hwi.out (x + B) w (by omega)
          rw [hw] at hcl
          simp only [Int.natCast_add] at hcl
          have HCL := Lib.hid hcl
          clear hcl hst hw
          subst hN
          go_wp2_with fail
          refine (HCL.out _).mono ?_
          rintro e w1 ⟨rfl, rfl⟩
          go_wp2_with fail
          go_roundw
          case rel => exact ⟨_, k, by omega, hbd, rfl, by rw [← HB'.out], trivial, hgo⟩
          case measure => simp [intOf]; omega
        · have hN : N = x + B := by rw [hst, hw]; simp [c1]
          have hcl := fun w => hwi.out (x + B) w (by omega)
          rw [hw] at hcl
          simp only [Int.natCast_add] at hcl
          have HCL := Lib.hid hcl
          clear hcl hst hw
          subst hN
          go_wp2_with fail
          refine (HCL.out _).mono ?_
          rintro e w1 ⟨rfl, rfl⟩
          go_wp2_with fail
          go_roundw
          case rel => exact ⟨x + B, k, by omega, hbd, by rw [Int.natCast_add], by rw [← HB'.out], trivial, hgo⟩
          case measure => simp [intOf]; omega
      · have y1 : ¬ (x : Int) + (B : Int) < 68719476736 := by omega
        have hN : N = x := by rw [hst]; simp [c1]
        clear hst
        subst hN
        go_wp2_with fail
        go_roundw
        case rel => exact ⟨_, k, by omega, hbd, rfl, by rw [← HB'.out], trivial, hgo⟩
        case measure => simp [intOf]; omega
end Go.Proofs.YtnkkbkceapcahaaDoor
namespace Go.Proofs.YtnkkbkceapcahaaDoor
open Go.RowKit Go.Rt Go.Rw

def qc (n : Nat) : List Value := [.int .u64 (n : Int)]
def uc (n : Nat) : List Value := [wv n]
theorem qc_len (n : Nat) : (qc n).length = 1 := rfl
theorem uc_len (n : Nat) : (uc n).length = 1 := rfl
theorem qc_one (n : Nat) : ∀ u ∈ qc n, u.oneCell' = true := by simp [qc, Value.oneCell']
theorem uc_one (n : Nat) : ∀ u ∈ uc n, u.oneCell' = true := by simp [uc, Value.oneCell']
theorem u50 : Tryd.prog.underlying 104 = some (.slice 24) := by kernel_rfl
theorem u41 : Tryd.prog.underlying 98 = some (.slice 100) := by kernel_rfl
theorem info46 : (Tryd.prog.info? 24).map (fun i => (i.zero, i.size, i.bytes)) = some (some (.int .u64 0), 1, 8) := by kernel_rfl
theorem info31 : (Tryd.prog.info? 100).map (fun i => (i.zero, i.size, i.bytes)) = some (some (.int .u32 0), 1, 4) := by kernel_rfl

set_option maxRecDepth 100000 in
set_option maxHeartbeats 2000000 in
theorem primes_any (many : Nat) (w : World) (hm : many ≤ 64) :
    Calls Tryd.prog 68 #[.int .i64 many] w fun e w' => ∃ v, e = .returned v ∧ Sl w' w.heap.size 24 1 qc v (P64.take many) ∧ Below w.heap.size w w' := by
  go_enter Tryd.func68, Tryd.ntmps68
  go_wp2_with fail
  go_loopw [3, 4] (fun s a wr => ∃ c : Nat, 2 ≤ c ∧ c ≤ 312 ∧ (primesB c).length ≤ many ∧ a = .int .u64 c ∧ Sl wr w.heap.size 24 1 qc s (primesB c) ∧ Below w.heap.size w wr) (fun _ a _ => 312 - (intOf a).toNat)
  case atStart => exact ⟨2, by omega, by omega, by rw [show primesB 2 = [] by decide]; simp, rfl, by rw [show primesB 2 = [] by decide]; exact Sl.nil _ _ _ _ _, Below.refl _ _⟩
  case round =>
    obtain ⟨c, hc2, hc, hlm, rfl, s1, bl⟩ := hrel
    obtain ⟨_, sb, cb, rfl⟩ := (s1.at qc_len).len
    by_cases hlt : (primesB c).length < many
    · have hcs := primes_small hlt hm
      have hbd := primes_bd hc
      have hstep : primesB (c + 1) = if scanF (primesB c) c = true then primesB c ++ [c] else primesB c := by
        rw [primesB]; simp [hc2]
      obtain ⟨L, hL⟩ : ∃ L, L = primesB c := ⟨_, rfl⟩
      rw [← hL] at hlt hbd hstep s1 hlm ⊢
      have HST := Lib.hid hstep
      have HS1 := Lib.hid s1
      have HBL := Lib.hid bl
      have HSA := Lib.hid (s1.at qc_len)
      clear hL hstep s1 bl
      go_wp2_with fail
      go_loopw [5, 6] (fun p i wq => ∃ (b : Bool) (k n : Nat), k ≤ L.length ∧ p = .bool b ∧ i = .int .i64 k ∧ wq = wr.drewN n ∧ Hid ((b = true → scanF (L.drop k) c = scanF L c) ∧ (b = false → scanF L c = false))) (fun _ i _ => L.length - (intOf i).toNat)
      case atStart => exact ⟨true, 0, 0, Nat.zero_le _, rfl, rfl, rfl, by simp [Hid]⟩
      case round =>
        obtain ⟨b, k, n, hk, rfl, rfl, rfl, HB⟩ := hrel
        have after : ∀ nq : Nat, Sl (wr.drewN nq) w.heap.size 24 1 qc (.slice sb L.length cb) L ∧ Below w.heap.size w (wr.drewN nq) := fun nq =>
          ⟨HS1.out.same (Nat.le_refl _) (fun _ _ => rfl), ⟨HBL.out.os, HBL.out.tape, HBL.out.output, HBL.out.size, HBL.out.block⟩⟩
        have HAF := Lib.hid after
        have HAG : Hid (∀ a b : Nat, Sl ((wr.drewN a).drewN b) w.heap.size 24 1 qc (.slice sb L.length cb) L ∧ Below w.heap.size w ((wr.drewN a).drewN b)) := Lib.hid fun a b =>
          ⟨HS1.out.same (Nat.le_refl _) (fun _ _ => rfl), ⟨HBL.out.os, HBL.out.tape, HBL.out.output, HBL.out.size, HBL.out.block⟩⟩
        clear after
        by_cases hki : k < L.length
        · cases b
          · have HF : Hid (scanF L c = false) := Lib.hid (HB.out.2 rfl)
            have y2 : decide (k < L.length) = true := by simp [hki]
            clear HB
            go_upto_region 7 with fail
            go_quiet (fail)
            go_wp2_with fail
            go_roundw
            case rel =>
              have hp : primesB (c + 1) = L := by rw [HST.out, HF.out]; simp
              exact ⟨c + 1, by omega, by omega, by rw [hp]; omega, by go_num, by rw [hp]; exact (HAF.out _).1, (HAF.out _).2⟩
            case measure => simp [intOf]; omega
          · obtain ⟨bq, oq, rfl, q0, cL⟩ := HSA.out.get (by omega)
            have k0 := cL k 0 hki (by omega)
            simp only [qc, List.getElem?_cons_zero, Nat.add_zero, Nat.mul_one] at k0
            obtain ⟨hq1, hq2⟩ := hbd _ (List.getElem_mem hki)
            have hsd := scan_drop (c := c) hki
            obtain ⟨Q, hQ⟩ : ∃ Q, Q = L[k] := ⟨_, rfl⟩
            rw [← hQ] at k0 hq1 hq2 hsd
            clear hQ cL
            have hqq : Q * Q ≤ 312 * 312 := Nat.mul_le_mul (by omega) (by omega)
            obtain ⟨R, hR⟩ : ∃ R, R = Q * Q := ⟨_, rfl⟩
            have y1 : IntKind.u64.wrap ((Q : Int) * (Q : Int)) = (R : Int) := by rw [hR]; exact wrmul Q Q (by omega)
            rw [← hR] at hsd hqq
            clear hR
            have y2 : decide (k < L.length) = true := by simp [hki]
            by_cases hrc : R ≤ c
            · have y3 : decide (R ≤ c) = true := by simp [hrc]
              rw [if_pos hrc] at hsd
              have HSD := Lib.hid (hsd.symm.trans (HB.out.1 rfl))
              clear hsd HB
              by_cases hcq : c % Q = 0
              · have y4 : ((c : Int) % (Q : Int) != 0) = false := by simp; omega
                rw [if_pos hcq] at HSD
                go_upto_region 7 with fail
                go_quiet (fail)
                go_wp2_with fail
                go_roundw
                case rel => exact ⟨false, k + 1, n + nq, by omega, rfl, by go_num, rfl, Lib.hid ⟨(fun h => by cases h), fun _ => HSD.out.symm⟩⟩
                case measure => simp [intOf]; omega
              · have y4 : ((c : Int) % (Q : Int) != 0) = true := by rw [bne_iff_ne]; omega
                rw [if_neg hcq] at HSD
                go_upto_region 7 with fail
                go_quiet (fail)
                go_wp2_with fail
                go_roundw
                case rel => exact ⟨true, k + 1, n + nq, by omega, rfl, by go_num, rfl, Lib.hid ⟨fun _ => HSD.out, (fun h => by cases h)⟩⟩
                case measure => simp [intOf]; omega
            · have y3 : decide (R ≤ c) = false := by simp; omega
              rw [if_neg hrc] at hsd
              have HF : Hid (scanF L c = true) := Lib.hid ((hsd.symm.trans (HB.out.1 rfl)).symm)
              clear hsd HB
              go_upto_region 7 with fail
              go_quiet (fail)
              go_upto_region 11 with fail
              obtain ⟨wq, hwq⟩ : ∃ wq, wq = (wr.drewN n).drewN nq := ⟨_, rfl⟩
              have s1 := (HAG.out n nq).1
              have bl := (HAG.out n nq).2
              rw [← hwq] at s1 bl
              rw [← hwq]
              obtain ⟨g, cg, W2, hrun, s2, hgrow, hwhere⟩ := Sl.push (P := Tryd.prog) (t := 104) (ty := 104) (s1.only (Only.alloc [] wq (.cells (qc c).toArray 24)) (fun g _ => by simp)) u50 info46 rfl (by omega) qc_len qc_one c (World.alloc_heap_new wq _) (by omega) (by omega) (by simp; have := bl.size; omega) 1
              have hp : primesB (c + 1) = L ++ [c] := by rw [HST.out, HF.out]; simp
              have HS2 : Hid (Sl W2 w.heap.size 24 1 qc (.slice (some ⟨g, 0, none⟩) (L.length + 1) cg) (primesB (c + 1))) := by rw [hp]; exact Lib.hid s2
              have HB2 : Hid (Below w.heap.size w W2) := Lib.hid (bl.trans (((Below.refl w.heap.size wq).alloc bl.size _).grown hgrow (by simp; have := bl.size; omega) (fun r hr => (s1.lt r hr).1)))
              have HPL : Hid ((primesB (c + 1)).length = L.length + 1) := by refine Lib.hid ?_; rw [hp]; simp
              simp only [qc] at hrun
              have HRN := Lib.hid hrun
              clear hrun s2 hgrow hwhere s1 bl hwq hp
              go_wp2_with (at_builtin; refine wpList_append_run rfl _ _ 104 104 rfl rfl rfl HRN.out ?_)
              go_roundw
              case rel => exact ⟨c + 1, by omega, by omega, by rw [HPL.out]; omega, by go_num, HS2.out, HB2.out⟩
              case measure => simp [intOf]; omega
        · have y2 : decide (k < L.length) = false := by simp; omega
          cases b
          · have HF : Hid (scanF L c = false) := Lib.hid (HB.out.2 rfl)
            clear HB
            go_upto_region 7 with fail
            go_quiet (fail)
            go_wp2_with fail
            go_roundw
            case rel =>
              have hp : primesB (c + 1) = L := by rw [HST.out, HF.out]; simp
              exact ⟨c + 1, by omega, by omega, by rw [hp]; omega, by go_num, by rw [hp]; exact (HAF.out _).1, (HAF.out _).2⟩
            case measure => simp [intOf]; omega
          · have HF : Hid (scanF L c = true) := Lib.hid ((HB.out.1 rfl).symm.trans (scan_end (by omega)))
            clear HB
            go_upto_region 7 with fail
            go_quiet (fail)
            go_upto_region 11 with fail
            obtain ⟨wq, hwq⟩ : ∃ wq, wq = (wr.drewN n).drewN nq := ⟨_, rfl⟩
            have s1 := (HAG.out n nq).1
            have bl := (HAG.out n nq).2
            rw [← hwq] at s1 bl
            rw [← hwq]
            obtain ⟨g, cg, W2, hrun, s2, hgrow, hwhere⟩ := Sl.push (P := Tryd.prog) (t := 104) (ty := 104) (s1.only (Only.alloc [] wq (.cells (qc c).toArray 24)) (fun g _ => by simp)) u50 info46 rfl (by omega) qc_len qc_one c (World.alloc_heap_new wq _) (by omega) (by omega) (by simp; have := bl.size; omega) 1
            have hp : primesB (c + 1) = L ++ [c] := by rw [HST.out, HF.out]; simp
            have HS2 : Hid (Sl W2 w.heap.size 24 1 qc (.slice (some ⟨g, 0, none⟩) (L.length + 1) cg) (primesB (c + 1))) := by rw [hp]; exact Lib.hid s2
            have HB2 : Hid (Below w.heap.size w W2) := Lib.hid (bl.trans (((Below.refl w.heap.size wq).alloc bl.size _).grown hgrow (by simp; have := bl.size; omega) (fun r hr => (s1.lt r hr).1)))
            have HPL : Hid ((primesB (c + 1)).length = L.length + 1) := by refine Lib.hid ?_; rw [hp]; simp
            simp only [qc] at hrun
            have HRN := Lib.hid hrun
            clear hrun s2 hgrow hwhere s1 bl hwq hp
            go_wp2_with (at_builtin; refine wpList_append_run rfl _ _ 104 104 rfl rfl rfl HRN.out ?_)
            go_roundw
            case rel => exact ⟨c + 1, by omega, by omega, by rw [HPL.out]; omega, by go_num, HS2.out, HB2.out⟩
            case measure => simp [intOf]; omega
    · obtain ⟨hlen⟩ : (primesB c).length = many ∧ True := ⟨by omega, trivial⟩
      have ht := primes_take hc hlen
      have y1 : ¬ ((primesB c).length : Int) < (many : Int) := by omega
      rw [hlen, ht] at s1
      have HS1 := Lib.hid s1
      have HBL := Lib.hid bl
      clear s1 bl ht
      go_wp2_with fail
      go_ret
      exact ⟨_, rfl, HS1.out, HBL.out⟩

/-- The table K, as far as it is made. -/
theorem P64_len : P64.length = 64 := rfl
theorem KL_len : KL.length = 64 := rfl
theorem root_KL {i : Nat} (h : i < 64) : rootF (P64[i]'(by rw [P64_len]; exact h)) 3 = KL[i]'(by rw [KL_len]; exact h) := by
  have e := roots3
  have : (P64.map (rootF · 3))[i]? = KL[i]? := by rw [e]
  rw [List.getElem?_map, List.getElem?_eq_getElem (by rw [P64_len]; exact h), List.getElem?_eq_getElem (by rw [KL_len]; exact h)] at this
  simpa using this
theorem root_H {i : Nat} (h : i < 8) : rootF ((P64.take 8)[i]'(by simp [P64_len]; omega)) 2 = startF.l[i]'(by simp [S8.l]; omega) := by
  have e := roots2
  have : ((P64.take 8).map (rootF · 2))[i]? = startF.l[i]? := by rw [e]
  rw [List.getElem?_map, List.getElem?_eq_getElem (by simp [P64_len]; omega), List.getElem?_eq_getElem (by simp [S8.l]; omega)] at this
  simpa using this

set_option maxRecDepth 100000 in
set_option maxHeartbeats 1000000 in
theorem adds_any (w : World) :
    Calls Tryd.prog 63 #[] w fun e w' => ∃ v, e = .returned v ∧ Sl w' w.heap.size 100 1 uc v KL ∧ Below w.heap.size w w' := by
  have HPR := Lib.hid (fun w => primes_any 64 w (by omega))
  have HRT := Lib.hid (fun (i : Nat) (h : i < 64) w => root3 (P64[i]'(by rw [P64_len]; exact h)) w (by have := (P64_bd _ (List.getElem_mem (by rw [P64_len]; exact h))).2; omega))
  go_enter Tryd.func63, Tryd.ntmps63
  go_wp2_with fail
  refine (HPR.out _).mono ?_
  rintro e w1 ⟨v, rfl, s1, b1⟩
  rw [show P64.take 64 = P64 from rfl] at s1
  obtain ⟨_, sp, cp, rfl⟩ := (s1.at qc_len).len
  rw [P64_len]
  have HS1 := Lib.hid (s1.at qc_len)
  have HB1 := Lib.hid b1
  rw [P64_len] at HS1
  clear s1 b1
  go_wp2_with fail
  go_loopw [1, 3] (fun s i wr => ∃ k : Nat, k ≤ 64 ∧ i = .int .i64 k ∧ Sl wr w1.heap.size 100 1 uc s (KL.take k) ∧ Below w1.heap.size w1 wr) (fun _ i _ => 64 - (intOf i).toNat)
  case atStart => exact ⟨0, Nat.zero_le _, rfl, Sl.nil _ _ _ _ _, Below.refl _ _⟩
  case round =>
    obtain ⟨k, hk, rfl, s2, b2⟩ := hrel
    have hkl : (KL.take k).length = k := by rw [List.length_take, KL_len]; omega
    obtain ⟨_, sb, cb, rfl⟩ := (s2.at uc_len).len
    rw [hkl] at s2 ⊢
    have hw0 := b2.size
    by_cases hlt : k < 64
    · obtain ⟨bq, oq, rfl, q0, cL⟩ := HS1.out.get (by rw [P64_len]; omega)
      have k0 := (b2.cell (p := ⟨bq, oq + k * 1 + 0, none⟩) q0).trans (cL k 0 (by rw [P64_len]; exact hlt) (by omega))
      simp only [qc, List.getElem?_cons_zero, Nat.add_zero, Nat.mul_one] at k0
      have hroot := HRT.out k hlt
      rw [root_KL hlt] at hroot
      have HK := Lib.hid (KL_len)
      obtain ⟨q, hq⟩ : ∃ q, q = P64[k]'(by rw [P64_len]; exact hlt) := ⟨_, rfl⟩
      obtain ⟨x, hx⟩ : ∃ x, x = KL[k]'(by rw [KL_len]; exact hlt) := ⟨_, rfl⟩
      rw [← hq] at k0 hroot
      rw [← hx] at hroot
      have HRO := Lib.hid hroot
      obtain ⟨g, cg, W2, hrun, s3, hgrow, hwhere⟩ := Sl.push (P := Tryd.prog) (t := 98) (ty := 98) (s2.only (Only.alloc [] wr (.cells (uc x).toArray 100)) (fun g _ => by simp)) u41 info31 rfl (by omega) uc_len uc_one x (World.alloc_heap_new wr _) (by rw [hkl]; omega) (by rw [hkl]; omega) (by simp; omega) 1
      rw [hkl] at hrun s3
      have HS3 : Hid (Sl W2 w1.heap.size 100 1 uc (.slice (some ⟨g, 0, none⟩) (k + 1) cg) (KL.take (k + 1))) := by
        refine Lib.hid ?_; rw [List.take_succ_eq_append_getElem (by rw [KL_len]; exact hlt), ← hx]; exact s3
      have HB3 : Hid (Below w1.heap.size w1 W2) := Lib.hid (b2.trans (((Below.refl w1.heap.size wr).alloc hw0 _).grown hgrow (by simp; omega) (fun r hr => (s2.lt r hr).1)))
      simp only [uc] at hrun
      have HRN := Lib.hid hrun
      clear hrun s3 hgrow hwhere s2 b2 hx hq hroot cL
      go_wp2_with fail
      refine (HRO.out _).mono ?_
      rintro e w2 ⟨rfl, rfl⟩
      go_wp2_with (at_builtin; refine wpList_append_run rfl _ _ 98 98 rfl rfl rfl HRN.out ?_)
      go_roundw
      case rel => exact ⟨k + 1, by omega, by go_num, HS3.out, HB3.out⟩
      case measure => simp [intOf]; omega
    · obtain rfl : k = 64 := by omega
      have HS2 : Hid (Sl wr w.heap.size 100 1 uc (.slice sb 64 cb) KL) := by
        refine Lib.hid ?_
        rw [show KL.take 64 = KL from rfl] at s2
        exact s2.mono HB1.out.size
      have HB2 := Lib.hid (HB1.out.trans (b2.mono HB1.out.size))
      clear s2 b2
      go_wp2_with fail
      go_ret
      exact ⟨_, rfl, HS2.out, HB2.out⟩
end Go.Proofs.YtnkkbkceapcahaaDoor
namespace Go.Proofs.YtnkkbkceapcahaaDoor
open Go.RowKit Go.Rt Go.Rw

def startK (k : Nat) : List Nat := startF.l.take k ++ List.replicate (8 - k) 0
theorem start_len : startF.l.length = 8 := rfl
theorem startK_len (k : Nat) (h : k ≤ 8) : (startK k).length = 8 := by
  unfold startK
  rw [List.length_append, List.length_take, start_len, List.length_replicate]
  omega
theorem startK_set (k : Nat) (h : k < 8) : (startK k).set k (startF.l[k]'(by rw [start_len]; exact h)) = startK (k + 1) := by
  unfold startK
  have hl : (startF.l.take k).length = k := by rw [List.length_take, start_len]; omega
  rw [List.set_append_right _ _ (by omega), hl, Nat.sub_self, List.take_succ_eq_append_getElem (by rw [start_len]; exact h), List.append_assoc]
  congr 1
  rw [show 8 - k = (8 - (k + 1)) + 1 by omega, List.replicate_succ]
  rfl
theorem startK_get (k : Nat) (h : k < 8) : (startK k)[k]? = some 0 := by
  unfold startK
  rw [List.getElem?_append_right (by rw [List.length_take]; omega), List.length_take, start_len, Nat.min_eq_left (by omega), Nat.sub_self, show 8 - k = (8 - (k + 1)) + 1 by omega, List.replicate_succ]
  rfl
theorem i32l {L : List Nat} (h : L.length = 8) : (Tryd.prog.info? 101).map (·.size) = some ((L.map wv).toArray).size := by
  have : (Tryd.prog.info? 101).map (·.size) = some 8 := by kernel_rfl
  rw [this]; simp [h]
theorem P8_bd {i : Nat} (h : i < 8) : (P64.take 8)[i]'(by rw [List.length_take, P64_len]; omega) < 400 := by
  have := (P64_bd _ (List.mem_of_mem_take (List.getElem_mem (l := P64.take 8) (n := i) (by rw [List.length_take, P64_len]; omega)))).2
  omega

set_option maxRecDepth 100000 in
set_option maxHeartbeats 1000000 in
theorem start_any (w : World) :
    Calls Tryd.prog 64 #[] w fun e w' => e = .returned (.agg (startF.l.map wv).toArray) ∧ Below w.heap.size w w' := by
  have HPR := Lib.hid (fun w => primes_any 8 w (by omega))
  have HRT := Lib.hid (fun (i : Nat) (h : i < 8) w => root2 _ w (P8_bd h))
  have h8 : (P64.take 8).length = 8 := rfl
  go_enter Tryd.func64, Tryd.ntmps64
  go_wp2_with fail
  refine (HPR.out _).mono ?_
  rintro e w1 ⟨v, rfl, s1, b1⟩
  obtain ⟨_, sp, cp, rfl⟩ := (s1.at qc_len).len
  rw [h8] at s1 ⊢
  have hz := b1.size
  simp only [World.size_alloc] at hz
  have m1 : Blk w1 (w.heap.size + 1) 101 ((startK 0).map wv).toArray := by
    have := Blk.new (w.alloc (.cells ((startK 0).map wv).toArray 101)) 101 ((startK 0).map wv).toArray
    rw [World.size_alloc] at this
    exact Blk.below (w' := w1) this b1 (by simp)
  have m0 : Blk w1 w.heap.size 101 ((startK 0).map wv).toArray := by
    have := (Blk.new w 101 ((startK 0).map wv).toArray).alloc (.cells ((startK 0).map wv).toArray 101)
    exact Blk.below (w' := w1) this b1 (by simp; omega)
  have bw : Below w.heap.size w w1 := (((Below.refl _ w).alloc (Nat.le_refl _) _).alloc (by simp) _).trans (b1.mono (by simp; omega))
  have HS1 := Lib.hid (s1.at qc_len)
  have HLT := Lib.hid (s1.lt)
  have M0 := Lib.hid m0
  have M1 := Lib.hid m1
  have HBW := Lib.hid bw
  clear s1 b1 m0 m1 bw
  obtain ⟨bq, oq, rfl, q0, cL⟩ := HS1.out.get (by rw [h8]; omega)
  have hbq : w.heap.size + 2 ≤ bq := by have := (HLT.out bq rfl).1; simp at this; omega
  have HCL := Lib.hid cL
  clear cL HLT
  go_wp2_with fail
  go_loopw [3] (fun i wr => ∃ k : Nat, k ≤ 8 ∧ i = .int .i64 k ∧ Blk wr (w.heap.size + 1) 101 ((startK k).map wv).toArray ∧ Only [w.heap.size + 1] w1 wr) (fun i _ => 8 - (intOf i).toNat)
  case atStart => exact ⟨0, Nat.zero_le _, rfl, M1.out, Only.refl _ _⟩
  case round =>
    obtain ⟨k, hk, rfl, m1, o1⟩ := hrel
    by_cases hlt : k < 8
    · have k0 := (World.cell?_of_block (a := ⟨bq, oq + k * 1 + 0, none⟩) (o1.block bq q0 (by simp; omega))).trans (HCL.out k 0 (by rw [h8]; exact hlt) (by omega))
      simp only [qc, List.getElem?_cons_zero, Nat.add_zero, Nat.mul_one] at k0
      have hroot := HRT.out k hlt
      rw [root_H hlt] at hroot
      have hset := startK_set k hlt
      obtain ⟨q, hq⟩ : ∃ q, q = (P64.take 8)[k]'(by rw [h8]; exact hlt) := ⟨_, rfl⟩
      obtain ⟨x, hx⟩ : ∃ x, x = startF.l[k]'(by rw [start_len]; exact hlt) := ⟨_, rfl⟩
      rw [← hq] at k0 hroot
      rw [← hx] at hroot hset
      have HRO := Lib.hid hroot
      have c1 : wr.cell? ⟨w.heap.size + 1, k, none⟩ = some (wv 0) := by
        rw [m1.cell k]
        simp [startK_get k hlt]
      have f1 := m1.frozen k
      have HSE := Lib.hid hset
      have N1 := Lib.hid m1
      have O1 := Lib.hid o1
      clear hq hx hroot hset m1 o1
      go_wp2_with fail
      refine (HRO.out _).mono ?_
      rintro e w2 ⟨rfl, rfl⟩
      go_wp2_with fail
      go_roundw
      case rel =>
        have := N1.out.set_ k (wv x)
        rw [map_set, HSE.out] at this
        exact ⟨k + 1, by omega, by go_num, this, O1.out.trans (Only.setCell _ _ _ (by simp))⟩
      case measure => simp [intOf]; omega
    · obtain rfl : k = 8 := by omega
      have N1 := Lib.hid m1
      have N0 := Lib.hid (M0.out.only o1 (by simp))
      have NB := Lib.hid (HBW.out.trans (o1.below (n := w.heap.size) (by simp) HBW.out.size))
      clear m1 o1
      go_wp2_with (first
        | (refine wpList_load_blk rfl 101 _ rfl (w.heap.size + 1) rfl _ 101 _ N1.out Tryd.underlying101 rfl (i32l rfl) ?_)
        | (refine wpList_store_blk rfl 101 _ _ rfl rfl w.heap.size _ _ 101 rfl rfl N0.out rfl (i32l rfl) (one_map (fun _ => rfl) _) ?_; intro w4 b4 o4))
      refine bodyPost_ret (results_blk Tryd.results64 _ _ w.heap.size _ _ rfl b4 Tryd.underlying101 rfl (i32l rfl)) rfl ?_
      exact ⟨rfl, NB.out.trans (o4.below (by simp) NB.out.size)⟩
end Go.Proofs.YtnkkbkceapcahaaDoor
