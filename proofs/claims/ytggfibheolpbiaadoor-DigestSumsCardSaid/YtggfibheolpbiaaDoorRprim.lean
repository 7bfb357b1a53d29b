/- The reference's small functions: r, s, Mul64, within, Root. -/
import Derived.Test.YtggfibheolpbiaaDoorRootP
import Derived.LoopTactic
namespace Go.Proofs.YtggfibheolpbiaaDoor
open Go.RowKit

theorem rr_any (n : Nat) (k : Int) (x : Nat) (w : World) (hk : k = (n : Int)) (hx : x < 4294967296) (h1 : 1 ≤ n) (h2 : n ≤ 31) :
    Calls Tryd.prog 33 #[.int .u32 x, .int .u64 k] w fun e w' => e = .returned (.int .u32 (rotr n x : Nat)) ∧ w' = w := by
  subst hk
  go_enter Tryd.func33, Tryd.ntmps33
  go_wp2
  go_ret
  refine ⟨?_, rfl⟩
  have hl : x * 2 ^ (32 - n) % 4294967296 < 4294967296 := by omega
  have hr : x / 2 ^ n < 4294967296 := Nat.lt_of_le_of_lt (Nat.div_le_self _ _) hx
  have := u32_or_nat _ _ hr hl
  unfold rotr
  rw [Nat.or_comm, ← this, Int.natCast_emod, Int.natCast_mul, Int.natCast_pow, Int.natCast_ediv, Int.natCast_pow]
  rfl
theorem rs_any (n : Nat) (k : Int) (x : Nat) (w : World) (hk : k = (n : Int)) (_ : x < 4294967296) (h2 : n ≤ 31) :
    Calls Tryd.prog 35 #[.int .u32 x, .int .u64 k] w fun e w' => e = .returned (.int .u32 (x / 2 ^ n : Nat)) ∧ w' = w := by
  subst hk
  go_enter Tryd.func35, Tryd.ntmps35
  go_wp2
  go_ret
  refine ⟨?_, rfl⟩
  rw [Int.natCast_ediv, Int.natCast_pow]
  rfl

theorem wr64 (n : Nat) (h : n < 18446744073709551616) : IntKind.u64.wrap (n : Int) = (n : Int) := by rw [IntKind.wrap_u64]; omega
theorem low32 (x : Nat) (h : x < 18446744073709551616) : bits .and .u64 (x : Int) 4294967295 = ((x % 4294967296 : Nat) : Int) := by
  have := u64_and_nat x 4294967295 h (by omega)
  rw [show ((4294967295 : Nat) : Int) = 4294967295 from rfl] at this
  rw [this, show (4294967295 : Nat) = 2 ^ 32 - 1 from rfl, Nat.and_two_pow_sub_one_eq_mod]
theorem high32 (x : Nat) : (x : Int) / 4294967296 = ((x / 4294967296 : Nat) : Int) := by omega
theorem wrmul (a b : Nat) (h : a * b < 18446744073709551616) : IntKind.u64.wrap ((a : Int) * (b : Int)) = ((a * b : Nat) : Int) := by rw [← Int.natCast_mul]; exact wr64 _ h
theorem wradd (a b : Nat) (h : a + b < 18446744073709551616) : IntKind.u64.wrap ((a : Int) + (b : Int)) = ((a + b : Nat) : Int) := by rw [← Int.natCast_add]; exact wr64 _ h
set_option maxRecDepth 100000 in
theorem mul_any (x y : Nat) (w : World) (hx : x < 18446744073709551616) (hy : y < 18446744073709551616) :
    Calls Tryd.prog 36 #[.int .u64 x, .int .u64 y] w fun e w' => e = .returned (.tuple #[.int .u64 (x * y / 18446744073709551616 : Nat), .int .u64 (x * y % 18446744073709551616 : Nat)]) ∧ w' = w := by
  have hhi := mul_hi x y hx hy
  have hxy : x * y / 18446744073709551616 < 18446744073709551616 := Nat.div_lt_of_lt_mul (Nat.mul_lt_mul'' hx hy)
  have b1 := mul_bd (show x / 4294967296 < 4294967296 by omega) (show y / 4294967296 < 4294967296 by omega)
  have b2 := mul_bd (show x / 4294967296 < 4294967296 by omega) (show y % 4294967296 < 4294967296 by omega)
  have b3 := mul_bd (show x % 4294967296 < 4294967296 by omega) (show y / 4294967296 < 4294967296 by omega)
  have b4 := mul_bd (show x % 4294967296 < 4294967296 by omega) (show y % 4294967296 < 4294967296 by omega)
  have H : IntKind.u64.wrap (IntKind.u64.wrap (IntKind.u64.wrap ((x : Int) / 4294967296 * ((y : Int) / 4294967296)) + IntKind.u64.wrap (IntKind.u64.wrap ((x : Int) / 4294967296 * bits .and .u64 y 4294967295) + IntKind.u64.wrap (bits .and .u64 x 4294967295 * bits .and .u64 y 4294967295) / 4294967296) / 4294967296) +
      IntKind.u64.wrap (bits .and .u64 (IntKind.u64.wrap (IntKind.u64.wrap ((x : Int) / 4294967296 * bits .and .u64 y 4294967295) + IntKind.u64.wrap (bits .and .u64 x 4294967295 * bits .and .u64 y 4294967295) / 4294967296)) 4294967295 + IntKind.u64.wrap (bits .and .u64 x 4294967295 * ((y : Int) / 4294967296))) / 4294967296) = ((x * y / 18446744073709551616 : Nat) : Int) := by
    rw [low32 x hx, low32 y hy, high32 x, high32 y]
    rw [← hhi]
    generalize x / 4294967296 = a at *
    generalize x % 4294967296 = b at *
    generalize y / 4294967296 = c at *
    generalize y % 4294967296 = d at *
    rw [wrmul a c (by omega), wrmul a d (by omega), wrmul b d (by omega), wrmul b c (by omega), high32 (b * d), wradd (a * d) (b * d / 4294967296) (by omega)]
    rw [low32 _ (by omega), high32 (a * d + b * d / 4294967296), wradd _ (b * c) (by omega), high32, wradd (a * c) _ (by omega), wradd _ _ (by omega)]
  go_enter Tryd.func36, Tryd.ntmps36
  go_wp2
  go_ret2
  refine ⟨?_, rfl⟩
  refine (show _ = Ending.returned (.tuple #[.int .u64 ((x : Int) * (y : Int) / 18446744073709551616), .int .u64 (IntKind.u64.wrap ((x : Int) * (y : Int)))]) from rfl).trans ?_
  rw [IntKind.wrap_u64, Int.natCast_emod, Int.natCast_mul, Int.natCast_ediv, Int.natCast_mul]
  rfl

set_option maxRecDepth 100000 in
set_option maxHeartbeats 1000000 in
theorem within2 (x p : Nat) (w : World) (hx : x < 274877906944) (_ : p < 400) :
    Calls Tryd.prog 34 #[.int .u64 x, .int .u64 p, .int .i64 2] w fun e w' => e = .returned (.bool (withinF x p 2)) ∧ w' = w := by
  have hmul := Lib.hid (mul_any x x)
  obtain ⟨hi, hhi⟩ : ∃ n, n = x * x / 18446744073709551616 := ⟨_, rfl⟩
  obtain ⟨lo, hlo⟩ : ∃ n, n = x * x % 18446744073709551616 := ⟨_, rfl⟩
  have HW : Hid (withinF x p 2 = (decide (hi < p) || (decide (hi = p) && decide (lo = 0)))) := by
    refine Lib.hid ?_
    rw [hhi, hlo]; rfl
  rw [← hhi, ← hlo] at hmul
  clear hhi hlo
  by_cases c1 : hi < p
  · have y1 : (hi : Int) < (p : Int) := by omega
    go_enter Tryd.func34, Tryd.ntmps34
    go_wp2_with fail
    refine (hmul.out _ (by omega) (by omega)).mono ?_
    rintro e w1 ⟨rfl, rfl⟩
    go_wp2_with fail
    go_ret
    exact ⟨by rw [HW.out]; simp [c1], rfl⟩
  · have y1 : ¬ (hi : Int) < (p : Int) := by omega
    by_cases c2 : hi = p
    · have y2 : ((hi : Int) == (p : Int)) = true := by simp [c2]
      by_cases c3 : lo = 0
      all_goals
        first
          | have y3 : ((lo : Int) == 0) = true := by simp [c3]
          | have y3 : ((lo : Int) == 0) = false := by simp [c3]
        have HC2 := Lib.hid c2
        clear c2
        go_enter Tryd.func34, Tryd.ntmps34
        go_wp2_with fail
        refine (hmul.out _ (by omega) (by omega)).mono ?_
        rintro e w1 ⟨rfl, rfl⟩
        go_wp2_with fail
        go_ret
        exact ⟨by rw [HW.out, HC2.out]; simp [c3], rfl⟩
    · have y2 : ((hi : Int) == (p : Int)) = false := by simp; omega
      go_enter Tryd.func34, Tryd.ntmps34
      go_wp2_with fail
      refine (hmul.out _ (by omega) (by omega)).mono ?_
      rintro e w1 ⟨rfl, rfl⟩
      go_wp2_with fail
      go_ret
      exact ⟨by rw [HW.out]; simp [c1, c2], rfl⟩
theorem hi_small {x : Nat} (hx : x < 274877906944) : x * x / 18446744073709551616 < 4096 := by
  refine Nat.div_lt_of_lt_mul ?_
  have := Nat.mul_lt_mul'' hx hx
  omega
theorem lo_small {l x : Nat} (hl : l < 18446744073709551616) : l * x / 18446744073709551616 ≤ x :=
  Nat.div_le_of_le_mul (Nat.mul_le_mul_right x (by omega))
set_option maxRecDepth 100000 in
set_option maxHeartbeats 1000000 in
theorem within3 (x p : Nat) (w : World) (hx : x < 274877906944) (hp : p < 400) :
    Calls Tryd.prog 34 #[.int .u64 x, .int .u64 p, .int .i64 3] w fun e w' => e = .returned (.bool (withinF x p 3)) ∧ w' = w := by
  have hmul := Lib.hid (mul_any x x)
  have hs := hi_small hx
  obtain ⟨hi, hhi⟩ : ∃ n, n = x * x / 18446744073709551616 := ⟨_, rfl⟩
  obtain ⟨lo, hlo⟩ : ∃ n, n = x * x % 18446744073709551616 := ⟨_, rfl⟩
  have hll : lo < 18446744073709551616 := by omega
  have hmu2 := Lib.hid (mul_any lo x)
  have hs2 := lo_small (x := x) hll
  rw [← hhi, ← hlo] at hmul
  rw [← hhi] at hs
  obtain ⟨m2, hm2⟩ : ∃ n, n = lo * x / 18446744073709551616 := ⟨_, rfl⟩
  obtain ⟨l2, hl2⟩ : ∃ n, n = lo * x % 18446744073709551616 := ⟨_, rfl⟩
  have hb : hi * x ≤ 4096 * 274877906944 := Nat.mul_le_mul (by omega) (by omega)
  obtain ⟨hx2, hhx⟩ : ∃ n, n = hi * x := ⟨_, rfl⟩
  have q1 : IntKind.u64.wrap ((hi : Int) * (x : Int)) = (hx2 : Int) := by rw [hhx]; exact wrmul hi x (by omega)
  rw [← hhx] at hb
  rw [← hm2] at hs2
  have q2 : IntKind.u64.wrap ((m2 : Int) + (hx2 : Int)) = ((m2 + hx2 : Nat) : Int) := wradd m2 hx2 (by omega)
  obtain ⟨M, hM⟩ : ∃ n, n = m2 + hx2 := ⟨_, rfl⟩
  rw [← hM] at q2
  have HW : Hid (withinF x p 3 = (decide (M < 4294967296 * p) || (decide (M = 4294967296 * p) && decide (l2 = 0)))) := by
    refine Lib.hid ?_
    rw [hM, hm2, hl2, hhx, hhi, hlo]; rfl
  rw [← hm2, ← hl2] at hmu2
  clear hhi hlo hm2 hl2 hhx
  by_cases c1 : M < 4294967296 * p
  · have y1 : (M : Int) < 4294967296 * (p : Int) := by omega
    clear hM
    go_enter Tryd.func34, Tryd.ntmps34
    go_wp2_with fail
    refine (hmul.out _ (by omega) (by omega)).mono ?_
    rintro e w1 ⟨rfl, rfl⟩
    go_wp2_with fail
    refine (hmu2.out _ (by omega) (by omega)).mono ?_
    rintro e w1 ⟨rfl, rfl⟩
    go_wp2_with fail
    go_ret
    exact ⟨by rw [HW.out]; simp [c1], rfl⟩
  · have y1 : ¬ (M : Int) < 4294967296 * (p : Int) := by omega
    by_cases c2 : M = 4294967296 * p
    · have y2 : ((M : Int) == 4294967296 * (p : Int)) = true := by simp; omega
      clear hM
      by_cases c3 : l2 = 0
      all_goals
        first
          | have y3 : ((l2 : Int) == 0) = true := by simp [c3]
          | have y3 : ((l2 : Int) == 0) = false := by simp [c3]
        have HC2 := Lib.hid c2
        clear c2
        go_enter Tryd.func34, Tryd.ntmps34
        go_wp2_with fail
        refine (hmul.out _ (by omega) (by omega)).mono ?_
        rintro e w1 ⟨rfl, rfl⟩
        go_wp2_with fail
        refine (hmu2.out _ (by omega) (by omega)).mono ?_
        rintro e w1 ⟨rfl, rfl⟩
        go_wp2_with fail
        go_ret
        exact ⟨by rw [HW.out, HC2.out]; simp [c3], rfl⟩
    · have y2 : ((M : Int) == 4294967296 * (p : Int)) = false := by simp; omega
      clear hM
      go_enter Tryd.func34, Tryd.ntmps34
      go_wp2_with fail
      refine (hmul.out _ (by omega) (by omega)).mono ?_
      rintro e w1 ⟨rfl, rfl⟩
      go_wp2_with fail
      refine (hmu2.out _ (by omega) (by omega)).mono ?_
      rintro e w1 ⟨rfl, rfl⟩
      go_wp2_with fail
      go_ret
      exact ⟨by rw [HW.out]; simp [c1, c2]; exact y1, rfl⟩
theorem within_any (x p many : Nat) (w : World) (hx : x < 274877906944) (hp : p < 400) (hm : many = 2 ∨ many = 3) :
    Calls Tryd.prog 34 #[.int .u64 x, .int .u64 p, .int .i64 many] w fun e w' => e = .returned (.bool (withinF x p many)) ∧ w' = w := by
  rcases hm with rfl | rfl
  · exact within2 x p w hx hp
  · exact within3 x p w hx hp

def bitF (k : Nat) : Nat := if k = 0 then 0 else 2 ^ (k - 1)
theorem bit_half (k : Nat) : bitF (k + 1) / 2 = bitF k := by
  unfold bitF
  rw [if_neg (by omega)]
  cases k with
  | zero => rfl
  | succ k =>
    rw [if_neg (by omega)]
    simp only [Nat.add_sub_cancel, Nat.pow_succ]
    omega
theorem bit_bd {k : Nat} (hk : k ≤ 38) : bitF k ≤ 137438953472 := by
  unfold bitF
  split
  · omega
  · calc 2 ^ (k - 1) ≤ 2 ^ 37 := Nat.pow_le_pow_right (by omega) (by omega)
      _ = 137438953472 := rfl
set_option maxRecDepth 100000 in
set_option maxHeartbeats 1000000 in
theorem root2 (p : Nat) (w : World) (hp : p < 400) :
    Calls Tryd.prog 31 #[.int .u64 p, .int .i64 2] w fun e w' => e = .returned (.int .u32 (rootF p 2 : Nat)) ∧ w' = w := by
  have hwi := Lib.hid (fun x w h => within2 x p w h hp)
  go_enter Tryd.func31, Tryd.ntmps31
  go_wp2_with fail
  go_loopw [5, 6] (fun a b wr => ∃ (x k : Nat), k ≤ 38 ∧ x < 137438953472 ∧ a = .int .u64 x ∧ b = .int .u64 (bitF k) ∧ w = wr ∧ Hid (rootGo p 2 x k = rootGo p 2 0 38)) (fun _ b _ => (intOf b).toNat)
  case atStart => exact ⟨0, 38, by omega, by omega, rfl, rfl, rfl, rfl⟩
  case round =>
    obtain ⟨x, k, hk, hx, rfl, rfl, rfl, HG⟩ := hrel
    cases k with
    | zero =>
      have hb0 : bitF 0 = 0 := rfl
      rw [hb0]
      have HR : Hid (rootF p 2 = x % 4294967296) := by refine Lib.hid ?_; rw [rootF, ← HG.out]; rfl
      clear HG
      go_wp2_with fail
      go_ret
      exact ⟨by rw [HR.out]; rfl, rfl⟩
    | succ k =>
      have hb := bit_bd hk
      have hh := bit_half k
      have hpos : 0 < bitF (k + 1) := by unfold bitF; rw [if_neg (by omega)]; exact Nat.pow_pos (by omega)
      have hst : rootStep p 2 x k = if decide (x + bitF (k + 1) < 137438953472) && withinF (x + bitF (k + 1)) p 2 then x + bitF (k + 1) else x := by
        have hbk : bitF (k + 1) = 2 ^ k := by simp [bitF]
        rw [hbk]; rfl
      have hbd := root_bd p 2 x k hx
      have hgo : Hid (rootGo p 2 (rootStep p 2 x k) k = rootGo p 2 0 38) := Lib.hid HG.out
      obtain ⟨B, hB⟩ : ∃ B, B = bitF (k + 1) := ⟨_, rfl⟩
      obtain ⟨B', hB'⟩ : ∃ B, B = bitF k := ⟨_, rfl⟩
      rw [← hB, ← hB'] at hh
      rw [← hB] at hb hpos hst ⊢
      have HB' := Lib.hid hB'
      clear hB hB' HG
      have hm1 : (B : Int) / 2 = (B' : Int) := by omega
      obtain ⟨N, hN⟩ : ∃ N, N = rootStep p 2 x k := ⟨_, rfl⟩
      rw [← hN] at hst hbd hgo
      clear hN
      by_cases c1 : x + B < 137438953472
      · have y1 : (x : Int) + (B : Int) < 137438953472 := by omega
        cases hw : withinF (x + B) p 2
        · have hN : N = x := by rw [hst, hw]; simp
          have hcl := fun w => hwi.out (x + B) w (by omega)
          rw [hw] at hcl
          simp only [Int.natCast_add] at hcl
          have HCL := Lib.hid hcl
          clear hcl hst hw
          subst hN
          go_wp2_with fail
          refine (HCL.out _).mono ?_
          rintro e w1 ⟨rfl, rfl⟩
          go_wp2_with fail
          go_roundw
          case rel => exact ⟨_, k, by omega, hbd, rfl, by rw [← HB'.out], trivial, hgo⟩
          case measure => simp [intOf]; omega
        · have hN : N = x + B := by rw [hst, hw]; simp [c1]
          have hcl := fun w => hwi.out (x + B) w (by omega)
          rw [hw] at hcl
          simp only [Int.natCast_add] at hcl
          have HCL := Lib.hid hcl
          clear hcl hst hw
          subst hN
          go_wp2_with fail
          refine (HCL.out _).mono ?_
          rintro e w1 ⟨rfl, rfl⟩
          go_wp2_with fail
          go_roundw
          case rel => exact ⟨x + B, k, by omega, hbd, by rw [Int.natCast_add], by rw [← HB'.out], trivial, hgo⟩
          case measure => simp [intOf]; omega
      · have y1 : ¬ (x : Int) + (B : Int) < 137438953472 := by omega
        have hN : N = x := by rw [hst]; simp [c1]
        clear hst
        subst hN
        go_wp2_with fail
        go_roundw
        case rel => exact ⟨_, k, by omega, hbd, rfl, by rw [← HB'.out], trivial, hgo⟩
        case measure => simp [intOf]; omega
set_option maxRecDepth 100000 in
set_option maxHeartbeats 1000000 in
theorem root3 (p : Nat) (w : World) (hp : p < 400) :
    Calls Tryd.prog 31 #[.int .u64 p, .int .i64 3] w fun e w' => e = .returned (.int .u32 (rootF p 3 : Nat)) ∧ w' = w := by
  have hwi := Lib.hid (fun x w h => within3 x p w h hp)
  go_enter Tryd.func31, Tryd.ntmps31
  go_wp2_with fail
  go_loopw [5, 6] (fun a b wr => ∃ (x k : Nat), k ≤ 38 ∧ x < 137438953472 ∧ a = .int .u64 x ∧ b = .int .u64 (bitF k) ∧ w = wr ∧ Hid (rootGo p 3 x k = rootGo p 3 0 38)) (fun _ b _ => (intOf b).toNat)
  case atStart => exact ⟨0, 38, by omega, by omega, rfl, rfl, rfl, rfl⟩
  case round =>
    obtain ⟨x, k, hk, hx, rfl, rfl, rfl, HG⟩ := hrel
    cases k with
    | zero =>
      have hb0 : bitF 0 = 0 := rfl
      rw [hb0]
      have HR : Hid (rootF p 3 = x % 4294967296) := by refine Lib.hid ?_; rw [rootF, ← HG.out]; rfl
      clear HG
      go_wp2_with fail
      go_ret
      exact ⟨by rw [HR.out]; rfl, rfl⟩
    | succ k =>
      have hb := bit_bd hk
      have hh := bit_half k
      have hpos : 0 < bitF (k + 1) := by unfold bitF; rw [if_neg (by omega)]; exact Nat.pow_pos (by omega)
      have hst : rootStep p 3 x k = if decide (x + bitF (k + 1) < 68719476736) && withinF (x + bitF (k + 1)) p 3 then x + bitF (k + 1) else x := by
        have hbk : bitF (k + 1) = 2 ^ k := by simp [bitF]
        rw [hbk]; rfl
      have hbd := root_bd p 3 x k hx
      have hgo : Hid (rootGo p 3 (rootStep p 3 x k) k = rootGo p 3 0 38) := Lib.hid HG.out
      obtain ⟨B, hB⟩ : ∃ B, B = bitF (k + 1) := ⟨_, rfl⟩
      obtain ⟨B', hB'⟩ : ∃ B, B = bitF k := ⟨_, rfl⟩
      rw [← hB, ← hB'] at hh
      rw [← hB] at hb hpos hst ⊢
      have HB' := Lib.hid hB'
      clear hB hB' HG
      have hm1 : (B : Int) / 2 = (B' : Int) := by omega
      obtain ⟨N, hN⟩ : ∃ N, N = rootStep p 3 x k := ⟨_, rfl⟩
      rw [← hN] at hst hbd hgo
      clear hN
      by_cases c1 : x + B < 68719476736
      · have y1 : (x : Int) + (B : Int) < 68719476736 := by omega
        cases hw : withinF (x + B) p 3
        · have hN : N = x := by rw [hst, hw]; simp
          have hcl := fun w => hwi.out (x + B) w (by omega)
          rw [hw] at hcl
          simp only [Int.natCast_add] at hcl
          have HCL := Lib.hid hcl
          clear hcl hst hw
          subst hN
          go_wp2_with fail
          refine (HCL.out _).mono ?_
          rintro e w1 ⟨rfl, rfl⟩
          go_wp2_with fail
          go_roundw
          case rel => exact ⟨_, k, by omega, hbd, rfl, by rw [← HB'.out], trivial, hgo⟩
          case measure => simp [intOf]; omega
        · have hN : N = x + B := by rw [hst, hw]; simp [c1]
          have hcl := fun w => hwi.out (x + B) w (by omega)
          rw [hw] at hcl
          simp only [Int.natCast_add] at hcl
          have HCL := Lib.hid hcl
          clear hcl hst hw
          subst hN
          go_wp2_with fail
          refine (HCL.out _).mono ?_
          rintro e w1 ⟨rfl, rfl⟩
          go_wp2_with fail
          go_roundw
          case rel => exact ⟨x + B, k, by omega, hbd, by rw [Int.natCast_add], by rw [← HB'.out], trivial, hgo⟩
          case measure => simp [intOf]; omega
      · have y1 : ¬ (x : Int) + (B : Int) < 68719476736 := by omega
        have hN : N = x := by rw [hst]; simp [c1]
        clear hst
        subst hN
        go_wp2_with fail
        go_roundw
        case rel => exact ⟨_, k, by omega, hbd, rfl, by rw [← HB'.out], trivial, hgo⟩
        case measure => simp [intOf]; omega
end Go.Proofs.YtggfibheolpbiaaDoor
