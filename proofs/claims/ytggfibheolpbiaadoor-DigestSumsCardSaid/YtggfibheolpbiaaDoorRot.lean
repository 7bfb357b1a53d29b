/- The small functions of digest. -/
import Derived.Test.YtggfibheolpbiaaDoorProg
import Derived.Test.YtggfibheolpbiaaDoorChecked
import Derived.WalkKit
import Derived.WalkSpells
import Derived.WalkLawsBesides
import Derived.RegionTactic
import Derived.Deep.QuietTactic
import Derived.BigQuiet
import Derived.Lib.Hide
import Derived.Outline
import Derived.IntWalk
import Derived.Laws.BitsAllLaws
namespace Go.Proofs.YtggfibheolpbiaaDoor
open Go.RowKit

def rotr (n x : Nat) : Nat := x * 2 ^ (32 - n) % 4294967296 ||| x / 2 ^ n

theorem rot_any (x n : Nat) (w : World) (hx : x < 4294967296) (h1 : 1 ≤ n) (h2 : n ≤ 31) :
    Calls Tryd.prog 29 #[.int .u32 x, .int .i64 (-(n : Int))] w fun e w' => e = .returned (.int .u32 (rotr n x : Nat)) ∧ w = w' := by
  have hb : bits .and .u64 (IntKind.u64.wrap (-(n : Int))) 31 = ((32 - n : Nat) : Int) := by
    rw [IntKind.wrap_u64]
    rw [show (-(n : Int)) % 18446744073709551616 = ((18446744073709551616 - n : Nat) : Int) by omega]
    have := u64_and_nat (18446744073709551616 - n) 31 (by omega) (by omega)
    rw [show ((31 : Nat) : Int) = 31 from rfl] at this
    rw [this, nat_mask5]
    congr 1
    omega
  go_enter Tryd.func29, Tryd.ntmps29
  go_wp2
  go_ret
  refine ⟨?_, rfl⟩
  have h32 : 32 - (32 - n) = n := by omega
  rw [h32]
  have hl : x * 2 ^ (32 - n) % 4294967296 < 4294967296 := by omega
  have hr : x / 2 ^ n < 4294967296 := Nat.lt_of_le_of_lt (Nat.div_le_self _ _) hx
  have := u32_or_nat _ _ hl hr
  unfold rotr
  rw [← this, Int.natCast_emod, Int.natCast_mul, Int.natCast_pow, Int.natCast_ediv, Int.natCast_pow]
  rfl
theorem rot_at (n : Nat) (k : Int) (x : Nat) (w : World) (hk : k = -(n : Int)) (hx : x < 4294967296) (h1 : 1 ≤ n) (h2 : n ≤ 31) :
    Calls Tryd.prog 29 #[.int .u32 x, .int .i64 k] w fun e w' => e = .returned (.int .u32 (rotr n x : Nat)) ∧ w = w' := by
  rw [hk]; exact rot_any x n w hx h1 h2
theorem rotr_lt (n x : Nat) (hx : x < 4294967296) : rotr n x < 4294967296 := by
  unfold rotr
  exact Nat.or_lt_two_pow (n := 32) (by omega) (Nat.lt_of_le_of_lt (Nat.div_le_self _ _) hx)
end Go.Proofs.YtggfibheolpbiaaDoor
