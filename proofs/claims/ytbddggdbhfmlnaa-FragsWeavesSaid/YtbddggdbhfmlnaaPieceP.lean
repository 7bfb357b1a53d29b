/- Plain facts on the pieces of a message. -/
import Derived.Test.YtbddggdbhfmlnaaCuts
namespace Go.Proofs.Ytbddggdbhfmlnaa
open Go.RowKit Go.Rt Go.Rw

def atK (data : ByteArray) (most k : Nat) : Nat := min (k * most) data.size
theorem rest_eq (data : ByteArray) (most k : Nat) : restK data most k = data.extract (atK data most k) data.size := by
  induction k with
  | zero => simp [restK, atK]
  | succ k ih =>
    have hs := rest_size data most k
    have e : atK data most k + min most (data.size - k * most) = atK data most (k + 1) := by
      unfold atK; rw [Nat.succ_mul]; omega
    have e2 : min (atK data most k + (data.size - k * most)) data.size = data.size := by unfold atK; omega
    rw [restK, hs, ih, ByteArray.extract_extract, e, e2]
theorem part_eq (data : ByteArray) (most k : Nat) : partK data most k = data.extract (atK data most k) (atK data most (k + 1)) := by
  have hs := rest_size data most k
  have e : min (atK data most k + min most (data.size - k * most)) data.size = atK data most (k + 1) := by
    unfold atK; rw [Nat.succ_mul]; omega
  rw [partK, hs, rest_eq, ByteArray.extract_extract, e]
  simp
theorem part_size (data : ByteArray) (most k : Nat) : (partK data most k).size = atK data most (k + 1) - atK data most k := by
  rw [part_eq, ByteArray.size_extract]; unfold atK; omega
theorem at_mono (data : ByteArray) (most k : Nat) : atK data most k ≤ atK data most (k + 1) ∧ atK data most (k + 1) ≤ data.size ∧ atK data most (k + 1) ≤ atK data most k + most := by
  unfold atK; rw [Nat.succ_mul]; omega
theorem many_bd (data : ByteArray) (most k : Nat) (hm : 1 ≤ most) (hk : k + 1 < manyK data most) : (k + 1) * most ≤ data.size := by
  have h2 : manyK data most = max 1 ((data.size + most - 1) / most) := rfl
  have h3 : k + 1 < (data.size + most - 1) / most := by omega
  rw [Nat.lt_iff_add_one_le, Nat.le_div_iff_mul_le (by omega), Nat.succ_mul] at h3
  omega
theorem at_inner (data : ByteArray) (most k : Nat) (hm : 1 ≤ most) (hk : k + 1 < manyK data most) : atK data most (k + 1) = atK data most k + most := by
  have := many_bd data most k hm hk
  unfold atK
  rw [Nat.succ_mul] at this ⊢
  omega
theorem at_end (data : ByteArray) (most : Nat) (hm : 1 ≤ most) : atK data most (manyK data most) = data.size := by
  have h2 : manyK data most = max 1 ((data.size + most - 1) / most) := rfl
  have h3 : data.size ≤ manyK data most * most := by
    have hd := Nat.div_add_mod (data.size + most - 1) most
    have hr := Nat.mod_lt (data.size + most - 1) (show 0 < most by omega)
    have hle : (data.size + most - 1) / most ≤ manyK data most := by omega
    have := Nat.mul_le_mul_left most hle
    rw [Nat.mul_comm (manyK data most)]
    omega
  unfold atK; omega
theorem last_pos (data : ByteArray) (most : Nat) (hm : 1 ≤ most) (h : 1 < manyK data most) : 0 < (partK data most (manyK data most - 1)).size := by
  rw [part_size, show manyK data most - 1 + 1 = manyK data most by omega, at_end data most hm]
  have h2 : manyK data most = max 1 ((data.size + most - 1) / most) := rfl
  have h3 : manyK data most ≤ (data.size + most - 1) / most := by omega
  rw [Nat.le_div_iff_mul_le (by omega)] at h3
  have : manyK data most * most = (manyK data most - 1) * most + most := by
    rw [← Nat.succ_mul]; congr 1; omega
  unfold atK
  omega
theorem cutL_get (id : Int) (data : ByteArray) (most k : Nat) (hk : k < (cutL id data most).length) : (cutL id data most)[k] = (id, decide (k = 0), (manyK data most : Int) - (k : Int), partK data most k) := by simp [cutL]

end Go.Proofs.Ytbddggdbhfmlnaa
