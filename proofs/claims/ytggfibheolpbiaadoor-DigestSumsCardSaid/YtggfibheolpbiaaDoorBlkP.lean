/- Plain: the blocks of a message and its padding. -/
import Derived.Test.YtggfibheolpbiaaDoorTail
namespace Go.Proofs.YtggfibheolpbiaaDoor
open Go.RowKit Go.Rt

/-- So many zero bytes follow the byte 128. -/
def zerosN (n : Nat) : Nat := (119 - n % 64) % 64
def byteAt (m k : Nat) : Nat := m / 2 ^ (56 - 8 * k) % 256
def be8N (m : Nat) : List Nat := (List.range 8).map (byteAt m)
def padL (n : Nat) : List Nat := 128 :: (List.replicate (zerosN n) 0 ++ be8N (8 * n))
def allL (b : ByteArray) : List Nat := bytesN b ++ padL b.size
def blkL (all : List Nat) (k : Nat) : List Nat := (all.drop (64 * k)).take 64
def manyN (b : ByteArray) : Nat := b.size / 64 + (b.size % 64 + 9 + zerosN b.size) / 64
def blocksL (b : ByteArray) : List (List Nat) := (List.range (manyN b)).map (blkL (allL b))

theorem zeros_lt (n : Nat) : zerosN n < 64 := Nat.mod_lt _ (by omega)
theorem zeros_eq (n : Nat) : (n % 64 + 1 + zerosN n) % 64 = 56 := by unfold zerosN; omega
theorem zeros_first (n j : Nat) (hj : j < zerosN n) : (n % 64 + 1 + j) % 64 ≠ 56 := by unfold zerosN at hj; omega
theorem be8N_len (m : Nat) : (be8N m).length = 8 := by simp [be8N]
theorem be8N_take (m k : Nat) (hk : k < 8) : (be8N m).take (k + 1) = (be8N m).take k ++ [byteAt m k] := by
  rw [List.take_succ_eq_append_getElem (by rw [be8N_len]; exact hk)]
  simp [be8N]
theorem all_len (b : ByteArray) : (allL b).length = 64 * manyN b := by
  unfold allL padL manyN
  simp only [List.length_append, List.length_cons, List.length_replicate, be8N_len, bytesN_len]
  have := zeros_eq b.size
  omega
theorem blocks_len (b : ByteArray) : (blocksL b).length = manyN b := by simp [blocksL]
theorem blocks_get (b : ByteArray) (k : Nat) (h : k < (blocksL b).length) : (blocksL b)[k] = blkL (allL b) k := by simp [blocksL]
theorem blk_len (b : ByteArray) (k : Nat) (h : k < manyN b) : (blkL (allL b) k).length = 64 := by
  unfold blkL
  rw [List.length_take, List.length_drop, all_len]
  omega
theorem many_ge (b : ByteArray) : b.size / 64 ≤ manyN b := by unfold manyN; omega
theorem bytesN_lt (b : ByteArray) : ∀ x ∈ bytesN b, x < 256 := by
  intro x hx
  obtain ⟨c, _, rfl⟩ := List.mem_map.1 hx
  exact c.toNat_lt
theorem all_lt (b : ByteArray) : ∀ x ∈ allL b, x < 256 := by
  intro x hx
  unfold allL padL at hx
  simp only [List.mem_append, List.mem_cons] at hx
  rcases hx with h | rfl | h | h
  · exact bytesN_lt b x h
  · omega
  · have := List.eq_of_mem_replicate h; omega
  · obtain ⟨k, _, rfl⟩ := List.mem_map.1 h
    exact Nat.mod_lt _ (by omega)
theorem blk_lt (b : ByteArray) (k : Nat) : ∀ x ∈ blkL (allL b) k, x < 256 := fun x hx => all_lt b x (List.mem_of_mem_drop (List.mem_of_mem_take hx))
/-- A block that lies in the message alone. -/
theorem blk_head (b : ByteArray) (k : Nat) (h : k < b.size / 64) : blkL (allL b) k = ((bytesN b).drop (64 * k)).take 64 := by
  unfold blkL allL
  rw [List.drop_append_of_le_length (by rw [bytesN_len]; omega), List.take_append_of_le_length (by rw [List.length_drop, bytesN_len]; omega)]
/-- What is behind the whole blocks of the message. -/
def tailL (b : ByteArray) : List Nat := (bytesN b).drop (64 * (b.size / 64)) ++ padL b.size
theorem tail_eq (b : ByteArray) : tailL b = (allL b).drop (64 * (b.size / 64)) := by
  unfold tailL allL
  rw [List.drop_append_of_le_length (by rw [bytesN_len]; omega)]
theorem tail_len (b : ByteArray) : (tailL b).length = 64 * (manyN b - b.size / 64) := by
  rw [tail_eq, List.length_drop, all_len]
  have := many_ge b
  omega
theorem blk_tail (b : ByteArray) (k : Nat) : blkL (allL b) (b.size / 64 + k) = ((tailL b).drop (64 * k)).take 64 := by
  unfold blkL
  rw [tail_eq, List.drop_drop]
  congr 2
  omega
theorem bytesN_extract (b : ByteArray) (i j : Nat) : bytesN (b.extract i j) = ((bytesN b).drop i).take (j - i) := by
  unfold bytesN
  rw [ByteArray.data_extract, Array.toList_extract]
  simp [List.extract, List.map_drop, List.map_take]
end Go.Proofs.YtggfibheolpbiaaDoor
