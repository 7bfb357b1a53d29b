/- Plain: the blocks of a message and its padding. Plain: the rounds of a compression. -/
import Derived.Test.YtnkkbkceapcahaaDoorTail1
import Derived.Test.YtnkkbkceapcahaaDoorSched
namespace Go.Proofs.YtnkkbkceapcahaaDoor
open Go.RowKit Go.Rt

/-- So many zero bytes follow the byte 128. -/
def zerosN (n : Nat) : Nat := (119 - n % 64) % 64
def byteAt (m k : Nat) : Nat := m / 2 ^ (56 - 8 * k) % 256
def be8N (m : Nat) : List Nat := (List.range 8).map (byteAt m)
def padL (n : Nat) : List Nat := 128 :: (List.replicate (zerosN n) 0 ++ be8N (8 * n))
def allL (b : ByteArray) : List Nat := bytesN b ++ padL b.size
def blkL (all : List Nat) (k : Nat) : List Nat := (all.drop (64 * k)).take 64
def manyN (b : ByteArray) : Nat := b.size / 64 + (b.size % 64 + 9 + zerosN b.size) / 64
def blocksL (b : ByteArray) : List (List Nat) := (List.range (manyN b)).map (blkL (allL b))

theorem zeros_lt (n : Nat) : zerosN n < 64 := Nat.mod_lt _ (by omega)
theorem zeros_eq (n : Nat) : (n % 64 + 1 + zerosN n) % 64 = 56 := by unfold zerosN; omega
theorem zeros_first (n j : Nat) (hj : j < zerosN n) : (n % 64 + 1 + j) % 64 ≠ 56 := by unfold zerosN at hj; omega
theorem be8N_len (m : Nat) : (be8N m).length = 8 := by simp [be8N]
theorem be8N_take (m k : Nat) (hk : k < 8) : (be8N m).take (k + 1) = (be8N m).take k ++ [byteAt m k] := by
  rw [List.take_succ_eq_append_getElem (by rw [be8N_len]; exact hk)]
  simp [be8N]
theorem all_len (b : ByteArray) : (allL b).length = 64 * manyN b := by
  unfold allL padL manyN
  simp only [List.length_append, List.length_cons, List.length_replicate, be8N_len, bytesN_len]
  have := zeros_eq b.size
  omega
theorem blocks_len (b : ByteArray) : (blocksL b).length = manyN b := by simp [blocksL]
theorem blocks_get (b : ByteArray) (k : Nat) (h : k < (blocksL b).length) : (blocksL b)[k] = blkL (allL b) k := by simp [blocksL]
theorem blk_len (b : ByteArray) (k : Nat) (h : k < manyN b) : (blkL (allL b) k).length = 64 := by
  unfold blkL
  rw [List.length_take, List.length_drop, all_len]
  omega
theorem many_ge (b : ByteArray) : b.size / 64 ≤ manyN b := by unfold manyN; omega
theorem bytesN_lt (b : ByteArray) : ∀ x ∈ bytesN b, x < 256 := by
  intro x hx
  obtain ⟨c, _, rfl⟩ := List.mem_map.1 hx
  exact c.toNat_lt
theorem all_lt (b : ByteArray) : ∀ x ∈ allL b, x < 256 := by
  intro x hx
  unfold allL padL at hx
  simp only [List.mem_append, List.mem_cons] at hx
  rcases hx with h | rfl | h | h
  · exact bytesN_lt b x h
  · omega
  · have := List.eq_of_mem_replicate h; omega
  · obtain ⟨k, _, rfl⟩ := List.mem_map.1 h
    exact Nat.mod_lt _ (by omega)
theorem blk_lt (b : ByteArray) (k : Nat) : ∀ x ∈ blkL (allL b) k, x < 256 := fun x hx => all_lt b x (List.mem_of_mem_drop (List.mem_of_mem_take hx))
/-- A block that lies in the message alone. -/
theorem blk_head (b : ByteArray) (k : Nat) (h : k < b.size / 64) : blkL (allL b) k = ((bytesN b).drop (64 * k)).take 64 := by
  unfold blkL allL
  rw [List.drop_append_of_le_length (by rw [bytesN_len]; omega), List.take_append_of_le_length (by rw [List.length_drop, bytesN_len]; omega)]
/-- What is behind the whole blocks of the message. -/
def tailL (b : ByteArray) : List Nat := (bytesN b).drop (64 * (b.size / 64)) ++ padL b.size
theorem tail_eq (b : ByteArray) : tailL b = (allL b).drop (64 * (b.size / 64)) := by
  unfold tailL allL
  rw [List.drop_append_of_le_length (by rw [bytesN_len]; omega)]
theorem tail_len (b : ByteArray) : (tailL b).length = 64 * (manyN b - b.size / 64) := by
  rw [tail_eq, List.length_drop, all_len]
  have := many_ge b
  omega
theorem blk_tail (b : ByteArray) (k : Nat) : blkL (allL b) (b.size / 64 + k) = ((tailL b).drop (64 * k)).take 64 := by
  unfold blkL
  rw [tail_eq, List.drop_drop]
  congr 2
  omega
theorem bytesN_extract (b : ByteArray) (i j : Nat) : bytesN (b.extract i j) = ((bytesN b).drop i).take (j - i) := by
  unfold bytesN
  rw [ByteArray.data_extract, Array.toList_extract]
  simp [List.extract, List.map_drop, List.map_take]
end Go.Proofs.YtnkkbkceapcahaaDoor
namespace Go.Proofs.YtnkkbkceapcahaaDoor
open Go.RowKit

/-- A state of eight words. -/
structure S8 where
  a : Nat
  b : Nat
  c : Nat
  d : Nat
  e : Nat
  f : Nat
  g : Nat
  h : Nat
def S8.l (s : S8) : List Nat := [s.a, s.b, s.c, s.d, s.e, s.f, s.g, s.h]
def S8.ok (s : S8) : Prop := s.a < 4294967296 ∧ s.b < 4294967296 ∧ s.c < 4294967296 ∧ s.d < 4294967296 ∧ s.e < 4294967296 ∧ s.f < 4294967296 ∧ s.g < 4294967296 ∧ s.h < 4294967296
def bigE (e : Nat) : Nat := rotr 6 e ^^^ rotr 11 e ^^^ rotr 25 e
def bigA (a : Nat) : Nat := rotr 2 a ^^^ rotr 13 a ^^^ rotr 22 a
def chF (e f g : Nat) : Nat := (e &&& f) ^^^ ((4294967295 - e) &&& g)
def majF (a b c : Nat) : Nat := ((a &&& b) ^^^ (a &&& c)) ^^^ (b &&& c)
def tF (s : S8) (k w : Nat) : Nat := (s.h + bigE s.e + chF s.e s.f s.g + k + w) % 4294967296
def uF (s : S8) : Nat := (bigA s.a + majF s.a s.b s.c) % 4294967296
def stepF (s : S8) (k w : Nat) : S8 := ⟨(tF s k w + uF s) % 4294967296, s.a, s.b, s.c, (s.d + tF s k w) % 4294967296, s.e, s.f, s.g⟩
def roundsF (K W : List Nat) (s : S8) : Nat → S8
  | 0 => s
  | i + 1 => stepF (roundsF K W s i) (K.getD i 0) (W.getD i 0)
def addF (s t : S8) : S8 := ⟨(s.a + t.a) % 4294967296, (s.b + t.b) % 4294967296, (s.c + t.c) % 4294967296, (s.d + t.d) % 4294967296, (s.e + t.e) % 4294967296, (s.f + t.f) % 4294967296, (s.g + t.g) % 4294967296, (s.h + t.h) % 4294967296⟩
def KL : List Nat := [
  0x428a2f98, 0x71374491, 0xb5c0fbcf, 0xe9b5dba5, 0x3956c25b, 0x59f111f1, 0x923f82a4, 0xab1c5ed5,
  0xd807aa98, 0x12835b01, 0x243185be, 0x550c7dc3, 0x72be5d74, 0x80deb1fe, 0x9bdc06a7, 0xc19bf174,
  0xe49b69c1, 0xefbe4786, 0x0fc19dc6, 0x240ca1cc, 0x2de92c6f, 0x4a7484aa, 0x5cb0a9dc, 0x76f988da,
  0x983e5152, 0xa831c66d, 0xb00327c8, 0xbf597fc7, 0xc6e00bf3, 0xd5a79147, 0x06ca6351, 0x14292967,
  0x27b70a85, 0x2e1b2138, 0x4d2c6dfc, 0x53380d13, 0x650a7354, 0x766a0abb, 0x81c2c92e, 0x92722c85,
  0xa2bfe8a1, 0xa81a664b, 0xc24b8b70, 0xc76c51a3, 0xd192e819, 0xd6990624, 0xf40e3585, 0x106aa070,
  0x19a4c116, 0x1e376c08, 0x2748774c, 0x34b0bcb5, 0x391c0cb3, 0x4ed8aa4a, 0x5b9cca4f, 0x682e6ff3,
  0x748f82ee, 0x78a5636f, 0x84c87814, 0x8cc70208, 0x90befffa, 0xa4506ceb, 0xbef9a3f7, 0xc67178f2]
def startF : S8 := ⟨0x6a09e667, 0xbb67ae85, 0x3c6ef372, 0xa54ff53a, 0x510e527f, 0x9b05688c, 0x1f83d9ab, 0x5be0cd19⟩
def compF (s : S8) (p : List Nat) : S8 := addF s (roundsF KL (schedL p 64) s 64)

theorem xor_lt {a b : Nat} (h : a < 4294967296) (k : b < 4294967296) : a ^^^ b < 4294967296 := Nat.xor_lt_two_pow (n := 32) h k
theorem and_lt {a b : Nat} (h : a < 4294967296) : a &&& b < 4294967296 := Nat.lt_of_le_of_lt Nat.and_le_left h
theorem bigE_lt (e : Nat) (h : e < 4294967296) : bigE e < 4294967296 := xor_lt (xor_lt (rotr_lt 6 e h) (rotr_lt 11 e h)) (rotr_lt 25 e h)
theorem bigA_lt (e : Nat) (h : e < 4294967296) : bigA e < 4294967296 := xor_lt (xor_lt (rotr_lt 2 e h) (rotr_lt 13 e h)) (rotr_lt 22 e h)
theorem chF_lt (e f g : Nat) (h : e < 4294967296) : chF e f g < 4294967296 := xor_lt (and_lt h) (and_lt (by omega))
theorem majF_lt (a b c : Nat) (h : a < 4294967296) (k : b < 4294967296) : majF a b c < 4294967296 := xor_lt (xor_lt (and_lt h) (and_lt h)) (and_lt k)
theorem step_ok (s : S8) (k w : Nat) (h : s.ok) : (stepF s k w).ok := by
  obtain ⟨h1, h2, h3, h4, h5, h6, h7, h8⟩ := h
  exact ⟨Nat.mod_lt _ (by omega), h1, h2, h3, Nat.mod_lt _ (by omega), h5, h6, h7⟩
theorem rounds_ok (K W : List Nat) (s : S8) (h : s.ok) (i : Nat) : (roundsF K W s i).ok := by
  induction i with
  | zero => exact h
  | succ i ih => exact step_ok _ _ _ ih
theorem add_ok (s t : S8) : (addF s t).ok := by
  refine ⟨?_, ?_, ?_, ?_, ?_, ?_, ?_, ?_⟩ <;> exact Nat.mod_lt _ (by omega)
theorem comp_ok (s : S8) (p : List Nat) : (compF s p).ok := add_ok _ _
theorem KL_lt (i : Nat) : KL.getD i 0 < 4294967296 := by
  have h : ∀ x ∈ KL, x < 4294967296 := by decide +kernel
  rw [List.getD_eq_getElem?_getD]
  cases hj : KL[i]? with
  | none => simp
  | some v => exact h v (List.mem_of_getElem? hj)

/-- The bits, as the walk has them. -/
theorem e_bits (e : Nat) (h : e < 4294967296) : bits .xor .u32 (bits .xor .u32 ↑(rotr 6 e) ↑(rotr 11 e)) ↑(rotr 25 e) = (bigE e : Int) := by
  rw [u32_xor_nat _ _ (rotr_lt 6 e h) (rotr_lt 11 e h), u32_xor_nat _ _ (xor_lt (rotr_lt 6 e h) (rotr_lt 11 e h)) (rotr_lt 25 e h)]
  rfl
theorem a_bits (e : Nat) (h : e < 4294967296) : bits .xor .u32 (bits .xor .u32 ↑(rotr 2 e) ↑(rotr 13 e)) ↑(rotr 22 e) = (bigA e : Int) := by
  rw [u32_xor_nat _ _ (rotr_lt 2 e h) (rotr_lt 13 e h), u32_xor_nat _ _ (xor_lt (rotr_lt 2 e h) (rotr_lt 13 e h)) (rotr_lt 22 e h)]
  rfl
theorem maj_bits (a b c : Nat) (h : a < 4294967296) (k : b < 4294967296) (hc : c < 4294967296) : bits .xor .u32 (bits .xor .u32 (bits .and .u32 ↑a ↑b) (bits .and .u32 ↑a ↑c)) (bits .and .u32 ↑b ↑c) = (majF a b c : Int) := by
  rw [u32_and_nat _ _ h k, u32_and_nat _ _ h hc, u32_and_nat _ _ k hc, u32_xor_nat _ _ (and_lt h) (and_lt h), u32_xor_nat _ _ (xor_lt (and_lt h) (and_lt h)) (and_lt k)]
  rfl
end Go.Proofs.YtnkkbkceapcahaaDoor
