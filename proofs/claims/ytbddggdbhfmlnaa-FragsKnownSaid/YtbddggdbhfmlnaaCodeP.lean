/- Plain: the encoding of a fragment and the numbers in it, each the other's inverse. -/
import Derived.Test.YtbddggdbhfmlnaaCodeB
namespace Go.Proofs.Ytbddggdbhfmlnaa
open Go.RowKit Go.Mp

theorem valK_more (s : ByteArray) (o k m : Nat) : valK s o (k + m) / 256 ^ m = valK s o k := by
  induction m with
  | zero => simp
  | succ m ih =>
    have hb := (s.data.getD (o + (k + m)) 0).toNat_lt
    rw [← Nat.add_assoc, valK, Nat.pow_succ, Nat.mul_comm (256 ^ m) 256, ← Nat.div_div_eq_div_mul]
    have : (valK s o (k + m) * 256 + (s.data.getD (o + (k + m)) 0).toNat) / 256 = valK s o (k + m) := by omega
    rw [this, ih]
theorem byK_valK (s : ByteArray) (o k : Nat) (hk : k < 8) : byK (valK s o 8) k = s.data.getD (o + k) 0 := by
  have h := valK_more s o (k + 1) (7 - k)
  rw [show k + 1 + (7 - k) = 8 by omega] at h
  unfold byK
  rw [show 56 - 8 * k = 8 * (7 - k) by omega, Nat.pow_mul, show 2 ^ 8 = 256 from rfl, h, valK]
  apply UInt8.toNat_inj.1
  have hb := (s.data.getD (o + k) 0).toNat_lt
  rw [UInt8.toNat_ofNat']
  omega
theorem valK_of (s : ByteArray) (o n : Nat) (hn : n < 18446744073709551616) (h : ∀ k, k < 8 → s.data.getD (o + k) 0 = byK n k) : valK s o 8 = n := by
  have H : ∀ k, k ≤ 8 → valK s o k = n / 256 ^ (8 - k) := by
    intro k
    induction k with
    | zero => intro _; simp only [valK]; exact (Nat.div_eq_of_lt (by simpa using hn)).symm
    | succ k ih =>
      intro hk
      rw [valK, ih (by omega), h k (by omega)]
      unfold byK
      rw [UInt8.toNat_ofNat', show 56 - 8 * k = 8 * (7 - k) by omega, Nat.pow_mul, show 2 ^ 8 = 256 from rfl, show 8 - k = (7 - k) + 1 by omega, Nat.pow_succ, ← Nat.div_div_eq_div_mul, show 8 - (k + 1) = 7 - k by omega]
      omega
  simpa using H 8 (by omega)
theorem valK_extract (b : ByteArray) (o k : Nat) (h : o + k ≤ b.size) : valK (b.extract o b.size) 0 k = valK b o k := by
  induction k with
  | zero => rfl
  | succ k ih =>
    rw [valK, valK, ih (by omega)]
    congr 2
    have hs : k < (b.extract o b.size).data.size := by
      have : (b.extract o b.size).data.size = (b.extract o b.size).size := rfl
      rw [this, ByteArray.size_extract]; omega
    have hs2 : o + k < b.data.size := by have : b.data.size = b.size := rfl; omega
    rw [Nat.zero_add, Array.getD, dif_pos hs, Array.getD, dif_pos hs2]
    simp [ByteArray.data_extract]

theorem enc_size (fi : Bool) (i l : Nat) (data : ByteArray) : (encF fi i l data).size = 18 + data.size := by
  unfold encF
  rw [ByteArray.size_append]
  have : (ByteArray.mk (headL fi i l).toArray).size = 18 := headL_len fi i l
  rw [this]
theorem enc_at (fi : Bool) (i l : Nat) (data : ByteArray) (j : Nat) (hj : j < 18) : (encF fi i l data).data.getD j 0 = (headL fi i l)[j]'(by rw [headL_len]; exact hj) := by
  have hs : j < (encF fi i l data).data.size := by
    have : (encF fi i l data).data.size = (encF fi i l data).size := rfl
    rw [this, enc_size]; omega
  rw [Array.getD, dif_pos hs]
  simp only [encF, ByteArray.data_append]
  rw [Array.getInternal_eq_getElem, Array.getElem_append_left (by simpa [headL_len] using hj)]
  simp
theorem head_id (fi : Bool) (i l k : Nat) (hk : k < 8) : (headL fi i l)[2 + k]'(by rw [headL_len]; omega) = byK i k := by
  simp only [headL]
  rw [List.getElem_append_left (by simp [be8_len]; omega), List.getElem_append_right (by simp)]
  simp [be8]
theorem head_left (fi : Bool) (i l k : Nat) (hk : k < 8) : (headL fi i l)[10 + k]'(by rw [headL_len]; omega) = byK l k := by
  simp only [headL]
  rw [List.getElem_append_right (by simp [be8_len])]
  simp [be8]
theorem enc_id (fi : Bool) (i l : Nat) (data : ByteArray) (hi : i < 18446744073709551616) : valK (encF fi i l data) 2 8 = i :=
  valK_of _ _ _ hi fun k hk => by rw [enc_at _ _ _ _ _ (by omega), head_id _ _ _ _ hk]
theorem enc_left (fi : Bool) (i l : Nat) (data : ByteArray) (hl : l < 18446744073709551616) : valK (encF fi i l data) 10 8 = l :=
  valK_of _ _ _ hl fun k hk => by rw [enc_at _ _ _ _ _ (by omega), head_left _ _ _ _ hk]
theorem enc_0 (fi : Bool) (i l : Nat) (data : ByteArray) : (encF fi i l data).data.getD 0 0 = 131 := by rw [enc_at _ _ _ _ _ (by omega)]; rfl
theorem enc_1 (fi : Bool) (i l : Nat) (data : ByteArray) : (encF fi i l data).data.getD 1 0 = if fi then 69 else 70 := by rw [enc_at _ _ _ _ _ (by omega)]; rfl
theorem enc_rest (fi : Bool) (i l : Nat) (data : ByteArray) : (encF fi i l data).extract 18 (encF fi i l data).size = data := by
  rw [enc_size]
  apply ByteArray.ext
  simp only [encF, ByteArray.data_extract, ByteArray.data_append]
  rw [Array.extract_append]
  simp [headL_len, ← ByteArray.size_data]

/-- The head of an encoding. -/
def formB (b : ByteArray) : Bool := decide (18 ≤ b.size) && (b.data.getD 0 0 == 131 && (b.data.getD 1 0 == 69 || b.data.getD 1 0 == 70))
def getD1 (b : ByteArray) : Bool := b.data.getD 1 0 == 69
def tailD (b : ByteArray) : ByteArray := b.extract 18 b.size
/-- What Get hands back. -/
def getF (b : ByteArray) : (Int × Bool × Int × ByteArray) × Int :=
  if (formB b && validB (valK b 2 8) (valK b 10 8) (tailD b)) = true then ((valK b 2 8, getD1 b, valK b 10 8, tailD b), 0) else ((0, false, 0, ByteArray.empty), 6)

theorem enc_back (b : ByteArray) (h : formB b = true) : encF (getD1 b) (valK b 2 8) (valK b 10 8) (tailD b) = b := by
  simp only [formB, Bool.and_eq_true, Bool.or_eq_true, decide_eq_true_eq, beq_iff_eq] at h
  obtain ⟨h1, h2, h3⟩ := h
  have hsz : (encF (getD1 b) (valK b 2 8) (valK b 10 8) (tailD b)).size = b.size := by
    rw [enc_size, tailD, ByteArray.size_extract]; omega
  have hbs : b.data.size = b.size := rfl
  have hgd : ∀ j, (hj : j < b.data.size) → b.data.getD j 0 = b.data[j] := fun j hj => by rw [Array.getD, dif_pos hj]; rfl
  apply ByteArray.ext
  apply Array.ext
  · exact hsz
  · intro j hj1 hj2
    by_cases hj : j < 18
    · have e : (encF (getD1 b) (valK b 2 8) (valK b 10 8) (tailD b)).data.getD j 0 = (encF (getD1 b) (valK b 2 8) (valK b 10 8) (tailD b)).data[j] := by
        rw [Array.getD, dif_pos hj1]; rfl
      rw [← e, ← hgd j hj2, enc_at _ _ _ _ _ hj]
      by_cases h0 : j = 0
      · subst h0; rw [h2]; rfl
      · by_cases h1' : j = 1
        · subst h1'
          show (if getD1 b then 69 else 70) = _
          unfold getD1
          rcases h3 with q | q
          · rw [q]; rfl
          · rw [q]; rfl
        · by_cases h9 : j < 10
          · obtain ⟨k, rfl⟩ : ∃ k, j = 2 + k := ⟨j - 2, by omega⟩
            rw [head_id _ _ _ _ (by omega), byK_valK _ _ _ (by omega)]
          · obtain ⟨k, rfl⟩ : ∃ k, j = 10 + k := ⟨j - 10, by omega⟩
            rw [head_left _ _ _ _ (by omega), byK_valK _ _ _ (by omega)]
    · simp only [encF, ByteArray.data_append]
      rw [Array.getElem_append_right (by simp [headL_len]; omega)]
      simp only [tailD, ByteArray.data_extract, List.size_toArray, headL_len]
      rw [Array.getElem_extract]
      congr 1
      omega
theorem get_enc (fi : Bool) (i l : Nat) (data : ByteArray) (hv : validB i l data = true) : getF (encF fi i l data) = (((i : Int), fi, (l : Int), data), 0) := by
  obtain ⟨v1, v2, v3, v4, v5⟩ := valid_of hv
  have hi : i < 18446744073709551616 := by omega
  have hl : l < 18446744073709551616 := by omega
  have hf : formB (encF fi i l data) = true := by
    unfold formB
    rw [enc_size, enc_0, enc_1]
    cases fi <;> simp
  unfold getF
  rw [hf, enc_id _ _ _ _ hi, enc_left _ _ _ _ hl, tailD, enc_rest, hv]
  simp only [Bool.and_self, if_true]
  unfold getD1
  rw [enc_1]
  cases fi <;> rfl
end Go.Proofs.Ytbddggdbhfmlnaa
