/- Plain: what the pieces of one message do to a gatherer that has no other message open. -/
import Derived.Test.YtbddggdbhfmlnaaPieceP
namespace Go.Proofs.Ytbddggdbhfmlnaa
open Go.RowKit Go.Mp

/-- What is open when i of the pieces have come. -/
def openK (id : Int) (data : ByteArray) (most i : Nat) : PL := if 0 < i ∧ i < manyK data most then [(id, (data.extract 0 (atK data most i), (manyK data most : Int) - (i : Int)))] else []
theorem openK_len (id : Int) (data : ByteArray) (most i : Nat) : (openK id data most i).length ≤ 1 := by unfold openK; split <;> simp
theorem openK_small (id : Int) (data : ByteArray) (most i : Nat) (h : data.size ≤ 262144) : ∀ p ∈ openK id data most i, p.2.1.size ≤ 262144 := by
  unfold openK
  split
  · intro p hp
    simp only [List.mem_singleton] at hp
    subst hp
    simp only [ByteArray.size_extract]
    omega
  · simp
theorem openK_get (id x : Int) (data : ByteArray) (most i : Nat) : Mp.get (openK id data most i) x = if (0 < i ∧ i < manyK data most) ∧ id = x then some (data.extract 0 (atK data most i), (manyK data most : Int) - (i : Int)) else none := by
  unfold openK
  by_cases h : 0 < i ∧ i < manyK data most
  · rw [if_pos h]
    by_cases e : id = x
    · rw [if_pos ⟨h, e⟩]; simp [Mp.get, e]
    · rw [if_neg (fun q => e q.2)]; simp [Mp.get, e]
  · rw [if_neg h, if_neg (fun q => h q.1)]; rfl
theorem join_part (data : ByteArray) (most i : Nat) : data.extract 0 (atK data most i) ++ partK data most i = data.extract 0 (atK data most (i + 1)) := by
  obtain ⟨m1, m2, _⟩ := at_mono data most i
  rw [part_eq]
  apply ByteArray.ext
  simp only [ByteArray.data_append, ByteArray.data_extract]
  rw [Array.extract_append_extract]
  congr 1
  omega
theorem zero_part (data : ByteArray) (most : Nat) : data.extract 0 (atK data most 0) = ByteArray.empty := by
  simp [atK]

theorem feed_piece (id : Int) (data : ByteArray) (most i : Nat) (h1 : 1 ≤ id) (h2 : id ≤ 2147483647) (hm : 1 ≤ most) (hm2 : most ≤ 4096) (hd : data.size ≤ 200000) (hi : i < manyK data most) :
    feedF (openK id data most i) id (decide (i = 0)) ((manyK data most : Int) - (i : Int)) (partK data most i) =
      (if i + 1 = manyK data most then data else ByteArray.empty, decide (i + 1 = manyK data most), 0, openK id data most (i + 1)) := by
  have hml := many_le data most hm
  have hps := part_size data most i
  obtain ⟨m1, m2, m3⟩ := at_mono data most i
  have hv : validB id ((manyK data most : Int) - (i : Int)) (partK data most i) = true := by
    simp only [validB, decide_eq_true_eq]; omega
  have hend : i + 1 = manyK data most → data.extract 0 (atK data most (i + 1)) = data := by
    intro e; rw [e, at_end data most hm, ByteArray.extract_zero_size]
  unfold feedF
  rw [hv, if_neg (by simp), openK_get]
  by_cases h0 : i = 0
  · subst h0
    have hj : ByteArray.empty ++ partK data most 0 = data.extract 0 (atK data most (0 + 1)) := by rw [← join_part, zero_part]
    rw [if_neg (by omega)]
    simp only [decide_true, Bool.true_eq_false, if_false]
    rw [if_neg (by have := openK_len id data most 0; omega), hj]
    by_cases hl : 0 + 1 = manyK data most
    · rw [if_neg (by omega), if_pos hl, hend hl]
      have e1 : openK id data most 0 = [] := by simp [openK]
      have e2 : openK id data most (0 + 1) = [] := by unfold openK; rw [if_neg (by omega)]
      rw [e1, e2]
      simp [Mp.del, hl]
    · rw [if_pos (by omega), if_neg hl]
      have e1 : openK id data most 0 = [] := by simp [openK]
      have e2 : openK id data most (0 + 1) = [(id, (data.extract 0 (atK data most (0 + 1)), (manyK data most : Int) - ((0 + 1 : Nat) : Int)))] := by unfold openK; rw [if_pos (by omega)]
      rw [e1, e2]
      simp [Mp.put, hl]
  · rw [if_pos ⟨by omega, rfl⟩]
    have hf : decide (i = 0) = false := by simp [h0]
    simp only [hf, Bool.false_eq_true, if_false, ne_eq, not_true_eq_false]
    rw [if_neg (by rw [ByteArray.size_extract]; omega), join_part]
    have e1 : openK id data most i = [(id, (data.extract 0 (atK data most i), (manyK data most : Int) - (i : Int)))] := by unfold openK; rw [if_pos (by omega)]
    by_cases hl : i + 1 = manyK data most
    · rw [if_neg (by omega), if_pos hl, hend hl, e1]
      have e2 : openK id data most (i + 1) = [] := by unfold openK; rw [if_neg (by omega)]
      rw [e2]
      simp [Mp.del, hl]
    · rw [if_pos (by omega), if_neg hl, e1]
      have e2 : openK id data most (i + 1) = [(id, (data.extract 0 (atK data most (i + 1)), (manyK data most : Int) - ((i + 1 : Nat) : Int)))] := by unfold openK; rw [if_pos (by omega)]
      rw [e2]
      simp [Mp.put, hl]
      omega

/-- A fragment that is not the expected one. -/
theorem feed_wrong (data : ByteArray) (most k : Nat) (id left : Int) (fi : Bool) (od : ByteArray) (hk : k < manyK data most) (hv : validB id left od = true)
    (hw : (id = 5 ∧ 0 < k ∧ (fi = true ∨ left ≠ (manyK data most : Int) - (k : Int))) ∨ ((id ≠ 5 ∨ k = 0) ∧ fi = false)) :
    feedF (openK 5 data most k) id fi left od = (ByteArray.empty, false, 6, openK 5 data most k) := by
  unfold feedF
  rw [hv, if_neg (by simp), openK_get]
  rcases hw with ⟨h1, h2, h3⟩ | ⟨h1, h2⟩
  · rw [if_pos ⟨⟨h2, hk⟩, h1.symm⟩]
    simp only
    rcases h3 with h3 | h3
    · rw [if_pos h3]
    · cases fi with
      | true => simp
      | false => simp [h3]
  · rw [if_neg (by omega)]
    simp only
    rw [if_pos h2]
end Go.Proofs.Ytbddggdbhfmlnaa
