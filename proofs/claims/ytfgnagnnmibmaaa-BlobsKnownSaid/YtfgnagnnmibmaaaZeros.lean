/- string(make([]byte, 2049)); calls that are refused. -/
import Derived.Test.YtfgnagnnmibmaaaStart
import Derived.Lib.SlBytesRow
import Derived.Deep.OwnRows
namespace Go.Proofs.Ytfgnagnnmibmaaa
open Go.RowKit Go.Mp Go.Rw

theorem u51 : Try.prog.underlying 51 = some (.slice 5) := by kernel_rfl
theorem u5 : Try.prog.underlying 5 = some (.int .u8) := by kernel_rfl
def zeros : ByteArray := ⟨Array.replicate 2049 0⟩
theorem zeros_size : zeros.size = 2049 := by simp [zeros, ByteArray.size]
theorem info5 : (Try.prog.info? 5).map (fun i => (i.zero, i.size, i.bytes)) = some (some (.int .u8 0), 1, 1) := by kernel_rfl
theorem zeros_at (i : Nat) (hi : i < zeros.size) : zeros[i] = 0 := by
  have h2 : i < (Array.replicate 2049 (0 : UInt8)).size := by rw [zeros_size] at hi; simpa using hi
  have : (Array.replicate 2049 (0 : UInt8))[i]'h2 = 0 := by simp
  exact this
theorem make_zeros (w : World) : ∃ W1, (Instr.makeSlice 51 (.int .i64 2049) (.int .i64 2049)).run Try.prog w = .ok (.slice (some ⟨w.heap.size, 0, none⟩) 2049 2049) W1 ∧
    (convert 51 9 (.slice (some ⟨w.heap.size, 0, none⟩) 2049 2049)).run Try.prog W1 = .ok (.string zeros) W1 ∧ Below w.heap.size w W1 := by
  have h0 := run_make_row' (P := Try.prog) 51 5 (.int .u8 0) 1 u51 info5 rfl .i64 .i64 2049 (by omega) (by omega) w
  refine ⟨_, h0, ?_, (Below.refl _ w).alloc (Nat.le_refl _) _⟩
  have h := Go.Lib.run_convert_whole (P := Try.prog) (w.alloc (.cells (madeCells #[.int .u8 0] 2049) 5)) 51 5 9 u51 u5 u9 w.heap.size 0 zeros (by
    intro i hi
    have hz := zeros_at i hi
    rw [zeros_size] at hi
    have hn := World.rowIs_made w (.int .u8 0) 2049 5
    rw [Nat.zero_add, hz]
    exact World.rowIs.cell hn hi) 2049
  rw [zeros_size] at h
  exact h

theorem ch_none {L : List Blob} {g : Int} {n : Nat} (h : Inv L g n) (id d : Int) (hid : id < 1) : chF L id d = (4, L) := by
  rcases ch_cases L id d with ⟨_, _, e0⟩ | ⟨k, hk, hki, _⟩
  · exact e0
  · have := h.each _ (List.getElem_mem hk)
    omega
theorem put_zeros (L : List Blob) (g : Int) : putF L g zeros = (0, 3, L, g) := by
  rcases put_cases L g zeros with ⟨_, e⟩ | ⟨h, _⟩ | ⟨h, _⟩
  · exact e
  · rw [zeros_size] at h; omega
  · rw [zeros_size] at h; omega

section
variable {n0 B m1 m2 base R : Nat} {L L2 : List Blob} {g g2 : Int} {n : Nat}
theorem refuse_put (w : World) (h : Two n0 w B m1 m2 base R L g L2 g2) (hi : Inv L g n) (hn : n ≤ 1000000) :
    Calls Try.prog 13 #[.pointer (some ⟨B, 0, none⟩), .string zeros] w fun e w' => e = .returned (.tuple #[.int .i64 0, .int .i64 3]) ∧ Two n0 w' B m1 m2 base R L g L2 g2 ∧ Fr n0 w w' := by
  have q : zeros.size ≤ 9223372036854775807 := by rw [zeros_size]; omega
  have p := (real_put w h.real hi hn zeros q).mono fun e w' ⟨h1, h2, h3⟩ => (⟨h1, (h.left h2 h3).1, (h.left h2 h3).2⟩ : e = Ending.returned (.tuple #[.int .i64 (putF L g zeros).1, .int .i64 (putF L g zeros).2.1]) ∧ Two n0 w' B m1 m2 base R (putF L g zeros).2.2.1 (putF L g zeros).2.2.2 L2 g2 ∧ Fr n0 w w')
  rw [put_zeros] at p
  exact p
theorem refuse_keep (w : World) (h : Two n0 w B m1 m2 base R L g L2 g2) (hi : Inv L g n) (hn : n ≤ 1000000) (id : Int) (hid : id < 1) :
    Calls Try.prog 14 #[.pointer (some ⟨B, 0, none⟩), .int .i64 id] w fun e w' => e = .returned (.int .i64 4) ∧ Two n0 w' B m1 m2 base R L g L2 g2 ∧ Fr n0 w w' := by
  have p := (real_keep w h.real hi hn id).mono fun e w' ⟨h1, h2, h3⟩ => (⟨h1, (h.left h2 h3).1, (h.left h2 h3).2⟩ : e = Ending.returned (.int .i64 (chF L id 1).1) ∧ Two n0 w' B m1 m2 base R (chF L id 1).2 g L2 g2 ∧ Fr n0 w w')
  rw [ch_none hi id 1 hid] at p
  exact p
theorem refuse_drop (w : World) (h : Two n0 w B m1 m2 base R L g L2 g2) (hi : Inv L g n) (hn : n ≤ 1000000) (id : Int) (hid : id < 1) :
    Calls Try.prog 17 #[.pointer (some ⟨B, 0, none⟩), .int .i64 id] w fun e w' => e = .returned (.int .i64 4) ∧ Two n0 w' B m1 m2 base R L g L2 g2 ∧ Fr n0 w w' := by
  have p := (real_drop w h.real hi hn id).mono fun e w' ⟨h1, h2, h3⟩ => (⟨h1, (h.left h2 h3).1, (h.left h2 h3).2⟩ : e = Ending.returned (.int .i64 (chF L id (-1)).1) ∧ Two n0 w' B m1 m2 base R (chF L id (-1)).2 g L2 g2 ∧ Fr n0 w w')
  rw [ch_none hi id (-1) hid] at p
  exact p
end
end Go.Proofs.Ytfgnagnnmibmaaa
