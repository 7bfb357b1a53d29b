/- bytes: a number in size bytes, big-endian. value: the number that some bytes form, on both sides. cutWord. word: a string with its length. strings.CutPrefix. -/
import Derived.Test.YtnkkbkceapcahaaDoorTail1
import Derived.LoopTactic
import Derived.Lib.SlBytesRow
import Derived.Deep.OwnRows
import Derived.Lib.Hide
namespace Go.Proofs.YtnkkbkceapcahaaDoor
open Go.RowKit Go.Rt
theorem info5b : (Tryd.prog.info? 5).map (fun i => (i.zero, i.size, i.bytes)) = some (some (.int .u8 0), 1, 1) := by kernel_rfl
def numL (n k : Nat) : List Nat := (List.range k).map fun j => n / 2 ^ (8 * (k - 1 - j)) % 256
def numF (n k : Nat) : ByteArray := ⟨((numL n k).map UInt8.ofNat).toArray⟩
def rowN (n k m : Nat) (j : Nat) : Value := if k - 1 - j < m then .int .u8 ((n : Int) / 2 ^ (8 * (k - 1 - j)) % 256) else .int .u8 0
theorem rowN_next (n k m j : Nat) (hm : m < k) (hj : j < k) : (if j = k - 1 - m then Value.int .u8 ((n : Int) / 2 ^ (8 * m) % 256) else rowN n k m j) = rowN n k (m + 1) j := by
  unfold rowN
  by_cases e : j = k - 1 - m
  · rw [if_pos e, if_pos (by omega), show k - 1 - j = m by omega]
  · rw [if_neg e]
    by_cases h : k - 1 - j < m
    · rw [if_pos h, if_pos (by omega)]
    · rw [if_neg h, if_neg (by omega)]
theorem num_conv {n k g : Nat} {W : World} (r : W.rowIs g 5 k (rowN n k k)) : (convert 81 9 (.slice (some ⟨g, 0, none⟩) k k)).run Tryd.prog W = .ok (.string (numF n k)) W := by
  have hlen : (numL n k).length = k := by simp [numL]
  have q := run_convert_bytes_back (P := Tryd.prog) W 81 9 5 ⟨g, 0, none⟩ k ((numL n k).map UInt8.ofNat) und29 und5 und9 ?_
  · rw [List.length_map, hlen] at q; exact q
  · intro j hj
    rw [List.length_map, hlen] at hj
    have e : (⟨g, 0, none⟩ : Addr).add j = ⟨g, j, none⟩ := by unfold Addr.add; split <;> simp_all
    rw [e, r.cell hj, List.getElem_map]
    have e2 : (numL n k)[j]'(by rw [hlen]; exact hj) = n / 2 ^ (8 * (k - 1 - j)) % 256 := by simp [numL]
    rw [e2, UInt8.toNat_ofNat', Nat.mod_eq_of_lt (Nat.mod_lt _ (by omega))]
    unfold rowN
    rw [if_pos (by omega)]
    rw [Int.natCast_emod, Int.natCast_ediv, Int.natCast_pow]
    rfl
set_option maxHeartbeats 400000 in
theorem bytes_any (n k : Nat) (hk : k ≤ 8) (w : World) :
    Calls Tryd.prog 37 #[.int .u64 n, .int .i64 k] w fun e w' => e = .returned (.string (numF n k)) ∧ Below w.heap.size w w' := by
  have hmk := run_make_row' (P := Tryd.prog) 81 5 (.int .u8 0) 1 und29 info5b rfl .i64 .i64 k (by omega) (by omega) w
  have r0 := World.rowIs_made w (.int .u8 0) k 5
  have b0 := (Below.refl w.heap.size w).alloc (Nat.le_refl _) (.cells (madeCells #[.int .u8 0] k) 5)
  obtain ⟨W1, hW1⟩ : ∃ W1, W1 = w.alloc (.cells (madeCells #[.int .u8 0] k) 5) := ⟨_, rfl⟩
  rw [← hW1] at hmk r0 b0
  have R0 := Lib.hid r0
  have B0 := Lib.hid b0
  clear hW1 r0 b0
  go_enter Tryd.func37, Tryd.ntmps37
  go_wp2
  clear hmk
  go_loopw [11] (fun i wr => ∃ m : Nat, m ≤ k ∧ i = .int .i64 m ∧ wr.rowIs w.heap.size 5 k (rowN n k m) ∧ Below w.heap.size w wr) (fun i _ => k - (intOf i).toNat)
  case atStart => exact ⟨0, Nat.zero_le _, rfl, R0.out.congr (fun i _ => by simp [rowN]), B0.out⟩
  case round =>
    obtain ⟨m, hm, rfl, r, bb⟩ := hrel
    by_cases hlt : m < k
    · have rc := r.cell (i := k - 1 - m) (by omega)
      have rf := r.frozen (k - 1 - m)
      have hw1 : IntKind.i64.wrap ((k : Int) - 1 - m) = ((k - 1 - m : Nat) : Int) := by rw [IntKind.wrap_i64] <;> omega
      have r2 := (r.set (k - 1 - m) (.int .u8 ((n : Int) / 2 ^ (8 * m) % 256))).congr (fun j hj => rowN_next n k m j hlt hj)
      have R2 := Lib.hid r2
      have B2 := Lib.hid (bb.setCell (p := ⟨w.heap.size, k - 1 - m, none⟩) (Nat.le_refl _) (.int .u8 ((n : Int) / 2 ^ (8 * m) % 256)))
      clear r2 bb
      go_wp2
      go_roundw
      case rel => exact ⟨m + 1, by omega, by go_num, R2.out, B2.out⟩
      case measure => simp [intOf]; omega
    · obtain rfl : m = k := by omega
      have hcv := num_conv r
      have BB := Lib.hid bb
      clear bb r
      go_wp2
      go_ret
      exact ⟨rfl, BB.out⟩
end Go.Proofs.YtnkkbkceapcahaaDoor
namespace Go.Proofs.YtnkkbkceapcahaaDoor
open Go.RowKit

def valF (b : ByteArray) : Nat → Nat
  | 0 => 0
  | k + 1 => 256 * valF b k + (b.data.getD k 0).toNat

theorem or_next (x c : Nat) (hx : x ≤ 72057594037927935) (hc : c < 256) : bits .or .u64 ((x : Int) * 256) (c : Int) = 256 * (x : Int) + c := by
  rw [show (x : Int) * 256 = ((x * 256 : Nat) : Int) by omega, u64_or_nat _ _ (by omega) (by omega)]
  have := Nat.two_pow_add_eq_or_of_lt (i := 8) (b := c) (by omega) x
  rw [show x * 256 = 2 ^ 8 * x by omega, ← this]
  omega
theorem valF_lt (b : ByteArray) (k : Nat) : valF b k < 256 ^ k := by
  induction k with
  | zero => simp [valF]
  | succ k ih =>
    have := (b.data.getD k 0).toNat_lt
    simp only [valF, Nat.pow_succ]
    omega
theorem valF_at (b : ByteArray) (k : Nat) (hk : k < b.size) : valF b (k + 1) = 256 * valF b k + b[k].toNat := by
  have e : b.data.getD k 0 = b[k] := by
    have hd : k < b.data.size := hk
    unfold Array.getD
    rw [dif_pos hd]
    rfl
  rw [valF, e]

set_option maxHeartbeats 400000 in
theorem rvalue_any (b : ByteArray) (hb : b.size ≤ 8) (w : World) :
    Calls Tryd.prog 47 #[.string b] w fun e w' => e = .returned (.int .u64 (valF b b.size)) ∧ w = w' := by
  go_enter Tryd.func47, Tryd.ntmps47
  go_wp2
  go_loop [3, 4] (fun s i => ∃ k : Nat, k ≤ b.size ∧ i = .int .i64 k ∧ s = .int .u64 (valF b k)) (fun _ i => b.size - (intOf i).toNat)
  case atStart => exact ⟨0, Nat.zero_le _, rfl, rfl⟩
  case round =>
    obtain ⟨k, hk, rfl, rfl⟩ := hrel
    by_cases hlt : k < b.size
    · have HS := Lib.hid (valF_at b k hlt)
      have hbd : valF b k ≤ 72057594037927935 := by
        have := valF_lt b k
        have : (256 : Nat) ^ k ≤ 256 ^ 7 := Nat.pow_le_pow_right (by omega) (by omega)
        omega
      have hcl : b[k].toNat < 256 := b[k].toNat_lt
      obtain ⟨x, hx⟩ : ∃ x, x = valF b k := ⟨_, rfl⟩
      have HS2 := HS.out
      rw [← hx] at hbd HS2 ⊢
      have HS3 := Lib.hid HS2
      clear HS2 HS hx
      go_wp2
      go_round
      case rel => exact ⟨k + 1, by omega, by go_num, by rw [HS3.out]; simp⟩
      case measure => simp [intOf]; omega
    · obtain rfl : k = b.size := by omega
      go_wp2
      go_ret
      exact ⟨rfl, rfl⟩

set_option maxHeartbeats 400000 in
theorem value_any (b : ByteArray) (hb : b.size ≤ 8) (w : World) :
    Calls Tryd.prog 59 #[.string b] w fun e w' => e = .returned (.int .u64 (valF b b.size)) ∧ w = w' := by
  go_enter Tryd.func59, Tryd.ntmps59
  go_wp2
  go_loop [3, 7] (fun s i => ∃ k : Nat, k ≤ b.size ∧ i = .int .i64 k ∧ s = .int .u64 (valF b k)) (fun _ i => b.size - (intOf i).toNat)
  case atStart => exact ⟨0, Nat.zero_le _, rfl, rfl⟩
  case round =>
    obtain ⟨k, hk, rfl, rfl⟩ := hrel
    by_cases hlt : k < b.size
    · have HS := Lib.hid (valF_at b k hlt)
      have hbd : valF b k ≤ 72057594037927935 := by
        have := valF_lt b k
        have : (256 : Nat) ^ k ≤ 256 ^ 7 := Nat.pow_le_pow_right (by omega) (by omega)
        omega
      have hcl : b[k].toNat < 256 := b[k].toNat_lt
      obtain ⟨x, hx⟩ : ∃ x, x = valF b k := ⟨_, rfl⟩
      have HS2 := HS.out
      rw [← hx] at hbd HS2 ⊢
      have HS3 := Lib.hid HS2
      clear HS2 HS hx
      go_wp2
      go_round
      case rel => exact ⟨k + 1, by omega, by go_num, by rw [HS3.out]; simp [or_next x _ hbd hcl]⟩
      case measure => simp [intOf]; omega
    · obtain rfl : k = b.size := by omega
      go_wp2
      go_ret
      exact ⟨rfl, rfl⟩
end Go.Proofs.YtnkkbkceapcahaaDoor
namespace Go.Proofs.YtnkkbkceapcahaaDoor
open Go.RowKit

theorem cut_none (b : ByteArray) (hb : b.size = 0) (w : World) :
    Calls Tryd.prog 58 #[.string b] w fun e w' => e = .returned (.tuple #[.string ByteArray.empty, .string ByteArray.empty, .bool false]) ∧ w = w' := by
  have hs : (b.toList == (ByteArray.mk #[]).toList) = true := by
    have : b = ByteArray.mk #[] := by
      apply ByteArray.ext
      exact Array.eq_empty_of_size_eq_zero hb
    subst this; simp
  have hb' : ((b.size : Int) == 0) = true := by simp [hb]
  go_enter Tryd.func58, Tryd.ntmps58
  go_wp2
  go_ret3
  exact ⟨rfl, rfl⟩
theorem cut_short (b : ByteArray) (h0 : 0 < b.size) (h1 : b.size < 1 + b[0].toNat) (w : World) :
    Calls Tryd.prog 58 #[.string b] w fun e w' => e = .returned (.tuple #[.string ByteArray.empty, .string ByteArray.empty, .bool false]) ∧ w = w' := by
  have hb' : ((b.size : Int) == 0) = false := by rw [beq_eq_false_iff_ne]; omega
  have hcl : b[0].toNat < 256 := b[0].toNat_lt
  have hlt : (b.size : Int) < 1 + (b[0].toNat : Int) := by omega
  go_enter Tryd.func58, Tryd.ntmps58
  go_wp2
  go_ret3
  exact ⟨rfl, rfl⟩
theorem cut_some (b : ByteArray) (h0 : 0 < b.size) (h1 : 1 + b[0].toNat ≤ b.size) (hz : b.size ≤ 1000000) (w : World) :
    Calls Tryd.prog 58 #[.string b] w fun e w' => e = .returned (.tuple #[.string (b.extract 1 (1 + b[0].toNat)), .string (b.extract (1 + b[0].toNat) b.size), .bool true]) ∧ ∃ n, w' = w.drewN n := by
  have hb' : ((b.size : Int) == 0) = false := by rw [beq_eq_false_iff_ne]; omega
  have hcl : b[0].toNat < 256 := b[0].toNat_lt
  have hlt : ¬ (b.size : Int) < 1 + (b[0].toNat : Int) := by omega
  go_enter Tryd.func58, Tryd.ntmps58
  go_wp2
  go_quiet (fail)
  go_wp2
  go_ret3
  exact ⟨rfl, _, rfl⟩
end Go.Proofs.YtnkkbkceapcahaaDoor
namespace Go.Proofs.YtnkkbkceapcahaaDoor
open Go.RowKit Go.Rt
theorem numF_size (n k : Nat) : (numF n k).size = k := by simp [numF, numL, ByteArray.size]
def lenF (s : ByteArray) : ByteArray := numF s.size 1 ++ s
theorem word_any (s : ByteArray) (hs : s.size ≤ 1000000) (w : World) :
    Calls Tryd.prog 35 #[.string s] w fun e w' => e = .returned (.string (lenF s)) ∧ Below w.heap.size w w' := by
  have z1 := numF_size s.size 1
  have C := Lib.hid (bytes_any s.size 1 (by omega) w)
  obtain ⟨q, hq⟩ : ∃ q, q = numF s.size 1 := ⟨_, rfl⟩
  have HQ : Hid (lenF s = q ++ s) := by refine Lib.hid ?_; rw [hq]; rfl
  rw [← hq] at z1
  have C2 : Hid (Calls Tryd.prog 37 #[.int .u64 (s.size : Int), .int .i64 1] w fun e w' => e = .returned (.string q) ∧ Below w.heap.size w w') := by rw [hq]; exact C
  clear C hq
  rw [HQ.out]
  go_enter Tryd.func35, Tryd.ntmps35
  go_wp2_with (go_at_call 37; refine C2.out.mono ?_; rintro e w1 ⟨rfl, b1⟩; have B1 := Lib.hid b1; clear b1)
  go_ret
  exact ⟨rfl, B1.out⟩
end Go.Proofs.YtnkkbkceapcahaaDoor
namespace Go.Proofs.YtnkkbkceapcahaaDoor
open Go.RowKit Go.Rt
def preF (s p : ByteArray) : Bool := decide (p.size ≤ s.size) && ((s.extract 0 p.size).toList == p.toList)
theorem has_long (s p : ByteArray) (h : s.size < p.size) (w : World) :
    Calls Tryd.prog 72 #[.string s, .string p] w fun e w' => e = .returned (.bool false) ∧ w = w' := by
  have h1 : decide ((p.size : Int) ≤ s.size) = false := by simp; omega
  have h3 : ¬ (p.size ≤ s.size) := by omega
  go_enter Tryd.func72, Tryd.ntmps72
  go_wp2
  go_ret
  exact ⟨rfl, rfl⟩
theorem has_short (s p : ByteArray) (h : p.size ≤ s.size) (w : World) :
    Calls Tryd.prog 72 #[.string s, .string p] w fun e w' => e = .returned (.bool ((s.extract 0 p.size).toList == p.toList)) ∧ w = w' := by
  have h1 : decide ((p.size : Int) ≤ s.size) = true := by simp; omega
  go_enter Tryd.func72, Tryd.ntmps72
  go_wp2
  go_ret
  exact ⟨rfl, rfl⟩
theorem has_any (s p : ByteArray) (w : World) :
    Calls Tryd.prog 72 #[.string s, .string p] w fun e w' => e = .returned (.bool (preF s p)) ∧ w = w' := by
  unfold preF
  by_cases h : p.size ≤ s.size
  · rw [decide_eq_true h, Bool.true_and]; exact has_short s p h w
  · rw [decide_eq_false h, Bool.false_and]; exact has_long s p (by omega) w
theorem cutp_no (s p : ByteArray) (h : preF s p = false) (w : World) :
    Calls Tryd.prog 66 #[.string s, .string p] w fun e w' => e = .returned (.tuple #[.string s, .bool false]) ∧ w = w' := by
  have C := has_any s p w
  rw [h] at C
  have HC := Lib.hid C
  clear C h
  go_enter Tryd.func66, Tryd.ntmps66
  go_wp2_with (go_at_call 72; refine HC.out.mono ?_; rintro e w' ⟨rfl, rfl⟩)
  go_ret2
  exact ⟨rfl, rfl⟩
theorem cutp_yes (s p : ByteArray) (h : preF s p = true) (w : World) :
    Calls Tryd.prog 66 #[.string s, .string p] w fun e w' => e = .returned (.tuple #[.string (s.extract p.size s.size), .bool true]) ∧ w = w' := by
  have C := has_any s p w
  rw [h] at C
  have HC := Lib.hid C
  have hl : p.size ≤ s.size := by
    unfold preF at h
    rw [Bool.and_eq_true] at h
    exact of_decide_eq_true h.1
  clear C h
  go_enter Tryd.func66, Tryd.ntmps66
  go_wp2_with (go_at_call 72; refine HC.out.mono ?_; rintro e w' ⟨rfl, rfl⟩)
  go_ret2
  exact ⟨rfl, rfl⟩
end Go.Proofs.YtnkkbkceapcahaaDoor
