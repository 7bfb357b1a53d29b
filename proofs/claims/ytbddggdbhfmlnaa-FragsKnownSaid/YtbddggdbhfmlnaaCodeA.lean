/- The small functions of the encoding: number, read, eight. -/
import Derived.Test.YtbddggdbhfmlnaaFeeds
import Derived.IntWalk
import Derived.Laws.BitsAllLaws
namespace Go.Proofs.Ytbddggdbhfmlnaa
open Go.RowKit Go.Rt Go.Rw Go.Mp Go.Lib

def bC (b : UInt8) : List Value := [.int .u8 (b.toNat : Int)]
theorem bC_len (b : UInt8) : (bC b).length = 1 := rfl
theorem bC_one (b : UInt8) : ∀ u ∈ bC b, u.oneCell' = true := by simp [bC, Value.oneCell']

/-- The byte of n that stands 8 * (7 - k) bits up. -/
def byK (n k : Nat) : UInt8 := UInt8.ofNat (n / 2 ^ (56 - 8 * k))
def be8 (n : Nat) : List UInt8 := (List.range 8).map (byK n)
theorem be8_len (n : Nat) : (be8 n).length = 8 := by simp [be8]
theorem be8_take (n k : Nat) (hk : k < 8) : (be8 n).take (k + 1) = (be8 n).take k ++ [byK n k] := by
  rw [List.take_succ_eq_append_getElem (by rw [be8_len]; exact hk)]
  simp [be8]

theorem byK_val (n k : Nat) : ((byK n k).toNat : Int) = (n : Int) / 2 ^ (56 - 8 * k) % 256 := by
  unfold byK
  rw [UInt8.toNat_ofNat']
  simp
theorem below_grow {base : Nat} {w wr W2 : World} {o : Obj} {v : Value} {bs : List UInt8} {e m : Nat} {c : UInt8 → List Value} (b : Below base w wr) (hz : base ≤ wr.heap.size) (s : Sl wr base e m c v bs) (hg : (wr.alloc o).grownBy W2 v.ownBlock) : Below base w W2 :=
  b.trans (((Below.refl base wr).alloc hz o).grown hg (by simp; omega) (fun r hr => (s.lt r hr).1))

set_option maxRecDepth 100000 in
set_option maxHeartbeats 1000000 in
theorem number_any {base : Nat} (v : Value) (bs : List UInt8) (n : Nat) (w : World) (h : Sl w base 5 1 bC v bs) (hb : base ≤ w.heap.size) (hl : bs.length ≤ 1000) (_ : n < 18446744073709551616) :
    Calls Try.prog 28 #[v, .int .u64 n] w fun e w' => ∃ g cap, e = .returned (.slice (some ⟨g, 0, none⟩) (bs.length + 8) cap) ∧ Sl w' base 5 1 bC (.slice (some ⟨g, 0, none⟩) (bs.length + 8) cap) (bs ++ be8 n) ∧ Below base w w' := by
  obtain ⟨sa, cap, rfl⟩ := (h.at bC_len).len.2
  go_enter Try.func28, Try.ntmps28
  go_wp2
  go_loopw [0, 5] (fun s0 s5 wr => ∃ k : Nat, k ≤ 8 ∧ s5 = .int .i64 (56 - 8 * (k : Int)) ∧ Sl wr base 5 1 bC s0 (bs ++ (be8 n).take k) ∧ Below base w wr) (fun _ s _ => (intOf s + 8).toNat)
  case atStart => exact ⟨0, by omega, rfl, by simpa using h, Below.refl _ _⟩
  case round =>
    obtain ⟨k, hk, rfl, s1, b1⟩ := hrel
    have hlen : (bs ++ (be8 n).take k).length = bs.length + k := by simp [be8_len]; omega
    obtain ⟨sa', cap', hv⟩ := (s1.at bC_len).len.2
    rw [hlen] at hv
    subst hv
    by_cases hlt : k < 8
    · have hs0 : (0 : Int) ≤ 56 - 8 * (k : Int) := by omega
      have hs1 : 56 - 8 * (k : Int) ≤ 56 := by omega
      have hs2 : 8 * (k : Int) ≤ 56 := by omega
      have hw0 : base ≤ wr.heap.size := by have := b1.size; omega
      obtain ⟨g, cap2, W2, hrun, s2, hgrow, hwhere⟩ := Sl.push (P := Try.prog) (t := 62) (ty := 62) (s1.only (Only.alloc [] wr (.cells (bC (byK n k)).toArray 5)) (fun g _ => by simp)) u62 info5 rfl (by omega) bC_len bC_one (byK n k) (World.alloc_heap_new wr _) (by rw [hlen]; omega) (by rw [hlen]; omega) (by simp; omega) 1
      rw [hlen] at hrun s2
      rw [List.append_assoc, ← be8_take n k hlt] at s2
      have HS2 := Lib.hid s2
      have HB2 := Lib.hid (below_grow b1 hw0 s1 hgrow)
      simp only [bC, byK_val] at hrun
      have HRN := Lib.hid hrun
      clear hrun s2 hgrow hwhere s1 b1 hlen h
      go_wp2_with (at_builtin; refine wpList_append_run rfl _ _ 62 62 rfl rfl rfl HRN.out ?_)
      go_roundw
      case rel => exact ⟨k + 1, by omega, by rw [show (56 - 8 * (k : Int) - 8) = 56 - 8 * ((k + 1 : Nat) : Int) by omega], HS2.out, HB2.out⟩
      case measure => simp [intOf]; omega
    · obtain rfl : k = 8 := by omega
      rw [List.take_of_length_le (by rw [be8_len]; omega)] at s1
      obtain ⟨g, rfl⟩ : ∃ g, sa' = some ⟨g, 0, none⟩ := by
        rcases s1.form with ⟨e, h0⟩ | ⟨g0, cap0, e, _⟩
        · have := congrArg List.length h0; simp [be8_len] at this
        · simp at e; exact ⟨g0, e.1⟩
      clear hlen h
      go_wp2
      go_ret
      exact ⟨_, _, rfl, s1, b1⟩

/-- The number that the first k bytes from a place on form. -/
def valK (s : ByteArray) (o : Nat) : Nat → Nat
  | 0 => 0
  | k + 1 => valK s o k * 256 + (s.data.getD (o + k) 0).toNat
theorem valK_lt (s : ByteArray) (o k : Nat) : valK s o k < 256 ^ k := by
  induction k with
  | zero => simp [valK]
  | succ k ih =>
    have := (s.data.getD (o + k) 0).toNat_lt
    rw [valK, Nat.pow_succ]; omega

theorem or_step (v b : Nat) (hv : v < 72057594037927936) (hb : b < 256) : bits .or .u64 (IntKind.u64.wrap ((v : Int) * 256)) (IntKind.u64.wrap (b : Int)) = ((v * 256 + b : Nat) : Int) := by
  have e1 : IntKind.u64.wrap ((v : Int) * 256) = ((v * 256 : Nat) : Int) := by rw [IntKind.wrap_u64]; omega
  have e2 : IntKind.u64.wrap (b : Int) = (b : Int) := by rw [IntKind.wrap_u64]; omega
  rw [e1, e2, u64_or_nat _ _ (by omega) (by omega)]
  have := Nat.two_pow_add_eq_or_of_lt (i := 8) (b := b) (by omega) v
  rw [show v * 256 = 2 ^ 8 * v by omega, ← this]
theorem getD_byte (s : ByteArray) (k : Nat) (h : k < s.size) : (s.data.getD (0 + k) 0).toNat = s[k].toNat := by
  rw [Nat.zero_add]
  have hd : k < s.data.size := h
  unfold Array.getD
  rw [dif_pos hd]
  rfl
theorem pow_le (k : Nat) (h : k < 8) : 256 ^ k ≤ 72057594037927936 := by
  have := Nat.pow_le_pow_right (n := 256) (by omega) (show k ≤ 7 by omega)
  simpa using this

set_option maxRecDepth 100000 in
set_option maxHeartbeats 1000000 in
theorem read_any (s : ByteArray) (w : World) (hs : 8 ≤ s.size) (hs2 : s.size ≤ 9223372036854775807) :
    Calls Try.prog 30 #[.string s] w fun e w' => e = .returned (.int .u64 (valK s 0 8)) ∧ w = w' := by
  go_enter Try.func30, Try.ntmps30
  go_wp2
  go_loop [3, 4] (fun n i => ∃ k : Nat, k ≤ 8 ∧ i = .int .i64 k ∧ n = .int .u64 (valK s 0 k)) (fun _ i => 8 - (intOf i).toNat)
  case atStart => exact ⟨0, by omega, rfl, rfl⟩
  case round =>
    obtain ⟨k, hk, rfl, rfl⟩ := hrel
    by_cases hlt : k < 8
    · have hlt' : (k : Int) < s.size := by omega
      have hq := or_step (valK s 0 k) s[k].toNat (by have := valK_lt s 0 k; have := pow_le k hlt; omega) s[k].toNat_lt
      have HQ := Lib.hid hq
      have hg := getD_byte s k (by omega)
      have HG := Lib.hid hg
      clear hq hg
      go_wp2
      go_round
      case rel => exact ⟨k + 1, by omega, by go_num, by rw [HQ.out, valK, HG.out]⟩
      case measure => simp [intOf]; omega
    · obtain rfl : k = 8 := by omega
      go_wp2
      go_ret
      exact ⟨rfl, rfl⟩

/-- eight, as far as it has come: the last k bytes are there. -/
def eiK (n k : Nat) : List UInt8 := (List.range 8).map fun j => if 8 - k ≤ j then byK n j else 0
theorem eiK_len (n k : Nat) : (eiK n k).length = 8 := by simp [eiK]
theorem eiK_get (n k j : Nat) (h : j < (eiK n k).length) : (eiK n k)[j] = if 8 - k ≤ j then byK n j else 0 := by simp [eiK]
theorem eiK_end (n : Nat) : eiK n 8 = be8 n := by simp [eiK, be8]
theorem eiK_set (n k : Nat) (hk : k < 8) : (eiK n k).set (7 - k) (byK n (7 - k)) = eiK n (k + 1) := by
  apply List.ext_getElem
  · simp [eiK_len]
  · intro j h1 h2
    rw [List.getElem_set]
    split
    · rename_i e; subst e; rw [eiK_get, if_pos (by omega)]
    · rename_i e
      have hj : j < 8 := by simpa [eiK_len] using h2
      rw [eiK_get, eiK_get]
      by_cases q : 8 - k ≤ j
      · rw [if_pos q, if_pos (by omega)]
      · rw [if_neg q, if_neg (by omega)]

set_option maxRecDepth 100000 in
set_option maxHeartbeats 1000000 in
theorem eight_any (n : Nat) (w : World) (hn : n ≤ 9223372036854775807) :
    Calls Try.prog 29 #[.int .i64 n] w fun e w' => e = .returned (.slice (some ⟨w.heap.size, 0, none⟩) 8 8) ∧ Sl w' w.heap.size 5 1 bC (.slice (some ⟨w.heap.size, 0, none⟩) 8 8) (be8 n) ∧ Below w.heap.size w w' := by
  have hmk : ∀ w, (Instr.makeSlice 62 (.int .i64 8) (.int .i64 8)).run Try.prog w = .ok (.slice (some ⟨w.heap.size, 0, none⟩) 8 8) (w.alloc (.cells #[.int .u8 0, .int .u8 0, .int .u8 0, .int .u8 0, .int .u8 0, .int .u8 0, .int .u8 0, .int .u8 0] 5)) := fun _ => by kernel_rfl
  have h0 : Sl (w.alloc (.cells #[.int .u8 0, .int .u8 0, .int .u8 0, .int .u8 0, .int .u8 0, .int .u8 0, .int .u8 0, .int .u8 0] 5)) w.heap.size 5 1 bC (.slice (some ⟨w.heap.size, 0, none⟩) 8 8) (eiK n 0) :=
    Sl.lit (base := w.heap.size) (e := 5) (m := 1) (c := bC) w (eiK n 0) bC_len (Nat.le_refl _) (by rw [eiK_len]; unfold maxLen; omega)
  go_enter Try.func29, Try.ntmps29
  go_wp2
  go_loopw [0, 4] (fun s0 s4 wr => ∃ k : Nat, k ≤ 8 ∧ s4 = .int .i64 (7 - (k : Int)) ∧ s0 = .int .i64 ((n : Int) / 256 ^ k) ∧ Sl wr w.heap.size 5 1 bC (.slice (some ⟨w.heap.size, 0, none⟩) 8 8) (eiK n k) ∧ Below w.heap.size w wr) (fun _ s _ => (intOf s + 1).toNat)
  case atStart => exact ⟨0, by omega, rfl, by simp, h0, (Below.refl _ _).alloc (Nat.le_refl _) _⟩
  case round =>
    obtain ⟨k, hk, rfl, rfl, s1, b1⟩ := hrel
    obtain ⟨q, hq⟩ : ∃ q : Int, q = (n : Int) / 256 ^ k := ⟨_, rfl⟩
    have hq0 : 0 ≤ q := by rw [hq]; exact Int.ediv_nonneg (by omega) (by exact_mod_cast Nat.zero_le (256 ^ k))
    have hqn : q ≤ 9223372036854775807 := by
      rw [hq]; have : (n : Int) / 256 ^ k ≤ n := Int.ediv_le_self _ (by omega)
      omega
    by_cases hlt : k < 8
    · have hm0 : (0 : Int) ≤ 7 - (k : Int) := by omega
      have hm1 : (7 - (k : Int)) < 8 := by omega
      have hx : (7 - (k : Int)).toNat = 7 - k := by omega
      have c1 := s1.cell bC_len (7 - k) 0 (by rw [eiK_len]; omega) (by omega)
      have f1 := s1.frozen (7 - k)
      have HS : Hid (Sl (wr.setCell ⟨w.heap.size, 7 - k, none⟩ (.int .u8 (q % 256))) w.heap.size 5 1 bC (.slice (some ⟨w.heap.size, 0, none⟩) 8 8) (eiK n (k + 1))) := by
        refine Lib.hid ?_
        have e1 : ((byK n (7 - k)).toNat : Int) = q % 256 := by
          rw [byK_val, hq, show 56 - 8 * (7 - k) = 8 * k by omega, show (2 : Int) ^ (8 * k) = 256 ^ k by rw [Int.pow_mul]; rfl]
        have s1' : Sl wr w.heap.size 5 1 bC (.slice (some ⟨w.heap.size, 0, none⟩) (eiK n k).length 8) (eiK n k) := by rw [eiK_len]; exact s1
        have := s1'.store bC_len (7 - k) 0 (by rw [eiK_len]; omega) (by omega) (.int .u8 (q % 256)) (byK n (7 - k)) (by simp [bC, e1])
        rw [eiK_set n k hlt, eiK_len] at this
        simpa using this
      have HB : Hid (Below w.heap.size w (wr.setCell ⟨w.heap.size, 7 - k, none⟩ (.int .u8 (q % 256)))) := b1.setCell (p := ⟨w.heap.size, 7 - k, none⟩) (Nat.le_refl _) _
      have HQ : Hid (q / 256 = (n : Int) / 256 ^ (k + 1)) := by
        refine Lib.hid ?_
        rw [hq, Int.pow_succ, Int.ediv_ediv_of_nonneg (by exact_mod_cast Nat.zero_le (256 ^ k))]
      rw [← hq]
      simp only [Nat.mul_one, Nat.add_zero, bC, List.getElem?_cons_zero] at c1
      clear s1 b1 h0 hq hmk
      go_wp2
      go_roundw
      case rel => exact ⟨k + 1, by omega, by rw [show (7 - (k : Int) - 1) = 7 - ((k + 1 : Nat) : Int) by omega], by rw [HQ.out], HS.out, HB.out⟩
      case measure => simp [intOf]; omega
    · obtain rfl : k = 8 := by omega
      rw [eiK_end] at s1
      clear h0 hmk hq hq0 hqn
      go_wp2
      go_ret
      exact ⟨rfl, s1, b1⟩
end Go.Proofs.Ytbddggdbhfmlnaa
