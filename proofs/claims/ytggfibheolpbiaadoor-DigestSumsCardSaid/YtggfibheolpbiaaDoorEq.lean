/- digest.Equal and the reference's Hex. -/
import Derived.Test.YtggfibheolpbiaaDoorHex
namespace Go.Proofs.YtggfibheolpbiaaDoor
open Go.RowKit Go.Rt
attribute [local go_sem ↓] Go.wp_at_zero Go.wp_at_succ

/-- The bits in which the first k bytes differ. -/
def diffF (a b : ByteArray) : Nat → Nat
  | 0 => 0
  | k + 1 => diffF a b k ||| ((a.data.getD k 0).toNat ^^^ (b.data.getD k 0).toNat)
theorem diff_lt (a b : ByteArray) (k : Nat) : diffF a b k < 256 := by
  induction k with
  | zero => simp [diffF]
  | succ k ih => exact Nat.or_lt_two_pow (n := 8) ih (Nat.xor_lt_two_pow (n := 8) (a.data.getD k 0).toNat_lt (b.data.getD k 0).toNat_lt)
theorem diff_zero (a b : ByteArray) (k : Nat) : diffF a b k = 0 ↔ ∀ j, j < k → a.data.getD j 0 = b.data.getD j 0 := by
  induction k with
  | zero => simp [diffF]
  | succ k ih =>
    rw [diffF, Nat.or_eq_zero_iff, ih]
    have hx : ((a.data.getD k 0).toNat ^^^ (b.data.getD k 0).toNat = 0) ↔ a.data.getD k 0 = b.data.getD k 0 := by
      rw [← UInt8.toNat_xor]
      constructor
      · intro h
        exact UInt8.xor_eq_zero_iff.1 (UInt8.toNat_inj.1 h)
      · intro h
        rw [UInt8.xor_eq_zero_iff.2 h]; rfl
    rw [hx]
    constructor
    · rintro ⟨h1, h2⟩ j hj
      by_cases e : j = k
      · subst e; exact h2
      · exact h1 j (by omega)
    · exact fun h => ⟨fun j hj => h j (by omega), h k (by omega)⟩
theorem getD_of {a : ByteArray} {k : Nat} (h : k < a.size) : (a.data.getD k 0) = a[k] := by
  have hd : k < a.data.size := h
  unfold Array.getD
  rw [dif_pos hd]
  rfl
theorem bytes_ext (a b : ByteArray) (hs : a.size = b.size) (h : ∀ j, j < a.size → a.data.getD j 0 = b.data.getD j 0) : a = b := by
  apply ByteArray.ext
  apply Array.ext
  · exact hs
  · intro j h1 h2
    have q := h j h1
    rw [getD_of h1, getD_of h2] at q
    exact q

set_option maxRecDepth 100000 in
set_option maxHeartbeats 1000000 in
theorem equal_any (a b : ByteArray) (ha : a.size ≤ 100000) (hb : b.size ≤ 100000) (w : World) :
    Calls Tryd.prog 13 #[.string a, .string b] w fun e w' => e = .returned (.bool (decide (a = b))) ∧ Below w.heap.size w w' := by
  obtain ⟨q, hq⟩ : ∃ q, q = decide (a = b) := ⟨_, rfl⟩
  rw [← hq]
  have HQ := Lib.hid hq
  clear hq
  by_cases hs : a.size = b.size
  · have h1 : ((a.size : Int) != b.size) = false := by rw [hs]; simp
    have HS := Lib.hid hs
    clear hs
    go_enter Tryd.func13, Tryd.ntmps13
    go_wp2
    go_loopw [5, 14] (fun d x wr => ∃ k n : Nat, k ≤ a.size ∧ x = .int .i64 k ∧ d = .int .u8 (diffF a b k : Nat) ∧ wr = w.drewN n) (fun _ x _ => a.size - (intOf x).toNat)
    case atStart => exact ⟨0, 0, by omega, rfl, rfl, rfl⟩
    case round =>
      obtain ⟨k, n, hk, rfl, rfl, rfl⟩ := hrel
      by_cases hlt : k < a.size
      · have hlt' : (k : Int) < a.size := by omega
        have hltb : (k : Int) < b.size := by have := HS.out; omega
        have hltb2 : k < b.size := by have := HS.out; omega
        have hd := diff_lt a b k
        have HD : Hid (diffF a b (k + 1) = diffF a b k ||| (a[k].toNat ^^^ b[k].toNat)) := by
          refine Lib.hid ?_
          rw [diffF, getD_of hlt, getD_of hltb2]
        have e1 : bits .or .u8 (diffF a b k : Int) (bits .xor .u8 (a[k].toNat : Int) (b[k].toNat : Int)) = ((diffF a b k ||| (a[k].toNat ^^^ b[k].toNat) : Nat) : Int) := by
          rw [u8_xor_nat _ _ a[k].toNat_lt b[k].toNat_lt, u8_or_nat _ _ hd (Nat.xor_lt_two_pow (n := 8) a[k].toNat_lt b[k].toNat_lt)]
        obtain ⟨wq, hwq⟩ : ∃ wq, wq = w.drewN n := ⟨_, rfl⟩
        rw [← hwq]
        have HW := Lib.hid hwq
        clear hwq
        have HE := Lib.hid e1
        clear e1
        go_wp2
        go_quiet (fail)
        go_wp2
        go_roundw
        case rel => exact ⟨k + 1, n + nq, by omega, by go_num, by rw [HE.out, HD.out], by rw [HW.out, World.drewN_drewN]⟩
        case measure => simp [intOf]; omega
      · obtain rfl : k = a.size := by omega
        have hfin : ((diffF a b a.size : Int) == 0) = q := by
          rw [HQ.out, Bool.eq_iff_iff, beq_iff_eq, decide_eq_true_eq]
          constructor
          · intro h
            exact bytes_ext a b HS.out ((diff_zero a b a.size).1 (by omega))
          · rintro rfl
            have := (diff_zero a a a.size).2 (fun _ _ => rfl)
            omega
        go_wp2
        go_ret
        exact ⟨rfl, ⟨rfl, rfl, rfl, Nat.le_refl _, fun _ _ => rfl⟩⟩
  · have h1 : ((a.size : Int) != b.size) = true := by rw [bne_iff_ne]; omega
    have h2 : q = false := by rw [HQ.out, decide_eq_false_iff_not]; rintro rfl; exact hs rfl
    subst h2
    clear hs
    go_enter Tryd.func13, Tryd.ntmps13
    go_wp2
    go_ret
    exact ⟨rfl, Below.refl _ _⟩
end Go.Proofs.YtggfibheolpbiaaDoor
