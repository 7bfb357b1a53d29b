/- The reference's Padding and Xor. -/
import Derived.Test.YtggfibheolpbiaaDoorRcomp
import Derived.Test.YtggfibheolpbiaaDoorMac
import Derived.Test.YtggfibheolpbiaaDoorPush
import Derived.Lib.BufferRead
namespace Go.Proofs.YtggfibheolpbiaaDoor
open Go.RowKit Go.Rt Go.Rw

def bc (n : Nat) : List Value := [bv n]
theorem bc_len (n : Nat) : (bc n).length = 1 := rfl
theorem bc_one (n : Nat) : ∀ u ∈ bc n, u.oneCell' = true := by simp [bc, Value.oneCell']
theorem bc_flat (L : List Nat) : L.flatMap bc = L.map bv := by
  induction L with
  | nil => rfl
  | cons a r ih => simp [bc, ih]
/-- string(v) of an owned row of bytes. -/
theorem slb_conv {W : World} {base : Nat} {v : Value} {L : List Nat} (h : Sl W base 5 1 bc v L) (hL : ∀ x ∈ L, x < 256) : (convert 29 9 v).run Tryd.prog W = .ok (.string (toBytes L)) W := by
  rcases h.form with ⟨rfl, rfl⟩ | ⟨g, cap, rfl, _⟩
  · rw [Go.Lib.run_convert_nil_bytes W 29 9 5 0 und29 und5 und9]
    rfl
  · unfold Sl at h
    rw [bc_flat] at h
    exact (Ts.of_own h).conv hL

def padK (n k : Nat) : List Nat := 128 :: (List.replicate (zerosN n) 0 ++ (be8N (8 * n)).take k)
theorem padK_end (n : Nat) : padK n 8 = padL n := by
  unfold padK padL
  rw [List.take_of_length_le (by rw [be8N_len]; omega)]
theorem padK_len (n k : Nat) (hk : k ≤ 8) : (padK n k).length = 1 + zerosN n + k := by
  unfold padK
  simp only [List.length_cons, List.length_append, List.length_replicate, List.length_take, be8N_len]
  omega
theorem padK_next (n k : Nat) (hk : k < 8) : padK n (k + 1) = padK n k ++ [byteAt (8 * n) k] := by
  unfold padK
  rw [be8N_take _ _ hk]
  simp
def headK (z : Nat) : List Nat := 128 :: List.replicate z 0
theorem headK_len (z : Nat) : (headK z).length = 1 + z := by simp [headK]; omega
theorem headK_next (z : Nat) : headK (z + 1) = headK z ++ [0] := by simp [headK, List.replicate_succ']
theorem headK_end (n : Nat) : headK (zerosN n) = padK n 0 := by simp [headK, padK]
theorem padL_lt (n : Nat) : ∀ x ∈ padL n, x < 256 := by
  intro x hx
  unfold padL at hx
  simp only [List.mem_append, List.mem_cons] at hx
  rcases hx with rfl | h | h
  · omega
  · have := List.eq_of_mem_replicate h; omega
  · obtain ⟨k, _, rfl⟩ := List.mem_map.1 h
    exact Nat.mod_lt _ (by omega)

set_option maxRecDepth 100000 in
set_option maxHeartbeats 2000000 in
theorem pad_any (n : Nat) (hn : n ≤ 1000000) (w : World) :
    Calls Tryd.prog 21 #[.int .i64 n] w fun e w' => e = .returned (.string (toBytes (padL n))) ∧ Below w.heap.size w w' := by
  have hz64 := zeros_lt n
  have HZE := Lib.hid (zeros_eq n)
  have HZF := Lib.hid (zeros_first n)
  go_enter Tryd.func21, Tryd.ntmps21
  go_wp2_with fail
  go_loopw [3] (fun s wr => ∃ z : Nat, z ≤ zerosN n ∧ Sl wr w.heap.size 5 1 bc s (headK z) ∧ Below w.heap.size w wr) (fun s _ => match s with | .slice _ l _ => 1 + zerosN n - l | _ => 0)
  case atStart => exact ⟨0, by omega, Sl.lit (e := 5) w [128] bc_len (Nat.le_refl _) (by decide), (Below.refl _ w).alloc (Nat.le_refl _) _⟩
  case round =>
    obtain ⟨z, hz, s1, b1⟩ := hrel
    have hkl := headK_len z
    obtain ⟨_, sb, cb, rfl⟩ := (s1.at bc_len).len
    rw [hkl] at s1 ⊢
    have hw0 := b1.size
    by_cases hlt : z < zerosN n
    · have hne := HZF.out z hlt
      have y1 : (((n : Int) + ((1 + z : Nat) : Int) + 8) % 64 != 0) = true := by rw [bne_iff_ne]; omega
      obtain ⟨g, cg, W2, hrun, s3, hgrow, hwhere⟩ := Sl.push (P := Tryd.prog) (t := 29) (ty := 29) (s1.only (Only.alloc [] wr (.cells (bc 0).toArray 5)) (fun g _ => by simp)) und29 info5 rfl (by omega) bc_len bc_one 0 (World.alloc_heap_new wr _) (by rw [hkl]; omega) (by rw [hkl]; omega) (by simp; omega) 1
      rw [hkl] at hrun s3
      have HS3 : Hid (Sl W2 w.heap.size 5 1 bc (.slice (some ⟨g, 0, none⟩) (1 + z + 1) cg) (headK (z + 1))) := by refine Lib.hid ?_; rw [headK_next]; exact s3
      have HB3 : Hid (Below w.heap.size w W2) := Lib.hid (b1.trans (((Below.refl w.heap.size wr).alloc hw0 _).grown hgrow (by simp; omega) (fun r hr => (s1.lt r hr).1)))
      simp only [bc] at hrun
      have HRN := Lib.hid hrun
      clear hrun s3 hgrow hwhere s1 b1 hne
      go_wp2_with (at_builtin; refine wpList_append_run rfl _ _ 29 29 rfl rfl rfl HRN.out ?_)
      go_roundw
      case rel => exact ⟨z + 1, by omega, HS3.out, HB3.out⟩
      case measure => simp; omega
    · obtain rfl : z = zerosN n := by omega
      have hze := HZE.out
      have y1 : (((n : Int) + (1 + (zerosN n : Int)) + 8) % 64 != 0) = false := by rw [bne_eq_false_iff_eq]; omega
      rw [headK_end] at s1
      have HS1 := Lib.hid s1
      have HB1 := Lib.hid b1
      clear s1 b1 hze
      go_wp2_with fail
      go_loopw [3, 5] (fun s i wq => ∃ k : Nat, k ≤ 8 ∧ i = .int .i64 k ∧ Sl wq w.heap.size 5 1 bc s (padK n k) ∧ Below w.heap.size w wq) (fun _ i _ => 8 - (intOf i).toNat)
      case atStart => exact ⟨0, by omega, rfl, HS1.out, HB1.out⟩
      case round =>
        obtain ⟨k, hk, rfl, s1, b1⟩ := hrel
        have hkl := padK_len n k hk
        obtain ⟨_, sb2, cb2, rfl⟩ := (s1.at bc_len).len
        rw [hkl] at s1 ⊢
        have hw0 := b1.size
        by_cases hk8 : k < 8
        · have y2 : (8 * (n : Int)) / 2 ^ (56 - 8 * k) % 256 = ((byteAt (8 * n) k : Nat) : Int) := by
            unfold byteAt
            rw [Int.natCast_emod, Int.natCast_ediv, Int.natCast_pow, Int.natCast_mul]
            rfl
          have hnx := padK_next n k hk8
          obtain ⟨x, hx⟩ : ∃ x, x = byteAt (8 * n) k := ⟨_, rfl⟩
          rw [← hx] at y2 hnx
          obtain ⟨g, cg, W2, hrun, s3, hgrow, hwhere⟩ := Sl.push (P := Tryd.prog) (t := 29) (ty := 29) (s1.only (Only.alloc [] wr (.cells (bc x).toArray 5)) (fun g _ => by simp)) und29 info5 rfl (by omega) bc_len bc_one x (World.alloc_heap_new wr _) (by rw [hkl]; omega) (by rw [hkl]; omega) (by simp; omega) 1
          rw [hkl] at hrun s3
          have HS3 : Hid (Sl W2 w.heap.size 5 1 bc (.slice (some ⟨g, 0, none⟩) (1 + zerosN n + k + 1) cg) (padK n (k + 1))) := by refine Lib.hid ?_; rw [hnx]; exact s3
          have HB3 : Hid (Below w.heap.size w W2) := Lib.hid (b1.trans (((Below.refl w.heap.size wr).alloc hw0 _).grown hgrow (by simp; omega) (fun r hr => (s1.lt r hr).1)))
          simp only [bc] at hrun
          have HRN := Lib.hid hrun
          have k0 : 0 ≤ 56 - 8 * (k : Int) := by omega
          clear hrun s3 hgrow hwhere s1 b1 hx hnx
          go_wp2_with (at_builtin; refine wpList_append_run rfl _ _ 29 29 rfl rfl rfl HRN.out ?_)
          go_roundw
          case rel => exact ⟨k + 1, by omega, by go_num, HS3.out, HB3.out⟩
          case measure => simp [intOf]; omega
        · obtain rfl : k = 8 := by omega
          rw [padK_end] at s1
          have hcv := slb_conv s1 (padL_lt n)
          have HB := Lib.hid b1
          clear s1 b1
          go_wp2_with fail
          go_ret
          exact ⟨rfl, HB.out⟩

/-- The reference's Xor. -/
def xorB (b : ByteArray) (y : Nat) : List Nat := (bytesN b).map (· ^^^ y)
theorem xorB_len (b : ByteArray) (y : Nat) : (xorB b y).length = b.size := by simp [xorB, bytesN_len]
theorem xorB_lt (b : ByteArray) (y : Nat) (hy : y < 256) : ∀ x ∈ xorB b y, x < 256 := by
  intro x hx
  obtain ⟨c, hc, rfl⟩ := List.mem_map.1 hx
  exact Nat.xor_lt_two_pow (n := 8) (bytesN_lt b c hc) hy
theorem xorB_next (b : ByteArray) (y k : Nat) (h : k < b.size) : (xorB b y).take (k + 1) = (xorB b y).take k ++ [b[k].toNat ^^^ y] := by
  rw [List.take_succ_eq_append_getElem (by rw [xorB_len]; exact h)]
  simp only [xorB, bytesN, List.getElem_map]
  rfl
set_option maxRecDepth 100000 in
set_option maxHeartbeats 2000000 in
theorem xor_any (b : ByteArray) (hb : b.size ≤ 1000000) (y : Nat) (hy : y < 256) (w : World) :
    Calls Tryd.prog 25 #[.string b, .int .u8 y] w fun e w' => e = .returned (.string (toBytes (xorB b y))) ∧ Below w.heap.size w w' := by
  have HLEN := Lib.hid (xorB_len b y)
  have HNX := Lib.hid (xorB_next b y)
  have HLT := Lib.hid (xorB_lt b y hy)
  obtain ⟨L, hL⟩ : ∃ L, L = xorB b y := ⟨_, rfl⟩
  rw [← hL] at HLEN HNX HLT ⊢
  clear hL
  go_enter Tryd.func25, Tryd.ntmps25
  go_wp2_with fail
  go_loopw [5, 6] (fun s i wr => ∃ k : Nat, k ≤ b.size ∧ i = .int .i64 k ∧ Sl wr w.heap.size 5 1 bc s (L.take k) ∧ Below w.heap.size w wr) (fun _ i _ => b.size - (intOf i).toNat)
  case atStart => exact ⟨0, by omega, rfl, Sl.nil _ _ _ _ _, Below.refl _ _⟩
  case round =>
    obtain ⟨k, hk, rfl, s1, b1⟩ := hrel
    have hkl : (L.take k).length = k := by rw [List.length_take, HLEN.out]; omega
    obtain ⟨_, sb, cb, rfl⟩ := (s1.at bc_len).len
    rw [hkl] at s1 ⊢
    have hw0 := b1.size
    by_cases hlt : k < b.size
    · have hnx := HNX.out k hlt
      have hcl : b[k].toNat < 256 := b[k].toNat_lt
      have y2 : bits .xor .u8 (b[k].toNat : Int) (y : Int) = ((b[k].toNat ^^^ y : Nat) : Int) := u8_xor_nat _ _ hcl hy
      obtain ⟨x, hx⟩ : ∃ x, x = b[k].toNat ^^^ y := ⟨_, rfl⟩
      rw [← hx] at y2 hnx
      obtain ⟨g, cg, W2, hrun, s3, hgrow, hwhere⟩ := Sl.push (P := Tryd.prog) (t := 29) (ty := 29) (s1.only (Only.alloc [] wr (.cells (bc x).toArray 5)) (fun g _ => by simp)) und29 info5 rfl (by omega) bc_len bc_one x (World.alloc_heap_new wr _) (by rw [hkl]; omega) (by rw [hkl]; omega) (by simp; omega) 1
      rw [hkl] at hrun s3
      have HS3 : Hid (Sl W2 w.heap.size 5 1 bc (.slice (some ⟨g, 0, none⟩) (k + 1) cg) (L.take (k + 1))) := by refine Lib.hid ?_; rw [hnx]; exact s3
      have HB3 : Hid (Below w.heap.size w W2) := Lib.hid (b1.trans (((Below.refl w.heap.size wr).alloc hw0 _).grown hgrow (by simp; omega) (fun r hr => (s1.lt r hr).1)))
      simp only [bc] at hrun
      have HRN := Lib.hid hrun
      clear hrun s3 hgrow hwhere s1 b1 hx hnx
      go_wp2_with (at_builtin; refine wpList_append_run rfl _ _ 29 29 rfl rfl rfl HRN.out ?_)
      go_roundw
      case rel => exact ⟨k + 1, by omega, by go_num, HS3.out, HB3.out⟩
      case measure => simp [intOf]; omega
    · obtain rfl : k = b.size := by omega
      rw [List.take_of_length_le (by rw [HLEN.out]; exact Nat.le_refl _)] at s1
      have hcv := slb_conv s1 HLT.out
      have HB := Lib.hid b1
      clear s1 b1
      go_wp2_with fail
      go_ret
      exact ⟨rfl, HB.out⟩
end Go.Proofs.YtggfibheolpbiaaDoor
