/- The reference's Block and Mac; the walks of DigestSums and DigestMacs. -/
import Derived.Test.YtnkkbkceapcahaaDoorRsum1
import Derived.Test.YtnkkbkceapcahaaDoorMac1
namespace Go.Proofs.YtnkkbkceapcahaaDoor
open Go.RowKit Go.Rt Go.Rw

def zeroB (k : Nat) : ByteArray := toBytes (List.replicate k 0)
theorem zeroB_next (K : ByteArray) (k : Nat) : K ++ zeroB k ++ ⟨#[0]⟩ = K ++ zeroB (k + 1) := by
  apply ByteArray.ext
  apply Array.toList_inj.1
  simp [zeroB, toBytes, List.replicate_succ']
theorem zeroB_size (k : Nat) : (zeroB k).size = k := by rw [zeroB, toBytes_size, List.length_replicate]
def blockB (key : ByteArray) : ByteArray := keyF key ++ zeroB (64 - (keyF key).size)
theorem blockB_bytes (key : ByteArray) : bytesN (blockB key) = blkK (keyF key) := by
  unfold blockB blkK zeroB
  rw [bytesN_app, bytesN_to _ (fun x hx => by have := List.eq_of_mem_replicate hx; omega)]
theorem blockB_size (key : ByteArray) : (blockB key).size = 64 := by
  rw [← bytesN_len, blockB_bytes, blkK_len _ (keyF_size key)]
theorem xor_block (key : ByteArray) (y : Nat) : xorB (blockB key) y = xorL (keyF key) y := by
  unfold xorB xorL
  rw [blockB_bytes]

set_option maxRecDepth 100000 in
set_option maxHeartbeats 1000000 in
theorem block_any (key : ByteArray) (hk : key.size ≤ 90000) (w : World) :
    Calls Tryd.prog 54 #[.string key] w fun e w' => e = .returned (.string (blockB key)) ∧ Below w.heap.size w w' := by
  have hks := keyF_size key
  have hbb : Hid (blockB key = keyF key ++ zeroB (64 - (keyF key).size)) := Lib.hid rfl
  have HZN := Lib.hid (zeroB_next (keyF key))
  have hzs := zeroB_size
  by_cases hbig : 64 < key.size
  · have hkf : keyF key = toBytes (sumF key) := by unfold keyF; rw [if_pos hbig]
    have HSU := Lib.hid (fun w => rsum_any key (by omega) w)
    rw [← hkf] at HSU
    obtain ⟨K, hK⟩ : ∃ K, K = keyF key := ⟨_, rfl⟩
    rw [← hK] at hks hbb HZN HSU
    clear hK hkf
    have hbig' : (64 : Int) < key.size := by omega
    go_enter Tryd.func54, Tryd.ntmps54
    go_wp2_with fail
    refine (HSU.out _).mono ?_
    rintro e w1 ⟨rfl, b1⟩
    have HB1 := Lib.hid b1
    clear b1
    go_wp2_with fail
    go_loopw [3] (fun s wr => ∃ k : Nat, k ≤ 64 - K.size ∧ s = .string (K ++ zeroB k) ∧ w1 = wr) (fun s _ => match s with | .string t => 64 - t.size | _ => 0)
    case atStart => exact ⟨0, by omega, by rw [show zeroB 0 = ByteArray.empty from rfl, ByteArray.append_empty], rfl⟩
    case round =>
      obtain ⟨k, hkk, rfl, rfl⟩ := hrel
      have hsz : (K ++ zeroB k).size = K.size + k := by rw [ByteArray.size_append, hzs]
      have hnx := HZN.out k
      by_cases hlt : k < 64 - K.size
      · obtain ⟨S, hS⟩ : ∃ S, S = K ++ zeroB k := ⟨_, rfl⟩
        rw [← hS] at hsz hnx ⊢
        have hS64 : S.size < 64 := by omega
        have HNX := Lib.hid hnx
        clear hS hnx
        go_wp2_with fail
        go_roundw
        case rel => exact ⟨k + 1, by omega, by rw [HNX.out], trivial⟩
        case measure =>
          have h1 : (⟨#[0]⟩ : ByteArray).size = 1 := rfl
          show 64 - (S ++ ⟨#[0]⟩ : ByteArray).size < 64 - S.size
          rw [ByteArray.size_append]
          omega
      · obtain rfl : k = 64 - K.size := by omega
        rw [← hbb.out] at *
        obtain ⟨S, hS⟩ : ∃ S, S = blockB key := ⟨_, rfl⟩
        rw [← hS] at hsz ⊢
        have hS64 : ¬ S.size < 64 := by omega
        have HS := Lib.hid hS
        clear hS hnx
        go_wp2_with fail
        go_ret
        exact ⟨by rw [← HS.out]; rfl, HB1.out⟩
  · have hkf : keyF key = key := by unfold keyF; rw [if_neg hbig]
    obtain ⟨K, hK⟩ : ∃ K, K = keyF key := ⟨_, rfl⟩
    rw [← hK] at hks hbb HZN
    obtain rfl : K = key := hK.trans hkf
    clear hK hkf
    have hbig' : ¬ (64 : Int) < K.size := by omega
    go_enter Tryd.func54, Tryd.ntmps54
    go_wp2_with fail
    go_loopw [3] (fun s wr => ∃ k : Nat, k ≤ 64 - K.size ∧ s = .string (K ++ zeroB k) ∧ w = wr) (fun s _ => match s with | .string t => 64 - t.size | _ => 0)
    case atStart => exact ⟨0, by omega, by rw [show zeroB 0 = ByteArray.empty from rfl, ByteArray.append_empty], rfl⟩
    case round =>
      obtain ⟨k, hkk, rfl, rfl⟩ := hrel
      have hsz : (K ++ zeroB k).size = K.size + k := by rw [ByteArray.size_append, hzs]
      have hnx := HZN.out k
      by_cases hlt : k < 64 - K.size
      · obtain ⟨S, hS⟩ : ∃ S, S = K ++ zeroB k := ⟨_, rfl⟩
        rw [← hS] at hsz hnx ⊢
        have hS64 : S.size < 64 := by omega
        have HNX := Lib.hid hnx
        clear hS hnx
        go_wp2_with fail
        go_roundw
        case rel => exact ⟨k + 1, by omega, by rw [HNX.out], trivial⟩
        case measure =>
          have h1 : (⟨#[0]⟩ : ByteArray).size = 1 := rfl
          show 64 - (S ++ ⟨#[0]⟩ : ByteArray).size < 64 - S.size
          rw [ByteArray.size_append]
          omega
      · obtain rfl : k = 64 - K.size := by omega
        rw [← hbb.out] at *
        obtain ⟨S, hS⟩ : ∃ S, S = blockB K := ⟨_, rfl⟩
        rw [← hS] at hsz ⊢
        have hS64 : ¬ S.size < 64 := by omega
        have HS := Lib.hid hS
        clear hS hnx
        go_wp2_with fail
        go_ret
        exact ⟨by rw [← HS.out]; rfl, Below.refl _ _⟩

set_option maxRecDepth 100000 in
set_option maxHeartbeats 1000000 in
theorem rmac_any (key b : ByteArray) (hk : key.size ≤ 90000) (hb : b.size ≤ 90000) (w : World) :
    Calls Tryd.prog 38 #[.string key, .string b] w fun e w' => e = .returned (.string (toBytes (macF key b))) ∧ Below w.heap.size w w' := by
  have HBL := Lib.hid (fun w => block_any key hk w)
  have hbs := blockB_size key
  have HX := Lib.hid (fun y hy w => xor_any (blockB key) (by omega) y hy w)
  have x1 := xor_block key 54
  have x2 := xor_block key 92
  have z1 := xorB_len (blockB key) 54
  have z2 := xorB_len (blockB key) 92
  have HX1 := HX.out 54 (by omega)
  have HX2 := HX.out 92 (by omega)
  rw [x1] at HX1 z1
  rw [x2] at HX2 z2
  obtain ⟨X1, hX1⟩ : ∃ X, X = toBytes (xorL (keyF key) 54) := ⟨_, rfl⟩
  obtain ⟨X2, hX2⟩ : ∃ X, X = toBytes (xorL (keyF key) 92) := ⟨_, rfl⟩
  have s1 : X1.size = 64 := by rw [hX1, toBytes_size, z1, hbs]
  have s2 : X2.size = 64 := by rw [hX2, toBytes_size, z2, hbs]
  rw [← hX1] at HX1
  rw [← hX2] at HX2
  have HS1 := Lib.hid (fun w => rsum_any (X1 ++ b) (by rw [ByteArray.size_append]; omega) w)
  obtain ⟨I, hI⟩ : ∃ I, I = toBytes (sumF (X1 ++ b)) := ⟨_, rfl⟩
  have s3 : I.size = 32 := by rw [hI, toBytes_size, sumF_len]
  rw [← hI] at HS1
  have HS2 := Lib.hid (fun w => rsum_any (X2 ++ I) (by rw [ByteArray.size_append]; omega) w)
  have HR : Hid (toBytes (macF key b) = toBytes (sumF (X2 ++ I))) := by
    refine Lib.hid ?_
    unfold macF
    rw [hI, hX1, hX2]
  have H1 := Lib.hid HX1
  have H2 := Lib.hid HX2
  obtain ⟨R, hR⟩ : ∃ R, R = toBytes (macF key b) := ⟨_, rfl⟩
  rw [← hR] at HR ⊢
  rw [← HR.out] at HS2
  obtain ⟨BB, hBB⟩ : ∃ B, B = blockB key := ⟨_, rfl⟩
  rw [← hBB] at HBL H1 H2
  clear HX HX1 HX2 x1 x2 z1 z2 hX1 hX2 hI hR HR hbs hBB
  have y1 : ((54 : Nat) : Int) = 54 := rfl
  have y2 : ((92 : Nat) : Int) = 92 := rfl
  rw [y1] at H1
  rw [y2] at H2
  clear y1 y2
  go_enter Tryd.func38, Tryd.ntmps38
  go_wp2_with fail
  refine (HBL.out _).mono ?_
  rintro e w1 ⟨rfl, b1⟩
  have B1 := Lib.hid b1
  clear b1
  go_wp2_with fail
  refine (H1.out _).mono ?_
  rintro e w2 ⟨rfl, b2⟩
  have B2 := Lib.hid (B1.out.trans (b2.mono B1.out.size))
  clear b2 B1
  go_wp2_with fail
  refine (HS1.out _).mono ?_
  rintro e w3 ⟨rfl, b3⟩
  have B3 := Lib.hid (B2.out.trans (b3.mono B2.out.size))
  clear b3 B2
  go_wp2_with fail
  refine (HBL.out _).mono ?_
  rintro e w4 ⟨rfl, b4⟩
  have B4 := Lib.hid (B3.out.trans (b4.mono B3.out.size))
  clear b4 B3
  go_wp2_with fail
  refine (H2.out _).mono ?_
  rintro e w5 ⟨rfl, b5⟩
  have B5 := Lib.hid (B4.out.trans (b5.mono B4.out.size))
  clear b5 B4
  go_wp2_with fail
  refine (HS2.out _).mono ?_
  rintro e w6 ⟨rfl, b6⟩
  have B6 := Lib.hid (B5.out.trans (b6.mono B5.out.size))
  clear b6 B5
  go_wp2_with fail
  go_ret
  exact ⟨rfl, B6.out⟩
end Go.Proofs.YtnkkbkceapcahaaDoor
