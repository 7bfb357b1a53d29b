/- The walks of DigestNested and DigestKeys. -/
import Derived.Test.YtggfibheolpbiaaDoorLawP
namespace Go.Proofs.YtggfibheolpbiaaDoor
open Go.RowKit Go.Rt Go.Rw
set_option maxRecDepth 100000 in
set_option maxHeartbeats 1000000 in
theorem nested_walk (key b : ByteArray) (w : World) (hk : key.size ≤ 9223372036854775807) (hb : b.size ≤ 9223372036854775807) (ht : Tabs w) :
    Calls Tryd.prog 5 #[.string key, .string b] w fun e w' => e = .returned (.bool true) ∧ Below w.heap.size w w' := by
  have HAW := Lib.hid (awake_any)
  have HT := Lib.hid ht
  clear ht
  by_cases h1 : key.size ≤ 2000
  · have h1' : ¬ (2000 : Int) < key.size := by omega
    by_cases h2 : b.size ≤ 2000
    · have h2' : ¬ (2000 : Int) < b.size := by omega
      have hks := keyF_size key
      have HS := Lib.hid (fun W hW => sum_any key (by omega) W hW)
      have HK : Hid (keyF key = if 64 < key.size then toBytes (sumF key) else key) := Lib.hid rfl
      have HM : Hid (macF key b = sumF (toBytes (xorL (keyF key) 92) ++ toBytes (sumF (toBytes (xorL (keyF key) 54) ++ b)))) := Lib.hid rfl
      have HMC := Lib.hid (fun W hW => mac_any key b (by omega) (by omega) W hW)
      obtain ⟨K, hK⟩ : ∃ K, K = keyF key := ⟨_, rfl⟩
      rw [← hK] at hks HM HK
      have X1 := Lib.hid (fun W => xored_any K 54 hks (by omega) W)
      have X2 := Lib.hid (fun W => xored_any K 92 hks (by omega) W)
      have hl : ∀ x, (toBytes (xorL K x)).size = 64 := by intro x; rw [toBytes_size]; simp [xorL, blkK_len K hks]
      obtain ⟨I1, hI1⟩ : ∃ I, I = toBytes (xorL K 54) := ⟨_, rfl⟩
      obtain ⟨I2, hI2⟩ : ∃ I, I = toBytes (xorL K 92) := ⟨_, rfl⟩
      have hz1 : I1.size ≤ 64 := by rw [hI1, hl]; omega
      have hz2 : I2.size ≤ 64 := by rw [hI2, hl]; omega
      rw [← hI1] at HM
      rw [← hI2] at HM
      have X1' : Hid (∀ W, Calls Tryd.prog 15 #[.string K, .int .u8 54] W fun e w' => e = .returned (.string I1) ∧ Below W.heap.size W w') := by rw [hI1]; exact X1
      have X2' : Hid (∀ W, Calls Tryd.prog 15 #[.string K, .int .u8 92] W fun e w' => e = .returned (.string I2) ∧ Below W.heap.size W w') := by rw [hI2]; exact X2
      have hz4 : I1.size + b.size ≤ 100000 := by omega
      have HS1 := Lib.hid (fun W hW => sum_any (I1 ++ b) (by rw [ByteArray.size_append]; omega) W hW)
      obtain ⟨D1, hD1⟩ : ∃ D, D = toBytes (sumF (I1 ++ b)) := ⟨_, rfl⟩
      have hz3 : D1.size = 32 := by rw [hD1, toBytes_size, sumF_len]
      have hz3' : ((D1.size : Int) == 32) = true := by rw [beq_iff_eq]; omega
      have hz6 : D1.size ≤ 32 := by omega
      rw [← hD1] at HM HS1
      have hz5 : I2.size + D1.size ≤ 100000 := by omega
      have HS2 := Lib.hid (fun W hW => sum_any (I2 ++ D1) (by rw [ByteArray.size_append]; omega) W hW)
      have HMC2 : Hid (∀ W, Tabs W → Calls Tryd.prog 16 #[.string key, .string b] W fun e w' => e = .returned (.string (toBytes (sumF (I2 ++ D1)))) ∧ Below W.heap.size W w') := by
        refine Lib.hid fun W hW => ?_
        rw [← HM.out]; exact HMC.out W hW
      obtain ⟨M, hM⟩ : ∃ M, M = toBytes (sumF (I2 ++ D1)) := ⟨_, rfl⟩
      rw [← hM] at HS2 HMC2
      clear hI1 hI2 hD1 hM hl hK hz3 X1 X2 HMC h1 h2
      have mm : (M.toList == M.toList) = true := by simp
      go_enter Tryd.func5, Tryd.ntmps5
      go_upto_if 19 with fail
      go_cut [5] (fun s5 wx => s5 = .string K ∧ Below w.heap.size w wx)
      case first =>
        by_cases h64 : 64 < key.size
        · have h64' : (64 : Int) < key.size := by omega
          have e : K = toBytes (sumF key) := by rw [HK.out, if_pos h64]
          have HE := Lib.hid e
          clear e
          go_wp2_with fail
          refine (HS.out _ HT.out).mono ?_
          rintro e w1 ⟨rfl, b1⟩
          rw [← HE.out]
          go_wp2_with fail
          go_meet
          exact ⟨rfl, b1⟩
        · have h64' : ¬ (64 : Int) < key.size := by omega
          have e : K = key := by rw [HK.out, if_neg h64]
          subst e
          go_wp2_with fail
          go_meet
          exact ⟨rfl, Below.refl _ _⟩
      case rest =>
        obtain ⟨rfl, bl⟩ := hcut
        have HB0 := Lib.hid bl
        clear bl
        go_wp2_with fail
        refine (X1'.out _).mono ?_
        rintro e w1 ⟨rfl, b1⟩
        have HB1 := Lib.hid (HB0.out.trans (b1.mono HB0.out.size))
        clear b1
        go_wp2_with fail
        refine (HS1.out _ (HT.out.below HB1.out HT.out.two)).mono ?_
        rintro e w2 ⟨rfl, b2⟩
        have HB2 := Lib.hid (HB1.out.trans (b2.mono HB1.out.size))
        clear b2
        go_wp2_with fail
        refine (HMC2.out _ (HT.out.below HB2.out HT.out.two)).mono ?_
        rintro e w3 ⟨rfl, b3⟩
        have HB3 := Lib.hid (HB2.out.trans (b3.mono HB2.out.size))
        clear b3
        go_wp2_with fail
        refine (X2'.out _).mono ?_
        rintro e w4 ⟨rfl, b4⟩
        have HB4 := Lib.hid (HB3.out.trans (b4.mono HB3.out.size))
        clear b4
        go_wp2_with fail
        refine (HS2.out _ (HT.out.below HB4.out HT.out.two)).mono ?_
        rintro e w5 ⟨rfl, b5⟩
        have HB5 := Lib.hid (HB4.out.trans (b5.mono HB4.out.size))
        clear b5
        go_wp2_with fail
        refine (HAW.out _ (HT.out.below HB5.out HT.out.two)).mono ?_
        rintro e w6 ⟨rfl, b6⟩
        go_wp2
        go_ret
        exact ⟨rfl, HB5.out.trans (b6.mono HB5.out.size)⟩
    · have h2' : (2000 : Int) < b.size := by omega
      go_enter Tryd.func5, Tryd.ntmps5
      go_wp2_with fail
      refine (HAW.out _ HT.out).mono ?_
      rintro e w1 ⟨rfl, b1⟩
      have B1 := Lib.hid b1
      clear b1
      go_wp2
      go_ret
      exact ⟨rfl, B1.out⟩
  · have h1' : (2000 : Int) < key.size := by omega
    go_enter Tryd.func5, Tryd.ntmps5
    go_wp2_with fail
    refine (HAW.out _ HT.out).mono ?_
    rintro e w1 ⟨rfl, b1⟩
    have B1 := Lib.hid b1
    clear b1
    go_wp2
    go_ret
    exact ⟨rfl, B1.out⟩
end Go.Proofs.YtggfibheolpbiaaDoor
