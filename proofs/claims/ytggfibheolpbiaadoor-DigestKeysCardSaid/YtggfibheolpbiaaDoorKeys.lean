/- The walk of DigestKeys. -/
import Derived.Test.YtggfibheolpbiaaDoorLawP
namespace Go.Proofs.YtggfibheolpbiaaDoor
open Go.RowKit Go.Rt Go.Rw
def zeroS (k : ByteArray) (n : Nat) : ByteArray := k ++ ⟨(List.replicate n 0).toArray⟩
theorem zeroS_size (k : ByteArray) (n : Nat) : (zeroS k n).size = k.size + n := by
  unfold zeroS
  rw [ByteArray.size_append]
  congr 1
  simp [← ByteArray.size_data]
theorem zeroS_none (k : ByteArray) : zeroS k 0 = k := by
  unfold zeroS
  apply ByteArray.ext
  simp
theorem zeroS_succ (k : ByteArray) (n : Nat) : zeroS k n ++ ⟨#[0]⟩ = zeroS k (n + 1) := by
  unfold zeroS
  apply ByteArray.ext
  apply Array.toList_inj.1
  simp [List.replicate_succ']
set_option maxRecDepth 100000 in
set_option maxHeartbeats 1000000 in
theorem keys_walk (key b : ByteArray) (zeros : Int) (w : World) (hk : key.size ≤ 9223372036854775807) (hb : b.size ≤ 9223372036854775807) (ht : Tabs w) :
    Calls Tryd.prog 6 #[.string key, .string b, .int .i64 zeros] w fun e w' => e = .returned (.bool true) ∧ Below w.heap.size w w' := by
  have HAW := Lib.hid (awake_any)
  have HT := Lib.hid ht
  clear ht
  by_cases h1 : key.size ≤ 2000
  · have h1' : ¬ (2000 : Int) < key.size := by omega
    by_cases h2 : b.size ≤ 2000
    · have h2' : ¬ (2000 : Int) < b.size := by omega
      have HMC := Lib.hid (fun W hW => mac_any key b (by omega) (by omega) W hW)
      obtain ⟨M, hM⟩ : ∃ M, M = toBytes (macF key b) := ⟨_, rfl⟩
      rw [← hM] at HMC
      have mm : (M.toList == M.toList) = true := by simp
      by_cases h64 : 64 < key.size
      · have h64' : (64 : Int) < key.size := by omega
        have HS := Lib.hid (fun W hW => sum_any key (by omega) W hW)
        have hz : (toBytes (sumF key)).size ≤ 32 := by rw [toBytes_size, sumF_len]; omega
        have HMC2 := Lib.hid (fun W hW => mac_any (toBytes (sumF key)) b (by omega) (by omega) W hW)
        rw [mac_long key b h64, ← hM] at HMC2
        clear hM h1 h2
        go_enter Tryd.func6, Tryd.ntmps6
        go_wp2_with fail
        refine (HMC.out _ HT.out).mono ?_
        rintro e w1 ⟨rfl, b1⟩
        have HB1 := Lib.hid b1
        clear b1
        go_wp2_with fail
        refine (HS.out _ (HT.out.below HB1.out HT.out.two)).mono ?_
        rintro e w2 ⟨rfl, b2⟩
        have HB2 := Lib.hid (HB1.out.trans (b2.mono HB1.out.size))
        clear b2
        go_wp2_with fail
        refine (HMC2.out _ (HT.out.below HB2.out HT.out.two)).mono ?_
        rintro e w3 ⟨rfl, b3⟩
        have HB3 := Lib.hid (HB2.out.trans (b3.mono HB2.out.size))
        clear b3
        go_wp2_with fail
        refine (HAW.out _ (HT.out.below HB3.out HT.out.two)).mono ?_
        rintro e w6 ⟨rfl, b6⟩
        go_wp2
        go_ret
        exact ⟨rfl, HB3.out.trans (b6.mono HB3.out.size)⟩
      · have h64' : ¬ (64 : Int) < key.size := by omega
        have HMC2 : Hid (∀ n, key.size + n ≤ 64 → ∀ W, Tabs W → Calls Tryd.prog 16 #[.string (zeroS key n), .string b] W fun e w' => e = .returned (.string M) ∧ Below W.heap.size W w') := by
          refine Lib.hid fun n hn W hW => ?_
          have := mac_any (zeroS key n) b (by rw [zeroS_size]; omega) (by omega) W hW
          rw [show macF (zeroS key n) b = macF key b from mac_zero key b n hn, ← hM] at this
          exact this
        have HZ := Lib.hid (zeroS_succ key)
        have HZ0 := Lib.hid (zeroS_none key)
        have HZS := Lib.hid (zeroS_size key)
        clear hM h1 h2
        go_enter Tryd.func6, Tryd.ntmps6
        go_wp2_with fail
        refine (HMC.out _ HT.out).mono ?_
        rintro e w1 ⟨rfl, b1⟩
        have HB1 := Lib.hid b1
        clear b1
        go_wp2_with fail
        go_loop [8, 9] (fun s x => ∃ i : Nat, key.size + i ≤ 64 ∧ x = .int .i64 i ∧ s = .string (zeroS key i)) (fun _ x => 64 - (intOf x).toNat)
        case atStart => exact ⟨0, by omega, rfl, by rw [HZ0.out]⟩
        case round =>
          obtain ⟨i, hi, rfl, rfl⟩ := hrel
          have HZi := Lib.hid (HZ.out i)
          obtain ⟨Z, hZ⟩ : ∃ Z, Z = zeroS key i := ⟨_, rfl⟩
          have hzs : Z.size = key.size + i := by rw [hZ]; exact HZS.out i
          have HC := Lib.hid (HMC2.out i hi)
          rw [← hZ] at HZi HC ⊢
          have hz1 : Z.size ≤ 64 := by omega
          have HZE := Lib.hid hzs
          clear hZ hzs
          by_cases c1 : (i : Int) < zeros
          · by_cases c2 : Z.size < 64
            · have c2' : (Z.size : Int) < 64 := by omega
              go_wp2_with fail
              go_round
              case rel => exact ⟨i + 1, by have := HZE.out; omega, by go_num, by rw [← HZi.out]⟩
              case measure => simp [intOf]; have := HZE.out; omega
            · have c2' : ¬ (Z.size : Int) < 64 := by omega
              go_wp2_with fail
              refine (HC.out _ (HT.out.below HB1.out HT.out.two)).mono ?_
              rintro e w3 ⟨rfl, b3⟩
              have HB3 := Lib.hid (HB1.out.trans (b3.mono HB1.out.size))
              clear b3
              go_wp2_with fail
              refine (HAW.out _ (HT.out.below HB3.out HT.out.two)).mono ?_
              rintro e w6 ⟨rfl, b6⟩
              go_wp2
              go_ret
              exact ⟨rfl, HB3.out.trans (b6.mono HB3.out.size)⟩
          · go_wp2_with fail
            refine (HC.out _ (HT.out.below HB1.out HT.out.two)).mono ?_
            rintro e w3 ⟨rfl, b3⟩
            have HB3 := Lib.hid (HB1.out.trans (b3.mono HB1.out.size))
            clear b3
            go_wp2_with fail
            refine (HAW.out _ (HT.out.below HB3.out HT.out.two)).mono ?_
            rintro e w6 ⟨rfl, b6⟩
            go_wp2
            go_ret
            exact ⟨rfl, HB3.out.trans (b6.mono HB3.out.size)⟩
    · have h2' : (2000 : Int) < b.size := by omega
      go_enter Tryd.func6, Tryd.ntmps6
      go_wp2_with fail
      refine (HAW.out _ HT.out).mono ?_
      rintro e w1 ⟨rfl, b1⟩
      have B1 := Lib.hid b1
      clear b1
      go_wp2
      go_ret
      exact ⟨rfl, B1.out⟩
  · have h1' : (2000 : Int) < key.size := by omega
    go_enter Tryd.func6, Tryd.ntmps6
    go_wp2_with fail
    refine (HAW.out _ HT.out).mono ?_
    rintro e w1 ⟨rfl, b1⟩
    have B1 := Lib.hid b1
    clear b1
    go_wp2
    go_ret
    exact ⟨rfl, B1.out⟩
end Go.Proofs.YtggfibheolpbiaaDoor
