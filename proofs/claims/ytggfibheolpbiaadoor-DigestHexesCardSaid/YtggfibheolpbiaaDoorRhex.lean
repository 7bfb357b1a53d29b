/- The reference's Hex; the walk of DigestHexes. -/
import Derived.Test.YtggfibheolpbiaaDoorAwake
namespace Go.Proofs.YtggfibheolpbiaaDoor
open Go.RowKit Go.Rt Go.Rw
theorem dig_cut (n : Nat) (h : n < 16) (W : World) : (Instr.slice 9 (.string ⟨#[48, 49, 50, 51, 52, 53, 54, 55, 56, 57, 97, 98, 99, 100, 101, 102]⟩) (some (.int .u8 (n : Int))) (some (.int .u8 ((n : Int) + 1))) none).run Tryd.prog W = .ok (.string (toBytes [digF n])) W := by
  have : n = 0 ∨ n = 1 ∨ n = 2 ∨ n = 3 ∨ n = 4 ∨ n = 5 ∨ n = 6 ∨ n = 7 ∨ n = 8 ∨ n = 9 ∨ n = 10 ∨ n = 11 ∨ n = 12 ∨ n = 13 ∨ n = 14 ∨ n = 15 := by omega
  rcases this with rfl | rfl | rfl | rfl | rfl | rfl | rfl | rfl | rfl | rfl | rfl | rfl | rfl | rfl | rfl | rfl <;> (show Sem.run _ _ _ = _; kernel_rfl)
theorem toBytes_app (L M : List Nat) : toBytes L ++ toBytes M = toBytes (L ++ M) := by
  apply ByteArray.ext
  apply Array.toList_inj.1
  simp [toBytes]
set_option maxRecDepth 100000 in
set_option maxHeartbeats 1000000 in
theorem rhex_any (b : ByteArray) (hb : b.size ≤ 100000) (w : World) :
    Calls Tryd.prog 12 #[.string b] w fun e w' => e = .returned (.string (hexS b)) ∧ Below w.heap.size w w' := by
  have HE : Hid (toBytes (hexK b b.size) = hexS b) := by refine Lib.hid ?_; rw [hexK_end]; rfl
  have HZ := Lib.hid (hexK_len b)
  have HS := Lib.hid (hexK_succ b)
  have H0 : Hid (toBytes (hexK b 0) = ⟨#[]⟩) := by refine Lib.hid ?_; simp [hexK, toBytes]
  go_enter Tryd.func12, Tryd.ntmps12
  go_wp2_with fail
  go_loopw [4, 5] (fun s x wr => ∃ k n : Nat, k ≤ b.size ∧ x = .int .i64 k ∧ s = .string (toBytes (hexK b k)) ∧ wr = w.drewN n) (fun _ x _ => b.size - (intOf x).toNat)
  case atStart => exact ⟨0, 0, by omega, rfl, by rw [H0.out], rfl⟩
  case round =>
    obtain ⟨k, n, hk, rfl, rfl, rfl⟩ := hrel
    by_cases hlt : k < b.size
    · have hlt' : (k : Int) < b.size := by omega
      obtain ⟨wq, hwq⟩ : ∃ wq, wq = w.drewN n := ⟨_, rfl⟩
      rw [← hwq]
      have HW := Lib.hid hwq
      clear hwq
      have hcl : b[k].toNat < 256 := b[k].toNat_lt
      obtain ⟨S, hS⟩ : ∃ S, S = toBytes (hexK b k) := ⟨_, rfl⟩
      have hSz : S.size ≤ 200000 := by rw [hS, toBytes_size, HZ.out k hk]; omega
      rw [← hS]
      have HSN : Hid (S ++ toBytes [digF (b[k].toNat / 16)] ++ toBytes [digF (b[k].toNat % 16)] = toBytes (hexK b (k + 1))) := by
        refine Lib.hid ?_
        rw [hS, toBytes_app, toBytes_app, HS.out k hlt, List.append_assoc]
        rfl
      clear hS
      go_wp2
      go_quiet (fail)
      go_wp2_with fail
      obtain ⟨h, hh1, hh2, hh3⟩ : ∃ h : Nat, (b[k].toNat : Int) / 16 = (h : Int) ∧ h = b[k].toNat / 16 ∧ h < 16 := ⟨b[k].toNat / 16, by omega, rfl, by omega⟩
      obtain ⟨l, hl1, hl2, hl3⟩ : ∃ l : Nat, (b[k].toNat : Int) % 16 = (l : Int) ∧ l = b[k].toNat % 16 ∧ l < 16 := ⟨b[k].toNat % 16, by omega, rfl, by omega⟩
      rw [hh1, hl1]
      rw [← hh2, ← hl2] at HSN
      have c1 := dig_cut h hh3
      have c2 := dig_cut l hl3
      have z1 : (toBytes [digF h]).size = 1 := by rw [toBytes_size]; rfl
      have z2 : (toBytes [digF l]).size = 1 := by rw [toBytes_size]; rfl
      obtain ⟨D1, hD1⟩ : ∃ D, D = toBytes [digF h] := ⟨_, rfl⟩
      obtain ⟨D2, hD2⟩ : ∃ D, D = toBytes [digF l] := ⟨_, rfl⟩
      rw [← hD1] at c1 z1 HSN
      rw [← hD2] at c2 z2 HSN
      have z1' : D1.size ≤ 1 := by omega
      have z2' : D2.size ≤ 1 := by omega
      have q1 : IntKind.u8.wrap ((h : Int) + 1) = (h : Int) + 1 := by rw [IntKind.wrap_u8']; omega
      have q2 : IntKind.u8.wrap ((l : Int) + 1) = (l : Int) + 1 := by rw [IntKind.wrap_u8']; omega
      clear hh1 hh2 hl1 hl2 hD1 hD2 z1 z2
      go_quiet (fail)
      go_wp2_with fail
      go_roundw
      case rel =>
        exact ⟨k + 1, _, by omega, by go_num, by rw [← HSN.out], by rw [HW.out, World.drewN_drewN]⟩
      case measure => simp [intOf]; omega
    · obtain rfl : k = b.size := by omega
      rw [HE.out]
      go_wp2
      go_ret
      exact ⟨rfl, ⟨rfl, rfl, rfl, Nat.le_refl _, fun _ _ => rfl⟩⟩
set_option maxRecDepth 100000 in
set_option maxHeartbeats 1000000 in
theorem hexes_walk (b : ByteArray) (w : World) (hb : b.size ≤ 9223372036854775807) (ht : Tabs w) :
    Calls Tryd.prog 3 #[.string b] w fun e w' => e = .returned (.bool true) ∧ Below w.heap.size w w' := by
  have HAW := Lib.hid (awake_any)
  have HT := Lib.hid ht
  clear ht
  by_cases h2 : b.size ≤ 2000
  · have h2' : ¬ (2000 : Int) < b.size := by omega
    have X1 := Lib.hid (fun W => hex_str b (by omega) W)
    have X2 := Lib.hid (fun W => rhex_any b (by omega) W)
    obtain ⟨X, hX⟩ : ∃ X, X = hexS b := ⟨_, rfl⟩
    rw [← hX] at X1 X2
    have mm : (X.toList == X.toList) = true := by simp
    clear hX h2
    go_enter Tryd.func3, Tryd.ntmps3
    go_wp2_with fail
    refine (X1.out _).mono ?_
    rintro e w1 ⟨rfl, b1⟩
    have HB1 := Lib.hid b1
    clear b1
    go_wp2_with fail
    refine (X2.out _).mono ?_
    rintro e w2 ⟨rfl, b2⟩
    have HB2 := Lib.hid (HB1.out.trans (b2.mono HB1.out.size))
    clear b2
    go_wp2_with fail
    refine (HAW.out _ (HT.out.below HB2.out HT.out.two)).mono ?_
    rintro e w6 ⟨rfl, b6⟩
    go_wp2
    go_ret
    exact ⟨rfl, HB2.out.trans (b6.mono HB2.out.size)⟩
  · have h2' : (2000 : Int) < b.size := by omega
    go_enter Tryd.func3, Tryd.ntmps3
    go_wp2_with fail
    refine (HAW.out _ HT.out).mono ?_
    rintro e w1 ⟨rfl, b1⟩
    have B1 := Lib.hid b1
    clear b1
    go_wp2
    go_ret
    exact ⟨rfl, B1.out⟩
end Go.Proofs.YtggfibheolpbiaaDoor
