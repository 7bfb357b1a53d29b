/- The walk of DigestKnown. -/
import Derived.Test.YtggfibheolpbiaaDoorLawP
namespace Go.Proofs.YtggfibheolpbiaaDoor
open Go.RowKit Go.Rt Go.Rw
theorem known_0 : hexS (toBytes (sumF ⟨#[]⟩)) = ⟨#[101, 51, 98, 48, 99, 52, 52, 50, 57, 56, 102, 99, 49, 99, 49, 52, 57, 97, 102, 98, 102, 52, 99, 56, 57, 57, 54, 102, 98, 57, 50, 52, 50, 55, 97, 101, 52, 49, 101, 52, 54, 52, 57, 98, 57, 51, 52, 99, 97, 52, 57, 53, 57, 57, 49, 98, 55, 56, 53, 50, 98, 56, 53, 53]⟩ := by
  have : (hexL (toBytes (sumF ⟨#[]⟩))).map UInt8.ofNat = [101, 51, 98, 48, 99, 52, 52, 50, 57, 56, 102, 99, 49, 99, 49, 52, 57, 97, 102, 98, 102, 52, 99, 56, 57, 57, 54, 102, 98, 57, 50, 52, 50, 55, 97, 101, 52, 49, 101, 52, 54, 52, 57, 98, 57, 51, 52, 99, 97, 52, 57, 53, 57, 57, 49, 98, 55, 56, 53, 50, 98, 56, 53, 53] := by decide +kernel
  exact congrArg (fun l : List UInt8 => ByteArray.mk l.toArray) this
theorem known_1 : hexS ⟨#[0, 255, 16]⟩ = ⟨#[48, 48, 102, 102, 49, 48]⟩ := by
  have : (hexL ⟨#[0, 255, 16]⟩).map UInt8.ofNat = [48, 48, 102, 102, 49, 48] := by decide +kernel
  exact congrArg (fun l : List UInt8 => ByteArray.mk l.toArray) this
theorem known_2 : hexS (toBytes (macF ⟨#[74, 101, 102, 101]⟩ ⟨#[119, 104, 97, 116, 32, 100, 111, 32, 121, 97, 32, 119, 97, 110, 116, 32, 102, 111, 114, 32, 110, 111, 116, 104, 105, 110, 103, 63]⟩)) = ⟨#[53, 98, 100, 99, 99, 49, 52, 54, 98, 102, 54, 48, 55, 53, 52, 101, 54, 97, 48, 52, 50, 52, 50, 54, 48, 56, 57, 53, 55, 53, 99, 55, 53, 97, 48, 48, 51, 102, 48, 56, 57, 100, 50, 55, 51, 57, 56, 51, 57, 100, 101, 99, 53, 56, 98, 57, 54, 52, 101, 99, 51, 56, 52, 51]⟩ := by
  have : (hexL (toBytes (macF ⟨#[74, 101, 102, 101]⟩ ⟨#[119, 104, 97, 116, 32, 100, 111, 32, 121, 97, 32, 119, 97, 110, 116, 32, 102, 111, 114, 32, 110, 111, 116, 104, 105, 110, 103, 63]⟩))).map UInt8.ofNat = [53, 98, 100, 99, 99, 49, 52, 54, 98, 102, 54, 48, 55, 53, 52, 101, 54, 97, 48, 52, 50, 52, 50, 54, 48, 56, 57, 53, 55, 53, 99, 55, 53, 97, 48, 48, 51, 102, 48, 56, 57, 100, 50, 55, 51, 57, 56, 51, 57, 100, 101, 99, 53, 56, 98, 57, 54, 52, 101, 99, 51, 56, 52, 51] := by decide +kernel
  exact congrArg (fun l : List UInt8 => ByteArray.mk l.toArray) this
theorem known_3 : hexS (toBytes (macF ⟨#[11, 11, 11, 11, 11, 11, 11, 11, 11, 11, 11, 11, 11, 11, 11, 11, 11, 11, 11, 11]⟩ ⟨#[72, 105, 32, 84, 104, 101, 114, 101]⟩)) = ⟨#[98, 48, 51, 52, 52, 99, 54, 49, 100, 56, 100, 98, 51, 56, 53, 51, 53, 99, 97, 56, 97, 102, 99, 101, 97, 102, 48, 98, 102, 49, 50, 98, 56, 56, 49, 100, 99, 50, 48, 48, 99, 57, 56, 51, 51, 100, 97, 55, 50, 54, 101, 57, 51, 55, 54, 99, 50, 101, 51, 50, 99, 102, 102, 55]⟩ := by
  have : (hexL (toBytes (macF ⟨#[11, 11, 11, 11, 11, 11, 11, 11, 11, 11, 11, 11, 11, 11, 11, 11, 11, 11, 11, 11]⟩ ⟨#[72, 105, 32, 84, 104, 101, 114, 101]⟩))).map UInt8.ofNat = [98, 48, 51, 52, 52, 99, 54, 49, 100, 56, 100, 98, 51, 56, 53, 51, 53, 99, 97, 56, 97, 102, 99, 101, 97, 102, 48, 98, 102, 49, 50, 98, 56, 56, 49, 100, 99, 50, 48, 48, 99, 57, 56, 51, 51, 100, 97, 55, 50, 54, 101, 57, 51, 55, 54, 99, 50, 101, 51, 50, 99, 102, 102, 55] := by decide +kernel
  exact congrArg (fun l : List UInt8 => ByteArray.mk l.toArray) this
set_option maxRecDepth 100000 in
set_option maxHeartbeats 4000000 in
theorem known_walk (w : World) (ht : Tabs w) : Calls Tryd.prog 8 #[] w fun e w' => e = .returned (.bool true) ∧ Below w.heap.size w w' := by
  have HT := Lib.hid ht
  have K0 := Lib.hid known_0
  have K1 := Lib.hid known_1
  have K2 := Lib.hid known_2
  have K3 := Lib.hid known_3
  have C0 := Lib.hid (fun W hW => sum_any ⟨#[]⟩ (by decide) W hW)
  have C2 := Lib.hid (fun W hW => mac_any ⟨#[74, 101, 102, 101]⟩ ⟨#[119, 104, 97, 116, 32, 100, 111, 32, 121, 97, 32, 119, 97, 110, 116, 32, 102, 111, 114, 32, 110, 111, 116, 104, 105, 110, 103, 63]⟩ (by decide) (by decide) W hW)
  have C3 := Lib.hid (fun W hW => mac_any ⟨#[11, 11, 11, 11, 11, 11, 11, 11, 11, 11, 11, 11, 11, 11, 11, 11, 11, 11, 11, 11]⟩ ⟨#[72, 105, 32, 84, 104, 101, 114, 101]⟩ (by decide) (by decide) W hW)
  obtain ⟨A0, hA0⟩ : ∃ A, A = toBytes (sumF ⟨#[]⟩) := ⟨_, rfl⟩
  obtain ⟨A2, hA2⟩ : ∃ A, A = toBytes (macF ⟨#[74, 101, 102, 101]⟩ ⟨#[119, 104, 97, 116, 32, 100, 111, 32, 121, 97, 32, 119, 97, 110, 116, 32, 102, 111, 114, 32, 110, 111, 116, 104, 105, 110, 103, 63]⟩) := ⟨_, rfl⟩
  obtain ⟨A3, hA3⟩ : ∃ A, A = toBytes (macF ⟨#[11, 11, 11, 11, 11, 11, 11, 11, 11, 11, 11, 11, 11, 11, 11, 11, 11, 11, 11, 11]⟩ ⟨#[72, 105, 32, 84, 104, 101, 114, 101]⟩) := ⟨_, rfl⟩
  have z0 : A0.size ≤ 32 := by rw [hA0, toBytes_size, sumF_len]; omega
  have z2 : A2.size ≤ 32 := by rw [hA2, toBytes_size]; unfold macF; rw [sumF_len]; omega
  have z3 : A3.size ≤ 32 := by rw [hA3, toBytes_size]; unfold macF; rw [sumF_len]; omega
  rw [← hA0] at K0 C0
  rw [← hA2] at K2 C2
  rw [← hA3] at K3 C3
  have E1 : Hid (∀ W, Calls Tryd.prog 13 #[.string ⟨#[97, 98]⟩, .string ⟨#[97, 98]⟩] W fun e w' => e = .returned (.bool true) ∧ Below W.heap.size W w') := by
    refine Lib.hid fun W => ?_
    have := equal_any ⟨#[97, 98]⟩ ⟨#[97, 98]⟩ (by decide) (by decide) W
    rw [show decide ((⟨#[97, 98]⟩ : ByteArray) = ⟨#[97, 98]⟩) = true by simp] at this
    exact this
  have E2 : Hid (∀ W, Calls Tryd.prog 13 #[.string ⟨#[97, 98]⟩, .string ⟨#[97, 99]⟩] W fun e w' => e = .returned (.bool false) ∧ Below W.heap.size W w') := by
    refine Lib.hid fun W => ?_
    have := equal_any ⟨#[97, 98]⟩ ⟨#[97, 99]⟩ (by decide) (by decide) W
    rw [show decide ((⟨#[97, 98]⟩ : ByteArray) = ⟨#[97, 99]⟩) = false by decide] at this
    exact this
  have E3 : Hid (∀ W, Calls Tryd.prog 13 #[.string ⟨#[97, 98]⟩, .string ⟨#[97]⟩] W fun e w' => e = .returned (.bool false) ∧ Below W.heap.size W w') := by
    refine Lib.hid fun W => ?_
    have := equal_any ⟨#[97, 98]⟩ ⟨#[97]⟩ (by decide) (by decide) W
    rw [show decide ((⟨#[97, 98]⟩ : ByteArray) = ⟨#[97]⟩) = false by decide] at this
    exact this
  have HB0 : Hid (Below w.heap.size w w) := Lib.hid (Below.refl _ _)
  clear hA0 hA2 hA3 ht
  go_enter Tryd.func8, Tryd.ntmps8
  go_wp2_with fail
  refine (C0.out _ (HT.out.below HB0.out HT.out.two)).mono ?_
  rintro e w1 ⟨rfl, b1⟩
  have HB1 := Lib.hid (HB0.out.trans (b1.mono HB0.out.size))
  clear b1
  go_wp2_with fail
  refine (hex_str A0 (by omega) _).mono ?_
  rintro e w2 ⟨rfl, b2⟩
  rw [K0.out]
  have HB2 := Lib.hid (HB1.out.trans (b2.mono HB1.out.size))
  clear b2
  go_wp2_with fail
  refine (hex_str ⟨#[0, 255, 16]⟩ (by decide) _).mono ?_
  rintro e w3 ⟨rfl, b3⟩
  rw [K1.out]
  have HB3 := Lib.hid (HB2.out.trans (b3.mono HB2.out.size))
  clear b3
  go_wp2_with fail
  refine (C2.out _ (HT.out.below HB3.out HT.out.two)).mono ?_
  rintro e w4 ⟨rfl, b4⟩
  have HB4 := Lib.hid (HB3.out.trans (b4.mono HB3.out.size))
  clear b4
  go_wp2_with fail
  refine (hex_str A2 (by omega) _).mono ?_
  rintro e w5 ⟨rfl, b5⟩
  rw [K2.out]
  have HB5 := Lib.hid (HB4.out.trans (b5.mono HB4.out.size))
  clear b5
  go_wp2_with fail
  refine (C3.out _ (HT.out.below HB5.out HT.out.two)).mono ?_
  rintro e w6 ⟨rfl, b6⟩
  have HB6 := Lib.hid (HB5.out.trans (b6.mono HB5.out.size))
  clear b6
  go_wp2_with fail
  refine (hex_str A3 (by omega) _).mono ?_
  rintro e w7 ⟨rfl, b7⟩
  rw [K3.out]
  have HB7 := Lib.hid (HB6.out.trans (b7.mono HB6.out.size))
  clear b7
  go_wp2_with fail
  refine (E1.out _).mono ?_
  rintro e w8 ⟨rfl, b8⟩
  have HB8 := Lib.hid (HB7.out.trans (b8.mono HB7.out.size))
  clear b8
  go_wp2_with fail
  refine (E2.out _).mono ?_
  rintro e w9 ⟨rfl, b9⟩
  have HB9 := Lib.hid (HB8.out.trans (b9.mono HB8.out.size))
  clear b9
  go_wp2_with fail
  refine (E3.out _).mono ?_
  rintro e w10 ⟨rfl, b10⟩
  have HB10 := Lib.hid (HB9.out.trans (b10.mono HB9.out.size))
  clear b10
  go_wp2_with fail
  refine (awake_any _ (HT.out.below HB10.out HT.out.two)).mono ?_
  rintro e w11 ⟨rfl, b11⟩
  have HB11 := Lib.hid (HB10.out.trans (b11.mono HB10.out.size))
  clear b11
  go_wp2
  go_ret
  exact ⟨rfl, HB11.out⟩
end Go.Proofs.YtggfibheolpbiaaDoor
