/- awake; xored. -/
import Derived.Test.YtggfibheolpbiaaDoorMac
import Derived.Test.YtggfibheolpbiaaDoorEval
namespace Go.Proofs.YtggfibheolpbiaaDoor
open Go.RowKit Go.Rt Go.Rw
attribute [local go_sem ↓] Go.wp_at_zero Go.wp_at_succ

def hexS (b : ByteArray) : ByteArray := toBytes (hexL b)
theorem hex_str (b : ByteArray) (hb : b.size ≤ 100000) (w : World) :
    Calls Tryd.prog 11 #[.string b] w fun e w' => e = .returned (.string (hexS b)) ∧ Below w.heap.size w w' := hex_any b hb w
theorem abc_hex : hexS (toBytes (sumF ⟨#[97, 98, 99]⟩)) = ⟨#[98, 97, 55, 56, 49, 54, 98, 102, 56, 102, 48, 49, 99, 102, 101, 97, 52, 49, 52, 49, 52, 48, 100, 101, 53, 100, 97, 101, 50, 50, 50, 51, 98, 48, 48, 51, 54, 49, 97, 51, 57, 54, 49, 55, 55, 97, 57, 99, 98, 52, 49, 48, 102, 102, 54, 49, 102, 50, 48, 48, 49, 53, 97, 100]⟩ := by
  rw [abc_sum]
  have : (hexL (toBytes [0xba, 0x78, 0x16, 0xbf, 0x8f, 0x01, 0xcf, 0xea, 0x41, 0x41, 0x40, 0xde, 0x5d, 0xae, 0x22, 0x23, 0xb0, 0x03, 0x61, 0xa3, 0x96, 0x17, 0x7a, 0x9c, 0xb4, 0x10, 0xff, 0x61, 0xf2, 0x00, 0x15, 0xad])).map UInt8.ofNat = [98, 97, 55, 56, 49, 54, 98, 102, 56, 102, 48, 49, 99, 102, 101, 97, 52, 49, 52, 49, 52, 48, 100, 101, 53, 100, 97, 101, 50, 50, 50, 51, 98, 48, 48, 51, 54, 49, 97, 51, 57, 54, 49, 55, 55, 97, 57, 99, 98, 52, 49, 48, 102, 102, 54, 49, 102, 50, 48, 48, 49, 53, 97, 100] := by decide +kernel
  exact congrArg (fun l : List UInt8 => ByteArray.mk l.toArray) this

set_option maxRecDepth 100000 in
theorem awake_any (w : World) (ht : Tabs w) : Calls Tryd.prog 10 #[] w fun e w' => e = .returned (.bool true) ∧ Below w.heap.size w w' := by
  have HA := Lib.hid abc_hex
  obtain ⟨A, hA⟩ : ∃ A, A = toBytes (sumF ⟨#[97, 98, 99]⟩) := ⟨_, rfl⟩
  have hs : A.size ≤ 32 := by rw [hA, toBytes_size, sumF_len]; omega
  have hsum := Lib.hid (fun W hW => sum_any ⟨#[97, 98, 99]⟩ (by decide) W hW)
  rw [← hA] at HA hsum
  have HT := Lib.hid ht
  clear hA ht
  go_enter Tryd.func10, Tryd.ntmps10
  go_wp2_with fail
  refine (hsum.out _ HT.out).mono ?_
  rintro e w1 ⟨rfl, b1⟩
  go_wp2_with fail
  refine (hex_str A (by omega) _).mono ?_
  rintro e w2 ⟨rfl, b2⟩
  rw [HA.out]
  go_wp2
  go_ret
  exact ⟨rfl, b1.trans (b2.mono b1.size)⟩

/-- A byte's cell. -/
def nC (n : Nat) : List Value := [bv n]
theorem nC_len (n : Nat) : (nC n).length = 1 := rfl
theorem nC_one (n : Nat) : ∀ u ∈ nC n, u.oneCell' = true := by simp [nC, Value.oneCell']
theorem sl_conv {W : World} {base n cap : Nat} {sa : Option Addr} {L : List Nat} (h : Sl W base 5 1 nC (.slice sa n cap) L) (h0 : 0 < L.length) (hL : ∀ x ∈ L, x < 256) :
    (convert 29 9 (.slice sa n cap)).run Tryd.prog W = .ok (.string (toBytes L)) W := by
  rcases h.form with ⟨_, e⟩ | ⟨g, cap', e, _⟩
  · rw [e] at h0; simp at h0
  · cases e
    have q := run_convert_bytes_back (P := Tryd.prog) W 29 9 5 ⟨g, 0, none⟩ cap (L.map UInt8.ofNat) und29 und5 und9 ?_
    · rw [List.length_map] at q; exact q
    · intro j hj
      rw [List.length_map] at hj
      have c := h.cell nC_len j 0 hj (by omega)
      simp only [Nat.mul_one, Nat.add_zero, nC, List.getElem?_cons_zero] at c
      have e : (⟨g, 0, none⟩ : Addr).add j = ⟨g, j, none⟩ := by unfold Addr.add; split <;> simp_all
      rw [e, c, List.getElem_map]
      have hlt : L[j] < 256 := hL _ (List.getElem_mem _)
      rw [UInt8.toNat_ofNat', Nat.mod_eq_of_lt hlt]
/-- xored, of a string of at most 64 bytes. -/
theorem blkK_get (k : ByteArray) (i : Nat) (hi : i < 64) (hk : k.size ≤ 64) : (blkK k)[i]'(by rw [blkK_len k hk]; exact hi) = (k.data.getD i 0).toNat := by
  unfold blkK
  by_cases h : i < k.size
  · rw [List.getElem_append_left (by rw [bytesN_len]; exact h), getD_of h]
    simp [bytesN]
    rfl
  · rw [List.getElem_append_right (by rw [bytesN_len]; omega)]
    have hd : ¬ i < k.data.size := h
    unfold Array.getD
    rw [dif_neg hd]
    simp
set_option maxRecDepth 100000 in
set_option maxHeartbeats 1000000 in
theorem xored_any (k : ByteArray) (x : Nat) (hk : k.size ≤ 64) (hx : x < 256) (w : World) :
    Calls Tryd.prog 15 #[.string k, .int .u8 x] w fun e w' => e = .returned (.string (toBytes (xorL k x))) ∧ Below w.heap.size w w' := by
  have HL := Lib.hid (blkK_len k hk)
  have HG := Lib.hid (fun i hi => blkK_get k i hi hk)
  have HK := Lib.hid (blkK_lt k)
  go_enter Tryd.func15, Tryd.ntmps15
  go_wp2_with fail
  go_loopw [5, 6] (fun v s wr => ∃ i : Nat, i ≤ 64 ∧ s = .int .i64 i ∧ Sl wr w.heap.size 5 1 nC v ((xorL k x).take i) ∧ Below w.heap.size w wr) (fun _ s _ => 64 - (intOf s).toNat)
  case atStart => exact ⟨0, by omega, rfl, by simpa using Sl.nil _ _ _ _ _, Below.refl _ _⟩
  case round =>
    obtain ⟨i, hi, rfl, s1, bl⟩ := hrel
    have hxl : (xorL k x).length = 64 := by simp [xorL, HL.out]
    have hlen : ((xorL k x).take i).length = i := by rw [List.length_take, hxl]; omega
    obtain ⟨sa, cap, hv⟩ := (s1.at nC_len).len.2
    rw [hlen] at hv
    subst hv
    by_cases hlt : i < 64
    · have hw0 := bl.size
      obtain ⟨y, hy⟩ : ∃ y, y = (blkK k)[i]'(by rw [HL.out]; exact hlt) := ⟨_, rfl⟩
      have hyl : y < 256 := by rw [hy]; exact HK.out _ (List.getElem_mem _)
      have hyg : y = (k.data.getD i 0).toNat := by rw [hy]; exact HG.out i hlt
      have e0 : (xorL k x).take (i + 1) = (xorL k x).take i ++ [y ^^^ x] := by
        rw [List.take_succ_eq_append_getElem (by rw [hxl]; exact hlt)]
        simp [xorL, hy]
      have ex : bits .xor .u8 (y : Int) (x : Int) = ((y ^^^ x : Nat) : Int) := u8_xor_nat y x hyl hx
      obtain ⟨g, cap2, W2, hrun, s2, hgrow, hwhere⟩ := Sl.push (P := Tryd.prog) (t := 29) (ty := 29) (s1.only (Only.alloc [] wr (.cells (nC (y ^^^ x)).toArray 5)) (fun g _ => by simp)) und29 info5 rfl (by omega) nC_len nC_one (y ^^^ x) (World.alloc_heap_new wr _) (by rw [hlen]; omega) (by rw [hlen]; omega) (by simp; omega) 1
      rw [hlen] at hrun s2
      rw [← e0] at s2
      have HS2 := Lib.hid s2
      have HB2 : Hid (Below w.heap.size w W2) := Lib.hid (bl.trans (((Below.refl w.heap.size wr).alloc hw0 _).grown hgrow (by simp; omega) (fun r hr => (s1.lt r hr).1)))
      have HRN := Lib.hid hrun
      clear hrun s2 hgrow hwhere s1 bl hlen hxl hy e0
      by_cases hin : i < k.size
      · have hin' : (i : Int) < k.size := by omega
        have hyk : k[i].toNat = y := by rw [hyg, getD_of hin]
        have HYK := Lib.hid hyk
        clear hyg hyk
        have HEX := Lib.hid ex
        clear ex
        go_wp2_with (first
          | (at_builtin; (try rw [HYK.out]); (try rw [HEX.out]); refine wpList_append_run rfl _ _ 29 29 rfl rfl rfl HRN.out ?_))
        exact ⟨⟨i + 1, by omega, by go_num, HS2.out, HB2.out⟩, by simp [intOf]; omega⟩
      · have hin' : ¬ (i : Int) < k.size := by omega
        have hy0 : y = 0 := by
          rw [hyg]
          have hd : ¬ i < k.data.size := hin
          unfold Array.getD
          rw [dif_neg hd]
          rfl
        subst hy0
        clear hyg
        have ex0 : bits .xor .u8 0 (x : Int) = ((0 ^^^ x : Nat) : Int) := ex
        have HEX := Lib.hid ex0
        clear ex ex0
        go_wp2_with (at_builtin; (try rw [HEX.out]); refine wpList_append_run rfl _ _ 29 29 rfl rfl rfl HRN.out ?_)
        exact ⟨⟨i + 1, by omega, by go_num, HS2.out, HB2.out⟩, by simp [intOf]; omega⟩
    · obtain rfl : i = 64 := by omega
      rw [List.take_of_length_le (by rw [hxl]; omega)] at s1
      have hcv := sl_conv s1 (by rw [hxl]; omega) (xorL_lt k x hx)
      have HBL := Lib.hid bl
      clear s1 bl hlen hxl
      go_wp2
      go_ret
      exact ⟨rfl, HBL.out⟩
end Go.Proofs.YtggfibheolpbiaaDoor
