/- digest.Hex and digest.Equal. digest.Equal and the reference's Hex. Plain: digests that are known. digest.Mac. awake; xored. -/
import Derived.Test.YtnkkbkceapcahaaDoorTail1
import Derived.Deep.RegionLaw
import Derived.Deep.RegionHeld3
import Derived.LoopTactic
import Derived.Deep.DrawnRows
import Derived.Test.YtnkkbkceapcahaaDoorSum
import Derived.Lib.BufferWrite
import Derived.Lib.SlBuf
import Derived.Deep.RegionWith
import Derived.Deep.DeepCutAuto
namespace Go.Proofs.YtnkkbkceapcahaaDoor
open Go.RowKit Go.Rt
attribute [local go_sem ↓] Go.wp_at_zero Go.wp_at_succ

end Go.Proofs.YtnkkbkceapcahaaDoor
namespace Go.Proofs.YtnkkbkceapcahaaDoor
open Go.RowKit Go.Rt
attribute [local go_sem ↓] Go.wp_at_zero Go.wp_at_succ

/-- The bits in which the first k bytes differ. -/
def diffF (a b : ByteArray) : Nat → Nat
  | 0 => 0
  | k + 1 => diffF a b k ||| ((a.data.getD k 0).toNat ^^^ (b.data.getD k 0).toNat)
theorem diff_lt (a b : ByteArray) (k : Nat) : diffF a b k < 256 := by
  induction k with
  | zero => simp [diffF]
  | succ k ih => exact Nat.or_lt_two_pow (n := 8) ih (Nat.xor_lt_two_pow (n := 8) (a.data.getD k 0).toNat_lt (b.data.getD k 0).toNat_lt)
theorem diff_zero (a b : ByteArray) (k : Nat) : diffF a b k = 0 ↔ ∀ j, j < k → a.data.getD j 0 = b.data.getD j 0 := by
  induction k with
  | zero => simp [diffF]
  | succ k ih =>
    rw [diffF, Nat.or_eq_zero_iff, ih]
    have hx : ((a.data.getD k 0).toNat ^^^ (b.data.getD k 0).toNat = 0) ↔ a.data.getD k 0 = b.data.getD k 0 := by
      rw [← UInt8.toNat_xor]
      constructor
      · intro h
        exact UInt8.xor_eq_zero_iff.1 (UInt8.toNat_inj.1 h)
      · intro h
        rw [UInt8.xor_eq_zero_iff.2 h]; rfl
    rw [hx]
    constructor
    · rintro ⟨h1, h2⟩ j hj
      by_cases e : j = k
      · subst e; exact h2
      · exact h1 j (by omega)
    · exact fun h => ⟨fun j hj => h j (by omega), h k (by omega)⟩
theorem getD_of {a : ByteArray} {k : Nat} (h : k < a.size) : (a.data.getD k 0) = a[k] := by
  have hd : k < a.data.size := h
  unfold Array.getD
  rw [dif_pos hd]
  rfl
theorem bytes_ext (a b : ByteArray) (hs : a.size = b.size) (h : ∀ j, j < a.size → a.data.getD j 0 = b.data.getD j 0) : a = b := by
  apply ByteArray.ext
  apply Array.ext
  · exact hs
  · intro j h1 h2
    have q := h j h1
    rw [getD_of h1, getD_of h2] at q
    exact q

set_option maxRecDepth 100000 in
set_option maxHeartbeats 1000000 in
theorem equal_any (a b : ByteArray) (ha : a.size ≤ 100000) (hb : b.size ≤ 100000) (w : World) :
    Calls Tryd.prog 61 #[.string a, .string b] w fun e w' => e = .returned (.bool (decide (a = b))) ∧ Below w.heap.size w w' := by
  obtain ⟨q, hq⟩ : ∃ q, q = decide (a = b) := ⟨_, rfl⟩
  rw [← hq]
  have HQ := Lib.hid hq
  clear hq
  by_cases hs : a.size = b.size
  · have h1 : ((a.size : Int) != b.size) = false := by rw [hs]; simp
    have HS := Lib.hid hs
    clear hs
    go_enter Tryd.func61, Tryd.ntmps61
    go_wp2
    go_loopw [5, 14] (fun d x wr => ∃ k n : Nat, k ≤ a.size ∧ x = .int .i64 k ∧ d = .int .u8 (diffF a b k : Nat) ∧ wr = w.drewN n) (fun _ x _ => a.size - (intOf x).toNat)
    case atStart => exact ⟨0, 0, by omega, rfl, rfl, rfl⟩
    case round =>
      obtain ⟨k, n, hk, rfl, rfl, rfl⟩ := hrel
      by_cases hlt : k < a.size
      · have hlt' : (k : Int) < a.size := by omega
        have hltb : (k : Int) < b.size := by have := HS.out; omega
        have hltb2 : k < b.size := by have := HS.out; omega
        have hd := diff_lt a b k
        have HD : Hid (diffF a b (k + 1) = diffF a b k ||| (a[k].toNat ^^^ b[k].toNat)) := by
          refine Lib.hid ?_
          rw [diffF, getD_of hlt, getD_of hltb2]
        have e1 : bits .or .u8 (diffF a b k : Int) (bits .xor .u8 (a[k].toNat : Int) (b[k].toNat : Int)) = ((diffF a b k ||| (a[k].toNat ^^^ b[k].toNat) : Nat) : Int) := by
          rw [u8_xor_nat _ _ a[k].toNat_lt b[k].toNat_lt, u8_or_nat _ _ hd (Nat.xor_lt_two_pow (n := 8) a[k].toNat_lt b[k].toNat_lt)]
        obtain ⟨wq, hwq⟩ : ∃ wq, wq = w.drewN n := ⟨_, rfl⟩
        rw [← hwq]
        have HW := Lib.hid hwq
        clear hwq
        have HE := Lib.hid e1
        clear e1
        go_wp2
        go_quiet (fail)
        go_wp2
        go_roundw
        case rel => exact ⟨k + 1, n + nq, by omega, by go_num, by rw [HE.out, HD.out], by rw [HW.out, World.drewN_drewN]⟩
        case measure => simp [intOf]; omega
      · obtain rfl : k = a.size := by omega
        have hfin : ((diffF a b a.size : Int) == 0) = q := by
          rw [HQ.out, Bool.eq_iff_iff, beq_iff_eq, decide_eq_true_eq]
          constructor
          · intro h
            exact bytes_ext a b HS.out ((diff_zero a b a.size).1 (by omega))
          · rintro rfl
            have := (diff_zero a a a.size).2 (fun _ _ => rfl)
            omega
        go_wp2
        go_ret
        exact ⟨rfl, ⟨rfl, rfl, rfl, Nat.le_refl _, fun _ _ => rfl⟩⟩
  · have h1 : ((a.size : Int) != b.size) = true := by rw [bne_iff_ne]; omega
    have h2 : q = false := by rw [HQ.out, decide_eq_false_iff_not]; rintro rfl; exact hs rfl
    subst h2
    clear hs
    go_enter Tryd.func61, Tryd.ntmps61
    go_wp2
    go_ret
    exact ⟨rfl, Below.refl _ _⟩
end Go.Proofs.YtnkkbkceapcahaaDoor
namespace Go.Proofs.YtnkkbkceapcahaaDoor
theorem abc_sum : sumF ⟨#[97, 98, 99]⟩ = [0xba, 0x78, 0x16, 0xbf, 0x8f, 0x01, 0xcf, 0xea, 0x41, 0x41, 0x40, 0xde, 0x5d, 0xae, 0x22, 0x23, 0xb0, 0x03, 0x61, 0xa3, 0x96, 0x17, 0x7a, 0x9c, 0xb4, 0x10, 0xff, 0x61, 0xf2, 0x00, 0x15, 0xad] := by decide +kernel
end Go.Proofs.YtnkkbkceapcahaaDoor
namespace Go.Proofs.YtnkkbkceapcahaaDoor
open Go.RowKit Go.Rt
attribute [local go_sem ↓] Go.wp_at_zero Go.wp_at_succ

def blkK (k : ByteArray) : List Nat := bytesN k ++ List.replicate (64 - k.size) 0
theorem blkK_len (k : ByteArray) (h : k.size ≤ 64) : (blkK k).length = 64 := by simp [blkK, bytesN_len]; omega
theorem blkK_lt (k : ByteArray) : ∀ x ∈ blkK k, x < 256 := by
  intro x hx
  rcases List.mem_append.1 hx with h | h
  · exact bytesN_lt k x h
  · have := List.eq_of_mem_replicate h; omega
/-- The block of a key, each byte xored with a number. -/
def xorL (k : ByteArray) (x : Nat) : List Nat := (blkK k).map (· ^^^ x)
def xorK (k : ByteArray) (x i : Nat) : List Nat := ((blkK k).take i).map (· ^^^ x) ++ (blkK k).drop i
theorem xorK_set (k : ByteArray) (x i : Nat) (h : i < (blkK k).length) : (xorK k x i).set i ((blkK k)[i] ^^^ x) = xorK k x (i + 1) := by
  unfold xorK
  rw [List.set_append_right _ _ (by simp; omega), List.take_succ_eq_append_getElem h, List.map_append, List.append_assoc]
  congr 1
  have : i - (((blkK k).take i).map (· ^^^ x)).length = 0 := by simp; omega
  rw [this, List.drop_eq_getElem_cons h]
  rfl
theorem xorK_get (k : ByteArray) (x i : Nat) (h : i < (blkK k).length) : (xorK k x i).getD i 0 = (blkK k)[i] := by
  unfold xorK
  rw [List.getD_eq_getElem?_getD, List.getElem?_append_right (by simp; omega)]
  have : i - (((blkK k).take i).map (· ^^^ x)).length = 0 := by simp; omega
  rw [this, List.drop_eq_getElem_cons h]
  rfl
theorem xorK_len (k : ByteArray) (x i : Nat) : (xorK k x i).length = (blkK k).length := by
  unfold xorK
  simp
  omega
theorem xorK_end (k : ByteArray) (x : Nat) (h : k.size ≤ 64) : xorK k x 64 = xorL k x := by
  unfold xorK xorL
  rw [List.take_of_length_le (by rw [blkK_len k h]; omega), List.drop_of_length_le (by rw [blkK_len k h]; omega), List.append_nil]
theorem xorL_lt (k : ByteArray) (x : Nat) (hx : x < 256) : ∀ y ∈ xorL k x, y < 256 := by
  intro y hy
  obtain ⟨c, hc, rfl⟩ := List.mem_map.1 hy
  exact Nat.xor_lt_two_pow (n := 8) (blkK_lt k c hc) hx
def keyF (key : ByteArray) : ByteArray := if 64 < key.size then toBytes (sumF key) else key
def macF (key b : ByteArray) : List Nat := sumF (toBytes (xorL (keyF key) 92) ++ toBytes (sumF (toBytes (xorL (keyF key) 54) ++ b)))
theorem toBytes_size (l : List Nat) : (toBytes l).size = l.length := by simp [toBytes, ← ByteArray.size_data]
theorem sumF_len (b : ByteArray) : (sumF b).length = 32 := by simp [sumF, outF]
theorem keyF_size (key : ByteArray) : (keyF key).size ≤ 64 := by
  unfold keyF
  split
  · rw [toBytes_size, sumF_len]; omega
  · omega
theorem blk_conv {W : World} {g n : Nat} {t : TypeId} {L : List Nat} (h : Blk W g t (L.map bv).toArray) (hn : L.length = n) (hL : ∀ x ∈ L, x < 256) :
    (convert 81 9 (.slice (some ⟨g, 0, none⟩) n n)).run Tryd.prog W = .ok (.string (toBytes L)) W := by
  have q := run_convert_bytes_back (P := Tryd.prog) W 81 9 5 ⟨g, 0, none⟩ n (L.map UInt8.ofNat) und29 und5 und9 ?_
  · rw [List.length_map, hn] at q; exact q
  · intro j hj
    rw [List.length_map] at hj
    have e : (⟨g, 0, none⟩ : Addr).add j = ⟨g, j, none⟩ := by unfold Addr.add; split <;> simp_all
    rw [e, h.cell j, map_get _ _ hj, List.getElem_map]
    have hlt : L[j] < 256 := hL _ (List.getElem_mem _)
    rw [UInt8.toNat_ofNat', Nat.mod_eq_of_lt hlt]
theorem copy_key {w : World} {g : Nat} (k : ByteArray) (hk : k.size ≤ 64) (hb : Blk w g 110 (List.replicate 64 (bv 0)).toArray) :
    ∃ W', (Builtin.copy_ #[81, 9] 3 #[.slice (some ⟨g, 0, none⟩) 64 64, .string k]).run Tryd.prog w = .ok (goInt k.size) W' ∧ Blk W' g 110 ((blkK k).map bv).toArray ∧ Only [g] w W' := by
  have hr := Lib.run_copy_row_string (P := Tryd.prog) w 81 9 3 5 g 0 64 64 k _ 110 und29 (by kernel_rfl) hb (by omega) (by simp; omega)
  refine ⟨_, hr, ?_, ?_⟩
  · have q := setRow_heap w g _ ((List.take 0 (List.replicate 64 (bv 0)).toArray.toList ++ Lib.byteCells k.data.toList ++ List.drop (0 + k.size) (List.replicate 64 (bv 0)).toArray.toList).toArray) 110 (0, 0) hb
    have e : List.take 0 (List.replicate 64 (bv 0)).toArray.toList ++ Lib.byteCells k.data.toList ++ List.drop (0 + k.size) (List.replicate 64 (bv 0)).toArray.toList = (blkK k).map bv := by
      simp only [List.take_zero, List.nil_append, Nat.zero_add, List.drop_replicate, blkK, bytesN, Lib.byteCells, List.map_append, List.map_map, List.map_replicate]
      rfl
    rw [e] at q ⊢
    exact q
  · exact ⟨rfl, rfl, rfl, by simp, fun j _ hj => setRow_other w g j _ (by simpa using hj)⟩

set_option maxRecDepth 100000 in
set_option maxHeartbeats 2000000 in
theorem mac_any (key b : ByteArray) (hk : key.size ≤ 90000) (hb : b.size ≤ 90000) (w : World) (ht : Tabs w) :
    Calls Tryd.prog 67 #[.string key, .string b] w fun e w' => e = .returned (.string (toBytes (macF key b))) ∧ Below w.heap.size w w' := by
  have hks := keyF_size key
  have HM : Hid (macF key b = sumF (toBytes (xorL (keyF key) 92) ++ toBytes (sumF (toBytes (xorL (keyF key) 54) ++ b)))) := Lib.hid rfl
  have HK : Hid (keyF key = if 64 < key.size then toBytes (sumF key) else key) := Lib.hid rfl
  have hsum := Lib.hid (sum_any key (by omega) w ht)
  obtain ⟨K, hK⟩ : ∃ K, K = keyF key := ⟨_, rfl⟩
  rw [← hK] at hks HM HK
  have HT := Lib.hid ht
  clear hK ht
  go_enter Tryd.func67, Tryd.ntmps67
  go_upto_if 10 with fail
  go_cut [0] (fun s0 wx => s0 = .string K ∧ Below w.heap.size w wx)
  case first =>
    by_cases h64 : 64 < key.size
    · have h64' : (64 : Int) < key.size := by omega
      have e : K = toBytes (sumF key) := by rw [HK.out, if_pos h64]
      have HE := Lib.hid e
      clear e
      go_wp2_with fail
      refine hsum.out.mono ?_
      rintro e w1 ⟨rfl, b1⟩
      rw [← HE.out]
      go_wp2_with fail
      go_meet
      exact ⟨rfl, b1⟩
    · have h64' : ¬ (64 : Int) < key.size := by omega
      have e : K = key := by rw [HK.out, if_neg h64]
      subst e
      go_wp2_with fail
      go_meet
      exact ⟨rfl, Below.refl _ _⟩
  case rest =>
    obtain ⟨rfl, bl⟩ := hcut
    have HBL := Lib.hid bl
    clear bl
    obtain ⟨W1, hr1, b1, o1⟩ := copy_key (w := (wc.alloc (.cells (List.replicate 64 (bv 0)).toArray 110)).alloc (.cells (List.replicate 64 (bv 0)).toArray 110)) (g := wc.heap.size) K hks ((Blk.new wc 110 _).alloc _)
    have b1' : Blk W1 (wc.heap.size + 1) 110 (List.replicate 64 (bv 0)).toArray := by
      have q := Blk.new (wc.alloc (.cells (List.replicate 64 (bv 0)).toArray 110)) 110 (List.replicate 64 (bv 0)).toArray
      rw [World.size_alloc] at q
      exact q.only o1 (by simp)
    obtain ⟨W2, hr2, b2, o2⟩ := copy_key (w := W1) (g := wc.heap.size + 1) K hks b1'
    have b3 : Blk W2 wc.heap.size 110 ((blkK K).map bv).toArray := b1.only o2 (by simp)
    have HR1 := Lib.hid hr1
    have HR2 := Lib.hid hr2
    have HB2 := Lib.hid b2
    have HB3 := Lib.hid b3
    have HBW : Hid (Below wc.heap.size wc W2) := Lib.hid ((((Below.refl _ wc).alloc (Nat.le_refl _) _).alloc (by simp) _).trans ((o1.below (n := wc.heap.size) (by simp) (by simp; omega)).trans (o2.below (n := wc.heap.size) (by simp) (by have := o1.size; simp at this; omega))))
    clear hr1 hr2 b1 b1' b2 b3 o1 o2
    go_wp2_with (first
      | (refine Lib.wpList_copy_run _ rfl (.tmp 13) (.tmp 14) 81 9 rfl _ _ rfl rfl HR1.out ?_)
      | (refine Lib.wpList_copy_run _ rfl (.tmp 16) (.tmp 17) 81 9 rfl _ _ rfl rfl HR2.out ?_))
    have HXE1 := Lib.hid (xorK_end K 54 hks)
    have HXE2 := Lib.hid (xorK_end K 92 hks)
    have HXS := Lib.hid (xorK_set K)
    have HXG := Lib.hid (xorK_get K)
    have HXL := Lib.hid (xorK_len K)
    have HKL := Lib.hid (blkK_len K hks)
    have HKT := Lib.hid (blkK_lt K)
    have hx0 : ∀ x, xorK K x 0 = blkK K := by intro x; simp [xorK]
    have HX0 := Lib.hid hx0
    clear hx0
    go_loopw [19] (fun x wr => ∃ i : Nat, i ≤ 64 ∧ x = .int .i64 i ∧ Blk wr wc.heap.size 110 ((xorK K 54 i).map bv).toArray ∧ Blk wr (wc.heap.size + 1) 110 ((xorK K 92 i).map bv).toArray ∧ Below wc.heap.size wc wr) (fun s _ => 64 - (intOf s).toNat)
    case atStart => exact ⟨0, by omega, rfl, by rw [HX0.out]; exact HB3.out, by rw [HX0.out]; exact HB2.out, HBW.out⟩
    case round =>
      obtain ⟨i, hi, rfl, b1, b2, bl⟩ := hrel
      clear HB2 HB3 HBW
      by_cases hlt : i < 64
      · have hil : i < (blkK K).length := by rw [HKL.out]; exact hlt
        have c1 := b1.cell i
        have c2 := b2.cell i
        rw [map_get _ _ (by rw [HXL.out]; exact hil)] at c1 c2
        have g1 := HXG.out 54 i hil
        have g2 := HXG.out 92 i hil
        rw [List.getD_eq_getElem?_getD, List.getElem?_eq_getElem (by rw [HXL.out]; exact hil)] at g1 g2
        simp only [Option.getD_some] at g1 g2
        rw [g1] at c1
        rw [g2] at c2
        have s1 := HXS.out 54 i hil
        have s2 := HXS.out 92 i hil
        have hxl := HKT.out _ (List.getElem_mem hil)
        obtain ⟨x, hx⟩ : ∃ x, x = (blkK K)[i] := ⟨_, rfl⟩
        rw [← hx] at c1 c2 s1 s2 hxl
        have S1 := Lib.hid s1
        have S2 := Lib.hid s2
        have e1 : bits .xor .u8 (x : Int) 54 = ((x ^^^ 54 : Nat) : Int) := u8_xor_nat x 54 hxl (by omega)
        have e2 : bits .xor .u8 (x : Int) 92 = ((x ^^^ 92 : Nat) : Int) := u8_xor_nat x 92 hxl (by omega)
        have f1 := b1.frozen i
        have f2 := b2.frozen i
        have HB1 := Lib.hid b1
        have HB2 := Lib.hid b2
        have HBL2 := Lib.hid bl
        have i0 : (0 : Int) ≤ (i : Int) := by omega
        have i1 : (i : Int) < 64 := by omega
        clear b1 b2 bl hx g1 g2 s1 s2 hil
        go_wp2
        go_roundw
        case rel =>
          have q1 := (HB1.out.set_ i (bv (x ^^^ 54))).far (p := ⟨wc.heap.size + 1, i, none⟩) (by simp) (bv (x ^^^ 92))
          have q2 := (HB2.out.far (p := ⟨wc.heap.size, i, none⟩) (by simp) (bv (x ^^^ 54))).set_ i (bv (x ^^^ 92))
          rw [map_set, S1.out] at q1
          rw [map_set, S2.out] at q2
          exact ⟨i + 1, by omega, by go_num, q1, q2, (HBL2.out.setCell (by simp) _).setCell (by simp) _⟩
        case measure => simp [intOf]; omega
      · obtain rfl : i = 64 := by omega
        rw [HXE1.out] at b1
        rw [HXE2.out] at b2
        have HW : Hid (Below w.heap.size w wr) := Lib.hid (HBL.out.trans (bl.mono HBL.out.size))
        have hTW : ∀ W, Below wr.heap.size wr W → Tabs W := fun W hW => (HT.out.below HW.out HT.out.two).below hW (by have := HT.out.two; have := HW.out.size; omega)
        obtain ⟨I1, hI1⟩ : ∃ I, I = toBytes (xorL K 54) := ⟨_, rfl⟩
        obtain ⟨I2, hI2⟩ : ∃ I, I = toBytes (xorL K 92) := ⟨_, rfl⟩
        have hz1 : I1.size ≤ 64 := by rw [hI1, toBytes_size]; simp [xorL, HKL.out]
        have hz2 : I2.size ≤ 64 := by rw [hI2, toBytes_size]; simp [xorL, HKL.out]
        have HCI : Hid (∀ W, Below wr.heap.size wr W → (convert 81 9 (.slice (some ⟨wc.heap.size, 0, none⟩) 64 64)).run Tryd.prog W = .ok (.string I1) W) := by
          refine Lib.hid fun W hW => ?_
          rw [hI1]
          exact blk_conv (b1.below hW b1.lt) (by simp [xorL, HKL.out]) (xorL_lt K 54 (by omega))
        have HCO : Hid (∀ W, Below wr.heap.size wr W → (convert 81 9 (.slice (some ⟨wc.heap.size + 1, 0, none⟩) 64 64)).run Tryd.prog W = .ok (.string I2) W) := by
          refine Lib.hid fun W hW => ?_
          rw [hI2]
          exact blk_conv (b2.below hW b2.lt) (by simp [xorL, HKL.out]) (xorL_lt K 92 (by omega))
        obtain ⟨D1, hD1⟩ : ∃ D, D = toBytes (sumF (I1 ++ b)) := ⟨_, rfl⟩
        have hz3 : D1.size ≤ 32 := by rw [hD1, toBytes_size, sumF_len]; omega
        obtain ⟨M, hM⟩ : ∃ M, M = toBytes (macF key b) := ⟨_, rfl⟩
        have C1 : Hid (∀ W, Below wr.heap.size wr W → Calls Tryd.prog 73 #[.string (I1 ++ b)] W fun e w' => e = .returned (.string D1) ∧ Below W.heap.size W w') := by
          refine Lib.hid fun W hW => ?_
          rw [hD1]
          exact sum_any _ (by rw [ByteArray.size_append]; omega) W (hTW W hW)
        have C2 : Hid (∀ W, Below wr.heap.size wr W → Calls Tryd.prog 73 #[.string (I2 ++ D1)] W fun e w' => e = .returned (.string M) ∧ Below W.heap.size W w') := by
          refine Lib.hid fun W hW => ?_
          have e : M = toBytes (sumF (I2 ++ D1)) := by rw [hM, HM.out, ← hI1, ← hI2, ← hD1]
          rw [e]
          exact sum_any _ (by rw [ByteArray.size_append]; omega) W (hTW W hW)
        have HMM := Lib.hid hM
        have ci := HCI.out wr (Below.refl _ _)
        have co := HCO.out wr (Below.refl _ _)
        have ci' := HCI.out wr.drew (Below.refl _ _).drew
        have co' := HCO.out wr.drew (Below.refl _ _).drew
        have hz4 : I1.size + b.size ≤ 100000 := by omega
        have hz5 : I2.size + D1.size ≤ 100000 := by omega
        clear hI1 hI2 hD1 hM b1 b2 bl hTW
        rw [show ((64 : Nat) : Int) = 64 from rfl]
        go_wp2_with fail
        go_region_with (first
          | (go_at_call_of 73 (Value.string (I1 ++ b)); refine (C1.out _ (Below.refl _ _).drew).mono ?_; rintro e w3 ⟨rfl, b3⟩; have co3 := HCO.out w3 ((Below.refl _ wr).drew.trans b3))
          | (go_at_call_of 73 (Value.string (I2 ++ D1)); refine (C2.out _ ((Below.refl _ wr).drew.trans b3)).mono ?_; rintro e w4 ⟨rfl, b4⟩))
        all_goals
          go_wp2_with fail
          go_ret
          have h3 : Below wr.heap.size wr w3 := (Below.refl _ wr).drew.trans b3
          exact ⟨by rw [HMM.out]; rfl, HW.out.trans ((h3.trans (b4.mono h3.size)).mono HW.out.size)⟩
end Go.Proofs.YtnkkbkceapcahaaDoor
namespace Go.Proofs.YtnkkbkceapcahaaDoor
open Go.RowKit Go.Rt Go.Rw
attribute [local go_sem ↓] Go.wp_at_zero Go.wp_at_succ

def nC (n : Nat) : List Value := [bv n]
theorem nC_len (n : Nat) : (nC n).length = 1 := rfl
theorem nC_one (n : Nat) : ∀ u ∈ nC n, u.oneCell' = true := by simp [nC, Value.oneCell']
theorem sl_conv {W : World} {base n cap : Nat} {sa : Option Addr} {L : List Nat} (h : Sl W base 5 1 nC (.slice sa n cap) L) (h0 : 0 < L.length) (hL : ∀ x ∈ L, x < 256) :
    (convert 81 9 (.slice sa n cap)).run Tryd.prog W = .ok (.string (toBytes L)) W := by
  rcases h.form with ⟨_, e⟩ | ⟨g, cap', e, _⟩
  · rw [e] at h0; simp at h0
  · cases e
    have q := run_convert_bytes_back (P := Tryd.prog) W 81 9 5 ⟨g, 0, none⟩ cap (L.map UInt8.ofNat) und29 und5 und9 ?_
    · rw [List.length_map] at q; exact q
    · intro j hj
      rw [List.length_map] at hj
      have c := h.cell nC_len j 0 hj (by omega)
      simp only [Nat.mul_one, Nat.add_zero, nC, List.getElem?_cons_zero] at c
      have e : (⟨g, 0, none⟩ : Addr).add j = ⟨g, j, none⟩ := by unfold Addr.add; split <;> simp_all
      rw [e, c, List.getElem_map]
      have hlt : L[j] < 256 := hL _ (List.getElem_mem _)
      rw [UInt8.toNat_ofNat', Nat.mod_eq_of_lt hlt]
/-- xored, of a string of at most 64 bytes. -/
theorem blkK_get (k : ByteArray) (i : Nat) (hi : i < 64) (hk : k.size ≤ 64) : (blkK k)[i]'(by rw [blkK_len k hk]; exact hi) = (k.data.getD i 0).toNat := by
  unfold blkK
  by_cases h : i < k.size
  · rw [List.getElem_append_left (by rw [bytesN_len]; exact h), getD_of h]
    simp [bytesN]
    rfl
  · rw [List.getElem_append_right (by rw [bytesN_len]; omega)]
    have hd : ¬ i < k.data.size := h
    unfold Array.getD
    rw [dif_neg hd]
    simp
end Go.Proofs.YtnkkbkceapcahaaDoor
