/- PeersX: a part of the proof. No condition beyond the premises of each theorem. -/
import Derived.Test.YtoaimoemaoinhaaGreatDoorQd12
import Derived.Deep.RegionLaw
import Derived.Deep.RegionHeld3
import Derived.LoopTactic
import Derived.Deep.DrawnRows
import Derived.Test.YtoaimoemaoinhaaGreatDoorQd14
import Derived.Lib.BufferWrite
import Derived.Lib.SlBuf
import Derived.Deep.RegionWith
import Derived.Deep.DeepCutAuto
import Derived.Test.YtoaimoemaoinhaaGreatDoorQd11
import Derived.Laws.RangeAny
import Derived.Lib.OthersKept
import Derived.WalkSmall
namespace Go.Proofs.YtoaimoemaoinhaaGreatDoor.Sk
open Go.RowKit Go.Rt
attribute [local go_sem ↓] Go.wp_at_zero Go.wp_at_succ
end Go.Proofs.YtoaimoemaoinhaaGreatDoor.Sk
namespace Go.Proofs.YtoaimoemaoinhaaGreatDoor.Sk
open Go.RowKit Go.Rt
attribute [local go_sem ↓] Go.wp_at_zero Go.wp_at_succ
def diffF (a b : ByteArray) : Nat → Nat
 | 0 => 0
 | k + 1 => diffF a b k ||| ((a.data.getD k 0).toNat ^^^ (b.data.getD k 0).toNat)
theorem diff_lt (a b : ByteArray) (k : Nat) : diffF a b k < 256 := by
 induction k with
 | zero => simp [diffF]
 | succ k ih => exact Nat.or_lt_two_pow (n := 8) ih (Nat.xor_lt_two_pow (n := 8) (a.data.getD k 0).toNat_lt (b.data.getD k 0).toNat_lt)
theorem diff_zero (a b : ByteArray) (k : Nat) : diffF a b k = 0 ↔ ∀ j, j < k → a.data.getD j 0 = b.data.getD j 0 := by
 induction k with
 | zero => simp [diffF]
 | succ k ih =>
  rw [diffF, Nat.or_eq_zero_iff, ih]
  have hx : ((a.data.getD k 0).toNat ^^^ (b.data.getD k 0).toNat = 0) ↔ a.data.getD k 0 = b.data.getD k 0 := by
   rw [← UInt8.toNat_xor]
   constructor
   ·
    intro h
    exact UInt8.xor_eq_zero_iff.1 (UInt8.toNat_inj.1 h)
   ·
    intro h
    rw [UInt8.xor_eq_zero_iff.2 h]; rfl
  rw [hx]
  constructor
  ·
   rintro ⟨h1, h2⟩ j hj
   by_cases e : j = k
   ·
    subst e; exact h2
   ·
    exact h1 j (by omega)
  ·
   exact fun h => ⟨fun j hj => h j (by omega), h k (by omega)⟩
theorem getD_of {a : ByteArray} {k : Nat} (h : k < a.size) : (a.data.getD k 0) = a[k] := by
 have hd : k < a.data.size := h
 unfold Array.getD
 rw [dif_pos hd]
 rfl
theorem bytes_ext (a b : ByteArray) (hs : a.size = b.size) (h : ∀ j, j < a.size → a.data.getD j 0 = b.data.getD j 0) : a = b := by
 apply ByteArray.ext
 apply Array.ext
 ·
  exact hs
 ·
  intro j h1 h2
  have q := h j h1
  rw [getD_of h1, getD_of h2] at q
  exact q
set_option maxRecDepth 100000 in
set_option maxHeartbeats 1000000 in
theorem equal_any (a b : ByteArray) (ha : a.size ≤ 100000) (hb : b.size ≤ 100000) (w : World) :
  Calls Tryz.prog 205 #[.string a, .string b] w fun e w' => e = .returned (.bool (decide (a = b))) ∧ Below w.heap.size w w' := by
 obtain ⟨q, hq⟩ : ∃ q, q = decide (a = b) := ⟨_, rfl⟩
 rw [← hq]
 have HQ := Lib.hid hq
 clear hq
 by_cases hs : a.size = b.size
 ·
  have h1 : ((a.size : Int) != b.size) = false := by rw [hs]; simp
  have HS := Lib.hid hs
  clear hs
  go_enter Tryz.func205, Tryz.ntmps205
  go_wp2
  go_loopw [5, 14] (fun d x wr => ∃ k n : Nat, k ≤ a.size ∧ x = .int .i64 k ∧ d = .int .u8 (diffF a b k : Nat) ∧ wr = w.drewN n) (fun _ x _ => a.size - (intOf x).toNat)
  case atStart => exact ⟨0, 0, by omega, rfl, rfl, rfl⟩
  case round =>
   obtain ⟨k, n, hk, rfl, rfl, rfl⟩ := hrel
   by_cases hlt : k < a.size
   ·
    have hlt' : (k : Int) < a.size := by omega
    have hltb : (k : Int) < b.size := by have := HS.out; omega
    have hltb2 : k < b.size := by have := HS.out; omega
    have hd := diff_lt a b k
    have HD : Hid (diffF a b (k + 1) = diffF a b k ||| (a[k].toNat ^^^ b[k].toNat)) := by
     refine Lib.hid ?_
     rw [diffF, getD_of hlt, getD_of hltb2]
    have e1 : bits .or .u8 (diffF a b k : Int) (bits .xor .u8 (a[k].toNat : Int) (b[k].toNat : Int)) = ((diffF a b k ||| (a[k].toNat ^^^ b[k].toNat) : Nat) : Int) := by
     rw [u8_xor_nat _ _ a[k].toNat_lt b[k].toNat_lt, u8_or_nat _ _ hd (Nat.xor_lt_two_pow (n := 8) a[k].toNat_lt b[k].toNat_lt)]
    obtain ⟨wq, hwq⟩ : ∃ wq, wq = w.drewN n := ⟨_, rfl⟩
    rw [← hwq]
    have HW := Lib.hid hwq
    clear hwq
    have HE := Lib.hid e1
    clear e1
    go_wp2
    go_quiet (fail)
    go_wp2
    go_roundw
    case rel => exact ⟨k + 1, n + nq, by omega, by go_num, by rw [HE.out, HD.out], by rw [HW.out, World.drewN_drewN]⟩
    case measure => simp [intOf]; omega
   ·
    obtain rfl : k = a.size := by omega
    have hfin : ((diffF a b a.size : Int) == 0) = q := by
     rw [HQ.out, Bool.eq_iff_iff, beq_iff_eq, decide_eq_true_eq]
     constructor
     ·
      intro h
      exact bytes_ext a b HS.out ((diff_zero a b a.size).1 (by omega))
     ·
      rintro rfl
      have := (diff_zero a a a.size).2 (fun _ _ => rfl)
      omega
    go_wp2
    go_ret
    exact ⟨rfl, ⟨rfl, rfl, rfl, Nat.le_refl _, fun _ _ => rfl⟩⟩
 ·
  have h1 : ((a.size : Int) != b.size) = true := by rw [bne_iff_ne]; omega
  have h2 : q = false := by rw [HQ.out, decide_eq_false_iff_not]; rintro rfl; exact hs rfl
  subst h2
  clear hs
  go_enter Tryz.func205, Tryz.ntmps205
  go_wp2
  go_ret
  exact ⟨rfl, Below.refl _ _⟩
end Go.Proofs.YtoaimoemaoinhaaGreatDoor.Sk
namespace Go.Proofs.YtoaimoemaoinhaaGreatDoor.Sk
end Go.Proofs.YtoaimoemaoinhaaGreatDoor.Sk
namespace Go.Proofs.YtoaimoemaoinhaaGreatDoor.Sk
open Go.RowKit Go.Rt
attribute [local go_sem ↓] Go.wp_at_zero Go.wp_at_succ
def blkK (k : ByteArray) : List Nat := bytesN k ++ List.replicate (64 - k.size) 0
theorem blkK_len (k : ByteArray) (h : k.size ≤ 64) : (blkK k).length = 64 := by simp [blkK, bytesN_len]; omega
theorem blkK_lt (k : ByteArray) : ∀ x ∈ blkK k, x < 256 := by
 intro x hx
 rcases List.mem_append.1 hx with h | h
 ·
  exact bytesN_lt k x h
 ·
  have := List.eq_of_mem_replicate h; omega
def xorL (k : ByteArray) (x : Nat) : List Nat := (blkK k).map (· ^^^ x)
def xorK (k : ByteArray) (x i : Nat) : List Nat := ((blkK k).take i).map (· ^^^ x) ++ (blkK k).drop i
theorem xorK_set (k : ByteArray) (x i : Nat) (h : i < (blkK k).length) : (xorK k x i).set i ((blkK k)[i] ^^^ x) = xorK k x (i + 1) := by
 unfold xorK
 rw [List.set_append_right _ _ (by simp; omega), List.take_succ_eq_append_getElem h, List.map_append, List.append_assoc]
 congr 1
 have : i - (((blkK k).take i).map (· ^^^ x)).length = 0 := by simp; omega
 rw [this, List.drop_eq_getElem_cons h]
 rfl
theorem xorK_get (k : ByteArray) (x i : Nat) (h : i < (blkK k).length) : (xorK k x i).getD i 0 = (blkK k)[i] := by
 unfold xorK
 rw [List.getD_eq_getElem?_getD, List.getElem?_append_right (by simp; omega)]
 have : i - (((blkK k).take i).map (· ^^^ x)).length = 0 := by simp; omega
 rw [this, List.drop_eq_getElem_cons h]
 rfl
theorem xorK_len (k : ByteArray) (x i : Nat) : (xorK k x i).length = (blkK k).length := by
 unfold xorK
 simp
 omega
theorem xorK_end (k : ByteArray) (x : Nat) (h : k.size ≤ 64) : xorK k x 64 = xorL k x := by
 unfold xorK xorL
 rw [List.take_of_length_le (by rw [blkK_len k h]; omega), List.drop_of_length_le (by rw [blkK_len k h]; omega), List.append_nil]
theorem xorL_lt (k : ByteArray) (x : Nat) (hx : x < 256) : ∀ y ∈ xorL k x, y < 256 := by
 intro y hy
 obtain ⟨c, hc, rfl⟩ := List.mem_map.1 hy
 exact Nat.xor_lt_two_pow (n := 8) (blkK_lt k c hc) hx
def keyF (key : ByteArray) : ByteArray := if 64 < key.size then toBytes (sumF key) else key
def macF (key b : ByteArray) : List Nat := sumF (toBytes (xorL (keyF key) 92) ++ toBytes (sumF (toBytes (xorL (keyF key) 54) ++ b)))
theorem toBytes_size (l : List Nat) : (toBytes l).size = l.length := by simp [toBytes, ← ByteArray.size_data]
theorem sumF_len (b : ByteArray) : (sumF b).length = 32 := by simp [sumF, outF]
theorem keyF_size (key : ByteArray) : (keyF key).size ≤ 64 := by
 unfold keyF
 split
 ·
  rw [toBytes_size, sumF_len]; omega
 ·
  omega
theorem blk_conv {W : World} {g n : Nat} {t : TypeId} {L : List Nat} (h : Blk W g t (L.map bv).toArray) (hn : L.length = n) (hL : ∀ x ∈ L, x < 256) :
  (convert 124 9 (.slice (some ⟨g, 0, none⟩) n n)).run Tryz.prog W = .ok (.string (toBytes L)) W := by
 have q := run_convert_bytes_back (P := Tryz.prog) W 124 9 5 ⟨g, 0, none⟩ n (L.map UInt8.ofNat) und29 und5 und9 ?_
 ·
  rw [List.length_map, hn] at q; exact q
 ·
  intro j hj
  rw [List.length_map] at hj
  have e : (⟨g, 0, none⟩ : Addr).add j = ⟨g, j, none⟩ := by unfold Addr.add; split <;> simp_all
  rw [e, h.cell j, map_get _ _ hj, List.getElem_map]
  have hlt : L[j] < 256 := hL _ (List.getElem_mem _)
  rw [UInt8.toNat_ofNat', Nat.mod_eq_of_lt hlt]
theorem copy_key {w : World} {g : Nat} (k : ByteArray) (hk : k.size ≤ 64) (hb : Blk w g 303 (List.replicate 64 (bv 0)).toArray) :
  ∃ W', (Builtin.copy_ #[124, 9] 3 #[.slice (some ⟨g, 0, none⟩) 64 64, .string k]).run Tryz.prog w = .ok (goInt k.size) W' ∧ Blk W' g 303 ((blkK k).map bv).toArray ∧ Only [g] w W' := by
 have hr := Lib.run_copy_row_string (P := Tryz.prog) w 124 9 3 5 g 0 64 64 k _ 303 und29 (by kernel_rfl) hb (by omega) (by simp; omega)
 refine ⟨_, hr, ?_, ?_⟩
 ·
  have q := setRow_heap w g _ ((List.take 0 (List.replicate 64 (bv 0)).toArray.toList ++ Lib.byteCells k.data.toList ++ List.drop (0 + k.size) (List.replicate 64 (bv 0)).toArray.toList).toArray) 303 (0, 0) hb
  have e : List.take 0 (List.replicate 64 (bv 0)).toArray.toList ++ Lib.byteCells k.data.toList ++ List.drop (0 + k.size) (List.replicate 64 (bv 0)).toArray.toList = (blkK k).map bv := by
   simp only [List.take_zero, List.nil_append, Nat.zero_add, List.drop_replicate, blkK, bytesN, Lib.byteCells, List.map_append, List.map_map, List.map_replicate]
   rfl
  rw [e] at q ⊢
  exact q
 ·
  exact ⟨rfl, rfl, rfl, by simp, fun j _ hj => setRow_other w g j _ (by simpa using hj)⟩
set_option maxRecDepth 100000 in
set_option maxHeartbeats 2000000 in
theorem mac_any (key b : ByteArray) (hk : key.size ≤ 90000) (hb : b.size ≤ 90000) (w : World) (ht : Tabs w) :
  Calls Tryz.prog 223 #[.string key, .string b] w fun e w' => e = .returned (.string (toBytes (macF key b))) ∧ Below w.heap.size w w' := by
 have hks := keyF_size key
 have HM : Hid (macF key b = sumF (toBytes (xorL (keyF key) 92) ++ toBytes (sumF (toBytes (xorL (keyF key) 54) ++ b)))) := Lib.hid rfl
 have HK : Hid (keyF key = if 64 < key.size then toBytes (sumF key) else key) := Lib.hid rfl
 have hsum := Lib.hid (sum_any key (by omega) w ht)
 obtain ⟨K, hK⟩ : ∃ K, K = keyF key := ⟨_, rfl⟩
 rw [← hK] at hks HM HK
 have HT := Lib.hid ht
 clear hK ht
 go_enter Tryz.func223, Tryz.ntmps223
 go_upto_if 10 with fail
 go_cut [0] (fun s0 wx => s0 = .string K ∧ Below w.heap.size w wx)
 case first =>
  by_cases h64 : 64 < key.size
  ·
   have h64' : (64 : Int) < key.size := by omega
   have e : K = toBytes (sumF key) := by rw [HK.out, if_pos h64]
   have HE := Lib.hid e
   clear e
   go_wp2_with fail
   refine hsum.out.mono ?_
   rintro e w1 ⟨rfl, b1⟩
   rw [← HE.out]
   go_wp2_with fail
   go_meet
   exact ⟨rfl, b1⟩
  ·
   have h64' : ¬ (64 : Int) < key.size := by omega
   have e : K = key := by rw [HK.out, if_neg h64]
   subst e
   go_wp2_with fail
   go_meet
   exact ⟨rfl, Below.refl _ _⟩
 case rest =>
  obtain ⟨rfl, bl⟩ := hcut
  have HBL := Lib.hid bl
  clear bl
  obtain ⟨W1, hr1, b1, o1⟩ := copy_key (w := (wc.alloc (.cells (List.replicate 64 (bv 0)).toArray 303)).alloc (.cells (List.replicate 64 (bv 0)).toArray 303)) (g := wc.heap.size) K hks ((Blk.new wc 303 _).alloc _)
  have b1' : Blk W1 (wc.heap.size + 1) 303 (List.replicate 64 (bv 0)).toArray := by
   have q := Blk.new (wc.alloc (.cells (List.replicate 64 (bv 0)).toArray 303)) 303 (List.replicate 64 (bv 0)).toArray
   rw [World.size_alloc] at q
   exact q.only o1 (by simp)
  obtain ⟨W2, hr2, b2, o2⟩ := copy_key (w := W1) (g := wc.heap.size + 1) K hks b1'
  have b3 : Blk W2 wc.heap.size 303 ((blkK K).map bv).toArray := b1.only o2 (by simp)
  have HR1 := Lib.hid hr1
  have HR2 := Lib.hid hr2
  have HB2 := Lib.hid b2
  have HB3 := Lib.hid b3
  have HBW : Hid (Below wc.heap.size wc W2) := Lib.hid ((((Below.refl _ wc).alloc (Nat.le_refl _) _).alloc (by simp) _).trans ((o1.below (n := wc.heap.size) (by simp) (by simp; omega)).trans (o2.below (n := wc.heap.size) (by simp) (by have := o1.size; simp at this; omega))))
  clear hr1 hr2 b1 b1' b2 b3 o1 o2
  go_wp2_with (first
   | (refine Lib.wpList_copy_run _ rfl (.tmp 13) (.tmp 14) 124 9 rfl _ _ rfl rfl HR1.out ?_)
   | (refine Lib.wpList_copy_run _ rfl (.tmp 16) (.tmp 17) 124 9 rfl _ _ rfl rfl HR2.out ?_))
  have HXE1 := Lib.hid (xorK_end K 54 hks)
  have HXE2 := Lib.hid (xorK_end K 92 hks)
  have HXS := Lib.hid (xorK_set K)
  have HXG := Lib.hid (xorK_get K)
  have HXL := Lib.hid (xorK_len K)
  have HKL := Lib.hid (blkK_len K hks)
  have HKT := Lib.hid (blkK_lt K)
  have hx0 : ∀ x, xorK K x 0 = blkK K := by intro x; simp [xorK]
  have HX0 := Lib.hid hx0
  clear hx0
  go_loopw [19] (fun x wr => ∃ i : Nat, i ≤ 64 ∧ x = .int .i64 i ∧ Blk wr wc.heap.size 303 ((xorK K 54 i).map bv).toArray ∧ Blk wr (wc.heap.size + 1) 303 ((xorK K 92 i).map bv).toArray ∧ Below wc.heap.size wc wr) (fun s _ => 64 - (intOf s).toNat)
  case atStart => exact ⟨0, by omega, rfl, by rw [HX0.out]; exact HB3.out, by rw [HX0.out]; exact HB2.out, HBW.out⟩
  case round =>
   obtain ⟨i, hi, rfl, b1, b2, bl⟩ := hrel
   clear HB2 HB3 HBW
   by_cases hlt : i < 64
   ·
    have hil : i < (blkK K).length := by rw [HKL.out]; exact hlt
    have c1 := b1.cell i
    have c2 := b2.cell i
    rw [map_get _ _ (by rw [HXL.out]; exact hil)] at c1 c2
    have g1 := HXG.out 54 i hil
    have g2 := HXG.out 92 i hil
    rw [List.getD_eq_getElem?_getD, List.getElem?_eq_getElem (by rw [HXL.out]; exact hil)] at g1 g2
    simp only [Option.getD_some] at g1 g2
    rw [g1] at c1
    rw [g2] at c2
    have s1 := HXS.out 54 i hil
    have s2 := HXS.out 92 i hil
    have hxl := HKT.out _ (List.getElem_mem hil)
    obtain ⟨x, hx⟩ : ∃ x, x = (blkK K)[i] := ⟨_, rfl⟩
    rw [← hx] at c1 c2 s1 s2 hxl
    have S1 := Lib.hid s1
    have S2 := Lib.hid s2
    have e1 : bits .xor .u8 (x : Int) 54 = ((x ^^^ 54 : Nat) : Int) := u8_xor_nat x 54 hxl (by omega)
    have e2 : bits .xor .u8 (x : Int) 92 = ((x ^^^ 92 : Nat) : Int) := u8_xor_nat x 92 hxl (by omega)
    have f1 := b1.frozen i
    have f2 := b2.frozen i
    have HB1 := Lib.hid b1
    have HB2 := Lib.hid b2
    have HBL2 := Lib.hid bl
    have i0 : (0 : Int) ≤ (i : Int) := by omega
    have i1 : (i : Int) < 64 := by omega
    clear b1 b2 bl hx g1 g2 s1 s2 hil
    go_wp2
    go_roundw
    case rel =>
     have q1 := (HB1.out.set_ i (bv (x ^^^ 54))).far (p := ⟨wc.heap.size + 1, i, none⟩) (by simp) (bv (x ^^^ 92))
     have q2 := (HB2.out.far (p := ⟨wc.heap.size, i, none⟩) (by simp) (bv (x ^^^ 54))).set_ i (bv (x ^^^ 92))
     rw [map_set, S1.out] at q1
     rw [map_set, S2.out] at q2
     exact ⟨i + 1, by omega, by go_num, q1, q2, (HBL2.out.setCell (by simp) _).setCell (by simp) _⟩
    case measure => simp [intOf]; omega
   ·
    obtain rfl : i = 64 := by omega
    rw [HXE1.out] at b1
    rw [HXE2.out] at b2
    have HW : Hid (Below w.heap.size w wr) := Lib.hid (HBL.out.trans (bl.mono HBL.out.size))
    have hTW : ∀ W, Below wr.heap.size wr W → Tabs W := fun W hW => (HT.out.below HW.out HT.out.two).below hW (by have := HT.out.two; have := HW.out.size; omega)
    obtain ⟨I1, hI1⟩ : ∃ I, I = toBytes (xorL K 54) := ⟨_, rfl⟩
    obtain ⟨I2, hI2⟩ : ∃ I, I = toBytes (xorL K 92) := ⟨_, rfl⟩
    have hz1 : I1.size ≤ 64 := by rw [hI1, toBytes_size]; simp [xorL, HKL.out]
    have hz2 : I2.size ≤ 64 := by rw [hI2, toBytes_size]; simp [xorL, HKL.out]
    have HCI : Hid (∀ W, Below wr.heap.size wr W → (convert 124 9 (.slice (some ⟨wc.heap.size, 0, none⟩) 64 64)).run Tryz.prog W = .ok (.string I1) W) := by
     refine Lib.hid fun W hW => ?_
     rw [hI1]
     exact blk_conv (b1.below hW b1.lt) (by simp [xorL, HKL.out]) (xorL_lt K 54 (by omega))
    have HCO : Hid (∀ W, Below wr.heap.size wr W → (convert 124 9 (.slice (some ⟨wc.heap.size + 1, 0, none⟩) 64 64)).run Tryz.prog W = .ok (.string I2) W) := by
     refine Lib.hid fun W hW => ?_
     rw [hI2]
     exact blk_conv (b2.below hW b2.lt) (by simp [xorL, HKL.out]) (xorL_lt K 92 (by omega))
    obtain ⟨D1, hD1⟩ : ∃ D, D = toBytes (sumF (I1 ++ b)) := ⟨_, rfl⟩
    have hz3 : D1.size ≤ 32 := by rw [hD1, toBytes_size, sumF_len]; omega
    obtain ⟨M, hM⟩ : ∃ M, M = toBytes (macF key b) := ⟨_, rfl⟩
    have C1 : Hid (∀ W, Below wr.heap.size wr W → Calls Tryz.prog 243 #[.string (I1 ++ b)] W fun e w' => e = .returned (.string D1) ∧ Below W.heap.size W w') := by
     refine Lib.hid fun W hW => ?_
     rw [hD1]
     exact sum_any _ (by rw [ByteArray.size_append]; omega) W (hTW W hW)
    have C2 : Hid (∀ W, Below wr.heap.size wr W → Calls Tryz.prog 243 #[.string (I2 ++ D1)] W fun e w' => e = .returned (.string M) ∧ Below W.heap.size W w') := by
     refine Lib.hid fun W hW => ?_
     have e : M = toBytes (sumF (I2 ++ D1)) := by rw [hM, HM.out, ← hI1, ← hI2, ← hD1]
     rw [e]
     exact sum_any _ (by rw [ByteArray.size_append]; omega) W (hTW W hW)
    have HMM := Lib.hid hM
    have ci := HCI.out wr (Below.refl _ _)
    have co := HCO.out wr (Below.refl _ _)
    have ci' := HCI.out wr.drew (Below.refl _ _).drew
    have co' := HCO.out wr.drew (Below.refl _ _).drew
    have hz4 : I1.size + b.size ≤ 100000 := by omega
    have hz5 : I2.size + D1.size ≤ 100000 := by omega
    clear hI1 hI2 hD1 hM b1 b2 bl hTW
    rw [show ((64 : Nat) : Int) = 64 from rfl]
    go_wp2_with fail
    go_region_with (first
     | (go_at_call_of 243 (Value.string (I1 ++ b)); refine (C1.out _ (Below.refl _ _).drew).mono ?_; rintro e w3 ⟨rfl, b3⟩; have co3 := HCO.out w3 ((Below.refl _ wr).drew.trans b3))
     | (go_at_call_of 243 (Value.string (I2 ++ D1)); refine (C2.out _ ((Below.refl _ wr).drew.trans b3)).mono ?_; rintro e w4 ⟨rfl, b4⟩))
    all_goals
     go_wp2_with fail
     go_ret
     have h3 : Below wr.heap.size wr w3 := (Below.refl _ wr).drew.trans b3
     exact ⟨by rw [HMM.out]; rfl, HW.out.trans ((h3.trans (b4.mono h3.size)).mono HW.out.size)⟩
end Go.Proofs.YtoaimoemaoinhaaGreatDoor.Sk
namespace Go.Proofs.YtoaimoemaoinhaaGreatDoor.Sk
open Go.RowKit Go.Rt Go.Rw
attribute [local go_sem ↓] Go.wp_at_zero Go.wp_at_succ
end Go.Proofs.YtoaimoemaoinhaaGreatDoor.Sk
namespace Go.Proofs.YtoaimoemaoinhaaGreatDoor.Sk
def genB (n : Nat) : Bool := decide (1 ≤ n) && decide (n ≤ 2147483647)
def validF (p : Pr) : Bool := nameF p.name && genB p.gen
def macS (cookie b : ByteArray) : ByteArray := toBytes (macF cookie b)
theorem macS_size (c b : ByteArray) : (macS c b).size = 32 := by unfold macS macF; rw [toBytes_size, sumF_len]
def proofF (letter : ByteArray) (own other : Pr) (cookie : ByteArray) (theirs ours : Nat) : ByteArray :=
 macS cookie (letter ++ encF own ++ encF other ++ numF theirs 8 ++ numF ours 8)
def letD : ByteArray := ⟨#[68]⟩
def letL : ByteArray := ⟨#[76]⟩
def offerC : ByteArray := ⟨#[2, 1]⟩
def busyC : ByteArray := ⟨#[2, 2]⟩
def staleC : ByteArray := ⟨#[2, 3]⟩
def replyC : ByteArray := ⟨#[3]⟩
def ackC : ByteArray := ⟨#[4]⟩
def statusC : ByteArray := ⟨#[2]⟩
def readPF (b : ByteArray) : Option (Pr × ByteArray) :=
 if b.size = 0 ∨ b.size < 5 + atB b 0 then none
 else
  let n := atB b 0
  let p : Pr := ⟨b.extract 1 (1 + n), valF (b.extract (1 + n) (5 + n)) 4⟩
  if validF p then some (p, b.extract (5 + n) b.size) else none
def readHF (b : ByteArray) : Option (Pr × ByteArray) :=
 if b.size < 2 ∨ seqB (b.extract 0 2) helloC = false then none
 else match readPF (b.extract 2 b.size) with
  | none => none
  | some (p, r) => if r.size = 0 ∨ r.size ≠ 1 + atB r 0 ∨ nameF (r.extract 1 r.size) = false then none else some (p, r.extract 1 r.size)
abbrev Res := Sd × ByteArray × Nat
def failS (s : Sd) (e : Nat) : Res := ({ s with state := 4 }, ⟨#[]⟩, e)
def greetF (s : Sd) (b : ByteArray) : Res :=
 match readHF b with
 | none => failS s 6
 | some (p, want) => if seqB want s.self.name = false ∨ seqB p.name s.self.name = true then failS s 351 else ({ s with other := p, state := 2 }, ⟨#[]⟩, 0)
def offerF (s : Sd) (b : ByteArray) : Res :=
 if seqB b busyC = true ∨ seqB b staleC = true then failS s 351
 else if b.size < 2 ∨ seqB (b.extract 0 2) offerC = false then failS s 6
 else match readPF (b.extract 2 b.size) with
  | none => failS s 6
  | some (p, r) =>
   if r.size ≠ 8 then failS s 6
   else if seqB p.name s.want = false then failS s 351
   else ({ s with other := p, their := valF r 8, sent := true }, replyC ++ numF s.chal 8 ++ proofF letD s.self p s.cookie (valF r 8) s.chal, 0)
def replyF (s : Sd) (b : ByteArray) : Res :=
 if b.size ≠ 41 ∨ atB b 0 ≠ 3 then failS s 6
 else
  let t := valF (b.extract 1 9) 8
  if seqB (b.extract 9 41) (proofF letD s.other s.self s.cookie s.chal t) = false then failS { s with their := t } 350
  else ({ s with their := t, state := 3 }, ackC ++ proofF letL s.self s.other s.cookie t s.chal, 0)
def ackF (s : Sd) (b : ByteArray) : Res :=
 if b.size ≠ 33 ∨ atB b 0 ≠ 4 then failS s 6
 else if seqB (b.extract 1 33) (proofF letL s.other s.self s.cookie s.chal s.their) = false then failS s 350
 else ({ s with state := 3 }, ⟨#[]⟩, 0)
def moveF (s : Sd) (b : ByteArray) : Res :=
 if s.dials then (if s.sent then ackF s b else offerF s b) else (if s.sent then replyF s b else greetF s b)
def takeF (s : Sd) (b : ByteArray) : Res := if s.state ≠ 1 then (s, ⟨#[]⟩, 2) else moveF s b
def answerF (s : Sd) (how : Int) : Res :=
 if s.state ≠ 2 ∨ how < 1 ∨ 3 < how then (s, ⟨#[]⟩, 2)
 else if how ≠ 1 then ({ s with state := 4 }, statusC ++ numF how.toNat 1, 0)
 else ({ s with state := 1, sent := true }, offerC ++ encF s.self ++ numF s.chal 8, 0)
def listenS (self : Pr) (cookie : ByteArray) (chal : Nat) : Sd := ⟨self, ⟨⟨#[]⟩, 0⟩, ⟨#[]⟩, cookie, chal, 0, false, false, 1⟩
end Go.Proofs.YtoaimoemaoinhaaGreatDoor.Sk
namespace Go.Proofs.YtoaimoemaoinhaaGreatDoor.Sk
open Go.RowKit Go.Rt
end Go.Proofs.YtoaimoemaoinhaaGreatDoor.Sk
namespace Go.Proofs.YtoaimoemaoinhaaGreatDoor.Sk
open Go.RowKit Go.Rt
theorem genB_I (n : Nat) : genB n = genI n := by
 unfold genB genI
 rw [Bool.eq_iff_iff]
 simp only [Bool.and_eq_true, decide_eq_true_eq]
 omega
end Go.Proofs.YtoaimoemaoinhaaGreatDoor.Sk
namespace Go.Proofs.YtoaimoemaoinhaaGreatDoor.Sk
open Go.RowKit Go.Rt
end Go.Proofs.YtoaimoemaoinhaaGreatDoor.Sk
namespace Go.Proofs.YtoaimoemaoinhaaGreatDoor.Sk
open Go.RowKit Go.Rt
end Go.Proofs.YtoaimoemaoinhaaGreatDoor.Sk
namespace Go.Proofs.YtoaimoemaoinhaaGreatDoor.Sk
open Go.RowKit Go.Rt
theorem ext_ext (b : ByteArray) (i j k l : Nat) (h : i + l ≤ j) : (b.extract i j).extract k l = b.extract (i + k) (i + l) := by
 apply ByteArray.ext
 simp only [ByteArray.data_extract, Array.extract_extract]
 rw [Nat.min_eq_left (by omega)]
theorem ext_size (b : ByteArray) (i j : Nat) (h : j ≤ b.size) : (b.extract i j).size = j - i := by rw [ByteArray.size_extract, Nat.min_eq_left h]
theorem cut_any' (b : ByteArray) (h0 : 0 < b.size) (h1 : 1 + atB b 0 ≤ b.size) (hz : b.size ≤ 1000000) (w : World) :
  Calls Tryz.prog 202 #[.string b] w fun e w' => e = .returned (.tuple #[.string (b.extract 1 (1 + atB b 0)), .string (b.extract (1 + atB b 0) b.size), .bool true]) ∧ Below w.heap.size w w' := by
 rw [atB_get b 0 h0] at h1 ⊢
 refine (cut_some b h0 h1 hz w).mono fun e w' ⟨he, n, hw⟩ => ⟨he, ?_⟩
 subst hw
 exact below_drewN (Below.refl _ _) n
theorem readPF_none (b : ByteArray) (h : b.size = 0 ∨ b.size < 5 + atB b 0) : readPF b = none := by unfold readPF; rw [if_pos h]
theorem readPF_bad (b : ByteArray) (h : ¬ (b.size = 0 ∨ b.size < 5 + atB b 0)) (hv : validF ⟨b.extract 1 (1 + atB b 0), valF (b.extract (1 + atB b 0) (5 + atB b 0)) 4⟩ = false) : readPF b = none := by
 unfold readPF
 rw [if_neg h]
 simp only [hv, Bool.false_eq_true, if_false]
theorem readPF_good (b : ByteArray) (h : ¬ (b.size = 0 ∨ b.size < 5 + atB b 0)) (hv : validF ⟨b.extract 1 (1 + atB b 0), valF (b.extract (1 + atB b 0) (5 + atB b 0)) 4⟩ = true) :
  readPF b = some (⟨b.extract 1 (1 + atB b 0), valF (b.extract (1 + atB b 0) (5 + atB b 0)) 4⟩, b.extract (5 + atB b 0) b.size) := by
 unfold readPF
 rw [if_neg h]
 simp only [hv, if_true]
def ReadP (b : ByteArray) (w : World) (e : Ending) (w' : World) : Prop :=
 (∃ (nm : ByteArray) (g : Nat) (r : ByteArray) (ok : Bool), e = .returned (.tuple #[.agg #[.string nm, .int .i64 g], .string r, .bool ok]) ∧ (readPF b = if ok then some (⟨nm, g⟩, r) else none)) ∧ Below w.heap.size w w'
set_option maxRecDepth 100000 in
set_option maxHeartbeats 1000000 in
theorem cutP_any (b : ByteArray) (hz : b.size ≤ 1000000) (w : World) : Calls Tryz.prog 201 #[.string b] w (ReadP b w) := by
 have A0 : Hid (∀ W' o, Below (w.alloc o).heap.size (w.alloc o) W' → Below w.heap.size w W') := Lib.hid (fun W' o h => ((Below.refl w.heap.size w).alloc (Nat.le_refl _) o).trans (h.mono (by simp)))
 by_cases h0 : b.size = 0 ∨ b.size < 1 + atB b 0
 ·
  have C : Hid (∀ W, Calls Tryz.prog 202 #[.string b] W fun e w' => e = .returned (.tuple #[.string ByteArray.empty, .string ByteArray.empty, .bool false]) ∧ W = w') := by
   refine Lib.hid fun W => ?_
   rcases h0 with h0 | h0
   ·
    exact cut_none b h0 W
   ·
    have hb : 0 < b.size ∨ b.size = 0 := by omega
    rcases hb with hb | hb
    ·
     exact cut_short b hb (by rw [← atB_get b 0 hb]; exact h0) W
    ·
     exact cut_none b hb W
  have HR := Lib.hid (readPF_none b (by omega))
  clear h0
  go_enter Tryz.func201, Tryz.ntmps201
  go_wp2_with (go_at_call 202; refine (C.out _).mono ?_; rintro e w1 ⟨rfl, rfl⟩)
  exact bodyPost_ret (v := .tuple #[.agg #[.string ⟨#[]⟩, .int .i64 0], .string ⟨#[]⟩, .bool false]) (by simp [results, Tryz.results201, go_sem]) rfl ⟨⟨⟨#[]⟩, 0, ⟨#[]⟩, false, rfl, HR.out⟩, (Below.refl _ _).alloc (Nat.le_refl _) _⟩
 ·
  have hb : 0 < b.size := by omega
  have C := Lib.hid (fun W => cut_any' b hb (by omega) hz W)
  have h4 : (b.extract (1 + atB b 0) b.size).size = b.size - (1 + atB b 0) := ext_size _ _ _ (Nat.le_refl _)
  have hrl : 1 + atB b 0 ≤ b.size := by omega
  have HN := Lib.hid (readPF_none b)
  have HB := Lib.hid (readPF_bad b)
  have HG := Lib.hid (readPF_good b)
  have e1 : b.extract (1 + atB b 0) (5 + atB b 0) = (b.extract (1 + atB b 0) b.size).extract 0 4 := by
   by_cases h5 : 5 + atB b 0 ≤ b.size
   ·
    rw [ext_ext _ _ _ _ _ (by omega)]; congr 1; omega
   ·
    apply ByteArray.ext
    simp only [ByteArray.data_extract, Array.extract_extract]
    apply Array.ext'
    simp [Array.toList_extract, List.extract]
    omega
  have e2 : b.extract (5 + atB b 0) b.size = (b.extract (1 + atB b 0) b.size).extract 4 (b.extract (1 + atB b 0) b.size).size := by
   rw [h4, ext_ext _ _ _ _ _ (by omega)]; congr 1 <;> omega
  rw [e1, e2] at HG
  rw [e1] at HB
  obtain ⟨R, hR⟩ : ∃ R, R = b.extract (1 + atB b 0) b.size := ⟨_, rfl⟩
  obtain ⟨nm, hnm⟩ : ∃ R, R = b.extract 1 (1 + atB b 0) := ⟨_, rfl⟩
  rw [← hR] at h4 C HG HB
  rw [← hnm] at C HG HB
  clear e1 e2 hR hnm h0
  by_cases h5 : R.size < 4
  ·
   have HR := Lib.hid (HN.out (by omega))
   have h5' : (R.size : Int) < 4 := by omega
   clear HG HB h4 hrl h5
   go_enter Tryz.func201, Tryz.ntmps201
   go_wp2_with (go_at_call 202; refine (C.out _).mono ?_; rintro e w1 ⟨rfl, b1⟩; obtain ⟨hc1, hf1⟩ := bcell b1; have z1 := b1.size; have B1 := Lib.hid (A0.out _ _ b1); clear b1)
   exact bodyPost_ret (v := .tuple #[.agg #[.string ⟨#[]⟩, .int .i64 0], .string ⟨#[]⟩, .bool false]) (by simp [results, Tryz.results201, go_sem, hc1]) rfl ⟨⟨⟨#[]⟩, 0, ⟨#[]⟩, false, rfl, HR.out⟩, (B1.out.setCell (Nat.le_refl _) _).setCell (Nat.le_refl _) _⟩
  ·
   have hv4 : (R.extract 0 4).size = 4 := by rw [ext_size _ _ _ (by omega)]
   have V := fun W => value_any (R.extract 0 4) (by omega) W
   rw [hv4] at V
   have hgl := valF_lt (R.extract 0 4) 4
   obtain ⟨g, hg⟩ : ∃ g, g = valF (R.extract 0 4) 4 := ⟨_, rfl⟩
   rw [← hg] at V HG HB hgl
   have hgl' : g < 4294967296 := hgl
   have hgw : IntKind.i64.wrap (g : Int) = (g : Int) := by rw [IntKind.wrap_i64] <;> omega
   have HV := Lib.hid V
   have VA := Lib.hid (fun W => validV_any nm (g : Int) W)
   have HF : Hid (readPF b = if nameF nm && genI g then some (⟨nm, g⟩, R.extract 4 R.size) else none) := by
    refine Lib.hid ?_
    have hc : ¬ (b.size = 0 ∨ b.size < 5 + atB b 0) := by omega
    cases hh : (nameF nm && genI g) with
    | false => rw [HB.out hc (by unfold validF; rw [genB_I]; exact hh)]; rfl
    | true => rw [HG.out hc (by unfold validF; rw [genB_I]; exact hh)]; rfl
   obtain ⟨ok, hok⟩ : ∃ ok, ok = (nameF nm && genI g) := ⟨_, rfl⟩
   rw [← hok] at VA HF
   have h5' : ¬ (R.size : Int) < 4 := by omega
   have h6 : (4 : Int) ≤ R.size := by omega
   clear hg V HG HB HN hok hgl hv4 h4 hrl h5 hgl'
   go_enter Tryz.func201, Tryz.ntmps201
   go_wp2_with fail
   refine (C.out _).mono ?_
   rintro e w1 ⟨rfl, b1⟩
   obtain ⟨hc1, hf1⟩ := bcell b1
   have k0 : w1.cell? ⟨w.heap.size, 0, none⟩ = some (.string ⟨#[]⟩) := by rw [hc1 _ _ (by simp)]; simp
   have k1 : w1.cell? ⟨w.heap.size, 1, none⟩ = some (.int .i64 0) := by rw [hc1 _ _ (by simp)]; simp
   have k2 : w1.frozen? ⟨w.heap.size, 0, none⟩ = false := by rw [hf1 _ _ (by simp)]; simp
   have k3 : w1.frozen? ⟨w.heap.size, 1, none⟩ = false := by rw [hf1 _ _ (by simp)]; simp
   have z1 : w.heap.size < w1.heap.size := by have := b1.size; simp at this; omega
   have z1p : w.heap.size < w1.heap.size + 1 := by omega
   have ne1 : ¬ w.heap.size = w1.heap.size := by omega
   have ne2 : ¬ w1.heap.size = w.heap.size := by omega
   have B1 := Lib.hid (A0.out _ _ b1)
   clear b1 hc1 hf1
   go_wp2_with fail
   refine (HV.out _).mono ?_
   rintro e w2 ⟨rfl, rfl⟩
   go_wp2_with fail
   go_region_held3 (fun w' => w'.cell? ⟨w1.heap.size, 0, none⟩ = some (.string nm) ∧ w'.cell? ⟨w1.heap.size, 1, none⟩ = some (.int .i64 (g : Int)) ∧ w1.heap.size < w'.heap.size) (((try dsimp only); refine ⟨?_, ?_, ?_⟩ <;> first | (go_keep; done) | omega | (simp; omega) | (simp [*, World.frozen?_alloc_past]; done)))
    ((go_at_call 66; refine (VA.out _).mono ?_; rintro e w3 ⟨rfl, b3⟩; obtain ⟨hc3, hf3⟩ := bcell b3; have z3 := b3.size))
   all_goals
    have q0 : w3.cell? ⟨w.heap.size, 0, none⟩ = some (.string ⟨#[]⟩) := (hc3 _ _ (by simp; omega)).trans ((World.cell?_alloc_past _ _ _ z1).trans k0)
    have q1 : w3.cell? ⟨w.heap.size, 1, none⟩ = some (.int .i64 0) := (hc3 _ _ (by simp; omega)).trans ((World.cell?_alloc_past _ _ _ z1).trans k1)
    go_wp2
    refine bodyPost_ret (v := .tuple #[.agg #[.string nm, .int .i64 g], .string (R.extract 4 R.size), .bool ok]) (by simp [results, Tryz.results201, go_sem, q0, q1]) rfl ⟨⟨nm, g, R.extract 4 R.size, ok, rfl, HF.out⟩, ?_⟩
    exact (((B1.out.alloc (by omega) _).drew.trans (b3.mono (by simp; omega))).setCell (Nat.le_refl _) _).setCell (Nat.le_refl _) _
end Go.Proofs.YtoaimoemaoinhaaGreatDoor.Sk
namespace Go.Proofs.YtoaimoemaoinhaaGreatDoor.Sk
open Go.RowKit Go.Rt
structure St (w W : World) : Prop where
 tabs : Tabs W
 bel : Below w.heap.size w W
theorem St.keep {w W W' : World} (h : St w W) (b : Below W.heap.size W W') : St w W' := ⟨h.tabs.below b h.tabs.two, h.bel.trans (b.mono h.bel.size)⟩
theorem St.refl {w : World} (h : Tabs w) : St w w := ⟨h, Below.refl _ _⟩
theorem St.alloc {w W : World} (h : St w W) (o : Obj) : St w (W.alloc o) := h.keep ((Below.refl _ _).alloc (Nat.le_refl _) o)
theorem St.drew {w W : World} (h : St w W) : St w W.drew := h.keep (Below.refl _ _).drew
theorem St.drewN {w W : World} (h : St w W) (n : Nat) : St w (W.drewN n) := h.keep (below_drewN (Below.refl _ _) n)
set_option maxRecDepth 100000 in
set_option maxHeartbeats 1000000 in
theorem proof_any (l : ByteArray) (own other : Pr) (cookie : ByteArray) (th ou : Nat) (hl : l.size ≤ 1) (h1 : own.name.size ≤ 32) (h2 : other.name.size ≤ 32) (g1 : own.gen ≤ 2147483647) (g2 : other.gen ≤ 2147483647) (hc : cookie.size ≤ 6000) (w : World) (ht : Tabs w) :
  Calls Tryz.prog 204 #[.string l, .agg #[.string own.name, .int .i64 own.gen], .agg #[.string other.name, .int .i64 other.gen], .string cookie, .int .u64 th, .int .u64 ou] w fun e w' => e = .returned (.string (proofF l own other cookie th ou)) ∧ Below w.heap.size w w' := by
 have e1 := encF_size own
 have e2 := encF_size other
 have e3 := numF_size th 8
 have e4 := numF_size ou 8
 have C1 := Lib.hid (fun W => enc_any own.name own.gen (by omega) g1 W)
 have C2 := Lib.hid (fun W => enc_any other.name other.gen (by omega) g2 W)
 have C3 : Hid (∀ W, Calls Tryz.prog 126 #[.int .u64 (th : Int), .int .i64 8] W fun e w' => e = .returned (.string (numF th 8)) ∧ Below W.heap.size W w') := Lib.hid (fun W => bytes_any th 8 (by omega) W)
 have C4 : Hid (∀ W, Calls Tryz.prog 126 #[.int .u64 (ou : Int), .int .i64 8] W fun e w' => e = .returned (.string (numF ou 8)) ∧ Below W.heap.size W w') := Lib.hid (fun W => bytes_any ou 8 (by omega) W)
 have HM : Hid (∀ W, Tabs W → Calls Tryz.prog 223 #[.string cookie, .string (l ++ encF own ++ encF other ++ numF th 8 ++ numF ou 8)] W fun e w' => e = .returned (.string (proofF l own other cookie th ou)) ∧ Below W.heap.size W w') :=
  Lib.hid (fun W hW => mac_any cookie _ (by omega) (by simp only [ByteArray.size_append]; omega) W hW)
 have C1' : Hid (∀ W, Calls Tryz.prog 67 #[.agg #[.string own.name, .int .i64 own.gen]] W fun e w' => e = .returned (.string (encF own)) ∧ Below W.heap.size W w') := C1
 have C2' : Hid (∀ W, Calls Tryz.prog 67 #[.agg #[.string other.name, .int .i64 other.gen]] W fun e w' => e = .returned (.string (encF other)) ∧ Below W.heap.size W w') := C2
 obtain ⟨on, og⟩ := own
 obtain ⟨tn, tg⟩ := other
 obtain ⟨q1, hq1⟩ : ∃ q, q = encF ⟨on, og⟩ := ⟨_, rfl⟩
 obtain ⟨q2, hq2⟩ : ∃ q, q = encF ⟨tn, tg⟩ := ⟨_, rfl⟩
 obtain ⟨q3, hq3⟩ : ∃ q, q = numF th 8 := ⟨_, rfl⟩
 obtain ⟨q4, hq4⟩ : ∃ q, q = numF ou 8 := ⟨_, rfl⟩
 obtain ⟨P, hP⟩ : ∃ P, P = proofF l ⟨on, og⟩ ⟨tn, tg⟩ cookie th ou := ⟨_, rfl⟩
 rw [← hq1] at e1 C1' HM
 rw [← hq2] at e2 C2' HM
 rw [← hq3] at e3 C3 HM
 rw [← hq4] at e4 C4 HM
 rw [← hP] at HM ⊢
 clear hq1 hq2 hq3 hq4 hP C1 C2
 simp only at e1 e2 h1 h2 g1 g2
 have z1 : q1.size ≤ 37 := by omega
 have z2 : q2.size ≤ 37 := by omega
 have z3 : q3.size ≤ 8 := by omega
 have z4 : q4.size ≤ 8 := by omega
 clear e1 e2 e3 e4
 have s1 : ¬ 9223372036854775807 < l.size + q1.size := by omega
 have s2 : ¬ 9223372036854775807 < l.size + q1.size + q2.size := by omega
 have s3 : ¬ 9223372036854775807 < l.size + q1.size + q2.size + q3.size := by omega
 have s4 : ¬ 9223372036854775807 < l.size + q1.size + q2.size + q3.size + q4.size := by omega
 have HT := Lib.hid ht
 clear ht h1 h2 g1 g2 z1 z2 z3 z4 hl
 simp only
 have HS0 : Hid (∀ n, (((w.alloc (.cells #[.string on, .int .i64 (og : Int)] 52)).alloc (.cells #[.string tn, .int .i64 (tg : Int)] 52)).drewN n).cell? ⟨w.heap.size, 0, none⟩ = some (.string on) ∧ (((w.alloc (.cells #[.string on, .int .i64 (og : Int)] 52)).alloc (.cells #[.string tn, .int .i64 (tg : Int)] 52)).drewN n).cell? ⟨w.heap.size, 1, none⟩ = some (.int .i64 (og : Int)) ∧ (((w.alloc (.cells #[.string on, .int .i64 (og : Int)] 52)).alloc (.cells #[.string tn, .int .i64 (tg : Int)] 52)).drewN n).cell? ⟨w.heap.size + 1, 0, none⟩ = some (.string tn) ∧ (((w.alloc (.cells #[.string on, .int .i64 (og : Int)] 52)).alloc (.cells #[.string tn, .int .i64 (tg : Int)] 52)).drewN n).cell? ⟨w.heap.size + 1, 1, none⟩ = some (.int .i64 (tg : Int)) ∧ St w (((w.alloc (.cells #[.string on, .int .i64 (og : Int)] 52)).alloc (.cells #[.string tn, .int .i64 (tg : Int)] 52)).drewN n)) :=
  Lib.hid (fun n => ⟨by simp, by simp, by simp, by simp, ((((St.refl HT.out).alloc _).alloc _)).drewN n⟩)
 go_enter Tryz.func204, Tryz.ntmps204
 go_wp2
 go_region_held3 (fun w' => w'.cell? ⟨w.heap.size, 0, none⟩ = some (.string on) ∧ w'.cell? ⟨w.heap.size, 1, none⟩ = some (.int .i64 (og : Int)) ∧ w'.cell? ⟨w.heap.size + 1, 0, none⟩ = some (.string tn) ∧ w'.cell? ⟨w.heap.size + 1, 1, none⟩ = some (.int .i64 (tg : Int)) ∧ St w w')
  (first | exact HS0.out 1 | (obtain ⟨s1, s2, s3, s4, s5⟩ := (‹_ ∧ _ ∧ _ ∧ _ ∧ St _ _›); exact ⟨cell_keep (by assumption) s1, cell_keep (by assumption) s2, cell_keep (by assumption) s3, cell_keep (by assumption) s4, s5.keep (by assumption)⟩))
  (first
   | (go_at_call_of 67 (Value.agg #[Value.string on, Value.int IntKind.i64 (og : Int)]); refine (C1'.out _).mono ?_; rintro e w1 ⟨rfl, b1⟩)
   | (go_at_call_of 67 (Value.agg #[Value.string tn, Value.int IntKind.i64 (tg : Int)]); refine (C2'.out _).mono ?_; rintro e w2 ⟨rfl, b2⟩)
   | (go_at_call_of 126 (Value.int IntKind.u64 (th : Int)); refine (C3.out _).mono ?_; rintro e w3 ⟨rfl, b3⟩)
   | (go_at_call_of 126 (Value.int IntKind.u64 (ou : Int)); refine (C4.out _).mono ?_; rintro e w4 ⟨rfl, b4⟩)
   | (go_at_call 223; refine (HM.out _ ((‹_ ∧ _ ∧ _ ∧ _ ∧ St _ _›).2.2.2.2).tabs).mono ?_; rintro e w5 ⟨rfl, b5⟩))
 all_goals (go_wp2; go_ret; exact ⟨rfl, ((‹_ ∧ _ ∧ _ ∧ _ ∧ St _ _›).2.2.2.2).bel⟩)
theorem readPF_le {b r : ByteArray} {p : Pr} (h : readPF b = some (p, r)) : r.size ≤ b.size := by
 unfold readPF at h
 split at h
 ·
  cases h
 ·
  simp only at h
  split at h
  ·
   simp only [Option.some.injEq, Prod.mk.injEq] at h
   rw [← h.2, ByteArray.size_extract]
   omega
  ·
   cases h
theorem readHF_short (b : ByteArray) (h : b.size < 2 ∨ seqB (b.extract 0 2) helloC = false) : readHF b = none := by unfold readHF; rw [if_pos h]
theorem readHF_none (b : ByteArray) (h : readPF (b.extract 2 b.size) = none) : readHF b = none := by
 unfold readHF
 split
 ·
  rfl
 ·
  rw [h]
theorem readHF_bad (b r : ByteArray) (p : Pr) (h : readPF (b.extract 2 b.size) = some (p, r)) (hr : r.size = 0 ∨ r.size ≠ 1 + atB r 0 ∨ nameF (r.extract 1 r.size) = false) : readHF b = none := by
 unfold readHF
 split
 ·
  rfl
 ·
  rw [h]
  simp only
  rw [if_pos hr]
theorem readHF_good (b r : ByteArray) (p : Pr) (h0 : ¬ (b.size < 2 ∨ seqB (b.extract 0 2) helloC = false)) (h : readPF (b.extract 2 b.size) = some (p, r)) (hr : ¬ (r.size = 0 ∨ r.size ≠ 1 + atB r 0 ∨ nameF (r.extract 1 r.size) = false)) : readHF b = some (p, r.extract 1 r.size) := by
 unfold readHF
 rw [if_neg h0, h]
 simp only
 rw [if_neg hr]
end Go.Proofs.YtoaimoemaoinhaaGreatDoor.Sk
namespace Go.Proofs.YtoaimoemaoinhaaGreatDoor.Sk
open Go.RowKit Go.Rt
def MadeL (T : TypeId) (s : Sd) (w : World) (e : Ending) (w' : World) : Prop :=
 ∃ B, e = .returned (.tuple #[.pointer (some ⟨B, 0, none⟩), .int .i64 0]) ∧ w.heap.size ≤ B ∧ Blk w' B T (sdC s) ∧ Below w.heap.size w w'
set_option maxRecDepth 100000 in
set_option maxHeartbeats 1000000 in
theorem listen_yes (n : ByteArray) (g : Nat) (cookie : ByteArray) (c : Nat) (h : (nameF n && genI g) = true) (w : World) :
  Calls Tryz.prog 79 #[.agg #[.string n, .int .i64 g], .string cookie, .int .u64 c] w (MadeL 141 (listenS ⟨n, g⟩ cookie c) w) := by
 have V := Lib.hid (fun W => validV_any n g W)
 rw [h] at V
 clear h
 go_enter Tryz.func79, Tryz.ntmps79
 go_wp2_with fail
 refine (V.out _).mono ?_
 rintro e w1 ⟨rfl, b1⟩
 have k0 : w1.cell? ⟨w.heap.size, 0, none⟩ = some (.string n) := cell_keep b1 (by simp)
 have k1 : w1.cell? ⟨w.heap.size, 1, none⟩ = some (.int .i64 (g : Int)) := cell_keep b1 (by simp)
 have B1 := Lib.hid (((Below.refl w.heap.size w).alloc (Nat.le_refl _) _).trans (b1.mono (by simp)))
 clear b1
 go_wp2
 go_ret2
 exact ⟨w1.heap.size, rfl, B1.out.size, World.alloc_heap_new w1 _, B1.out.alloc B1.out.size _⟩
end Go.Proofs.YtoaimoemaoinhaaGreatDoor.Sk
