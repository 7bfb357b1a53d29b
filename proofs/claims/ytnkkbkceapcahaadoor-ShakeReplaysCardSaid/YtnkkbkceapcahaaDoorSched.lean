/- digest.schedule. -/
import Derived.Test.YtnkkbkceapcahaaDoorTail1
import Derived.Deep.RegionHeld3
import Derived.Deep.DrawnRows
import Derived.LoopTactic
namespace Go.Proofs.YtnkkbkceapcahaaDoor
open Go.RowKit
attribute [local go_sem ↓] Go.wp_at_zero Go.wp_at_succ

/-- The words of a schedule, and how each comes of those before it. -/
def wordF (p : List Nat) (k : Nat) : Nat := ((p.getD (4 * k) 0 * 256 + p.getD (4 * k + 1) 0) * 256 + p.getD (4 * k + 2) 0) * 256 + p.getD (4 * k + 3) 0
def lowF (x : Nat) : Nat := rotr 7 x ^^^ rotr 18 x ^^^ x / 8
def highF (x : Nat) : Nat := rotr 17 x ^^^ rotr 19 x ^^^ x / 1024
def nextF (w : List Nat) (k : Nat) : Nat := (w.getD (k - 16) 0 + lowF (w.getD (k - 15) 0) + w.getD (k - 7) 0 + highF (w.getD (k - 2) 0)) % 4294967296
def schedL (p : List Nat) : Nat → List Nat
  | 0 => []
  | k + 1 => schedL p k ++ [if k < 16 then wordF p k else nextF (schedL p k) k]
theorem schedL_len (p : List Nat) (k : Nat) : (schedL p k).length = k := by induction k with
  | zero => rfl
  | succ k ih => simp [schedL, ih]
def arrK (p : List Nat) (k : Nat) : Array Value := ((schedL p k ++ List.replicate (64 - k) 0).map wv).toArray
theorem arrK_set (p : List Nat) (k : Nat) (hk : k < 64) : (arrK p k).setIfInBounds k (wv (if k < 16 then wordF p k else nextF (schedL p k) k)) = arrK p (k + 1) := by
  unfold arrK
  rw [map_set]
  congr 2
  rw [List.set_append_right _ _ (by rw [schedL_len]; omega), schedL_len, Nat.sub_self, schedL, List.append_assoc]
  congr 1
  rw [show 64 - k = (64 - (k + 1)) + 1 by omega, List.replicate_succ]
  rfl

theorem or_join (x y i : Nat) (hx : x % 2 ^ i = 0) (hy : y < 2 ^ i) (hx2 : x < 4294967296) (hy2 : y < 4294967296) : bits .or .u32 (x : Int) (y : Int) = ((x + y : Nat) : Int) := by
  rw [u32_or_nat _ _ hx2 hy2, nat_join i x y hx hy]
theorem word_bits (a0 a1 a2 a3 : Nat) (h0 : a0 < 256) (h1 : a1 < 256) (h2 : a2 < 256) (h3 : a3 < 256) :
    bits .or .u32 (bits .or .u32 (bits .or .u32 ((a0 : Int) * 16777216) ((a1 : Int) * 65536)) ((a2 : Int) * 256)) (a3 : Int) = ((((a0 * 256 + a1) * 256 + a2) * 256 + a3 : Nat) : Int) := by
  have e1 := or_join (a0 * 16777216) (a1 * 65536) 24 (by omega) (by omega) (by omega) (by omega)
  have e2 := or_join (a0 * 16777216 + a1 * 65536) (a2 * 256) 16 (by omega) (by omega) (by omega) (by omega)
  have e3 := or_join (a0 * 16777216 + a1 * 65536 + a2 * 256) a3 8 (by omega) (by omega) (by omega) (by omega)
  rw [Int.natCast_mul, Int.natCast_mul] at e1
  rw [Int.natCast_mul] at e2
  rw [show (a0 : Int) * 16777216 = (a0 : Int) * ((16777216 : Nat) : Int) by omega, show (a1 : Int) * 65536 = (a1 : Int) * ((65536 : Nat) : Int) by omega, show (a2 : Int) * 256 = (a2 : Int) * ((256 : Nat) : Int) by omega]
  rw [e1, e2, e3, show a0 * 16777216 + a1 * 65536 + a2 * 256 + a3 = ((a0 * 256 + a1) * 256 + a2) * 256 + a3 by omega]
theorem low_lt (x : Nat) (h : x < 4294967296) : lowF x < 4294967296 :=
  Nat.xor_lt_two_pow (n := 32) (Nat.xor_lt_two_pow (n := 32) (rotr_lt 7 x h) (rotr_lt 18 x h)) (by omega)
theorem high_lt (x : Nat) (h : x < 4294967296) : highF x < 4294967296 :=
  Nat.xor_lt_two_pow (n := 32) (Nat.xor_lt_two_pow (n := 32) (rotr_lt 17 x h) (rotr_lt 19 x h)) (by omega)
theorem low_bits (x : Nat) (h : x < 4294967296) : bits .xor .u32 (bits .xor .u32 ↑(rotr 7 x) ↑(rotr 18 x)) ((x : Int) / 8) = (lowF x : Int) := by
  rw [u32_xor_nat _ _ (rotr_lt 7 x h) (rotr_lt 18 x h), show (x : Int) / 8 = ((x / 8 : Nat) : Int) by omega,
    u32_xor_nat _ _ (Nat.xor_lt_two_pow (n := 32) (rotr_lt 7 x h) (rotr_lt 18 x h)) (by omega)]
  rfl
theorem high_bits (x : Nat) (h : x < 4294967296) : bits .xor .u32 (bits .xor .u32 ↑(rotr 17 x) ↑(rotr 19 x)) ((x : Int) / 1024) = (highF x : Int) := by
  rw [u32_xor_nat _ _ (rotr_lt 17 x h) (rotr_lt 19 x h), show (x : Int) / 1024 = ((x / 1024 : Nat) : Int) by omega,
    u32_xor_nat _ _ (Nat.xor_lt_two_pow (n := 32) (rotr_lt 17 x h) (rotr_lt 19 x h)) (by omega)]
  rfl
theorem i47 {L : List Nat} (h : L.length = 64) : (Tryd.prog.info? 120).map (·.size) = some ((L.map wv).toArray).size := by
  have : (Tryd.prog.info? 120).map (·.size) = some 64 := by kernel_rfl
  rw [this]; simp [h]
theorem word_lt (p : List Nat) (hb : ∀ x ∈ p, x < 256) (k : Nat) : wordF p k < 4294967296 := by
  have h : ∀ j, p.getD j 0 < 256 := by
    intro j
    rw [List.getD_eq_getElem?_getD]
    cases hj : p[j]? with
    | none => simp
    | some v => exact hb v (List.mem_of_getElem? hj)
  have h0 := h (4 * k); have h1 := h (4 * k + 1); have h2 := h (4 * k + 2); have h3 := h (4 * k + 3)
  unfold wordF
  omega
theorem sched_lt (p : List Nat) (hb : ∀ x ∈ p, x < 256) (k j : Nat) : (schedL p k).getD j 0 < 4294967296 := by
  have h : ∀ x ∈ schedL p k, x < 4294967296 := by
    induction k with
    | zero => intro x hx; simp [schedL] at hx
    | succ k ih =>
      intro x hx
      simp only [schedL, List.mem_append, List.mem_singleton] at hx
      rcases hx with hx | hx
      · exact ih x hx
      · rw [hx]; split
        · exact word_lt p hb k
        · unfold nextF; omega
  rw [List.getD_eq_getElem?_getD]
  cases hj : (schedL p k)[j]? with
  | none => simp
  | some v => exact h v (List.mem_of_getElem? hj)

set_option maxRecDepth 100000 in
set_option maxHeartbeats 1000000 in
theorem schedule_any (p : List Nat) (hp : p.length = 64) (hb : ∀ x ∈ p, x < 256) (w : World) :
    Calls Tryd.prog 80 #[.agg (p.map bv).toArray] w fun e w' => e = .returned (.agg ((schedL p 64).map wv).toArray) ∧ Below w.heap.size w w' := by
  go_enter Tryd.func80, Tryd.ntmps80
  go_wp2
  go_loopw [9] (fun s9 wr => ∃ k : Nat, k ≤ 16 ∧ s9 = .int .i64 k ∧ Blk wr w.heap.size 110 (p.map bv).toArray ∧ Blk wr (w.heap.size + 1) 120 (arrK p k) ∧ Below w.heap.size w wr) (fun s _ => 16 - (intOf s).toNat)
  case atStart =>
    refine ⟨0, by omega, rfl, (Blk.new w 110 _).alloc _, ?_, ((Below.refl _ _).alloc (Nat.le_refl _) _).alloc (by simp) _⟩
    have := Blk.new (w.alloc (.cells (p.map bv).toArray 110)) 120 (arrK p 0)
    rw [World.size_alloc] at this
    exact this
  case round =>
    obtain ⟨k, hk, rfl, b1, b2, bl⟩ := hrel
    by_cases hlt : k < 16
    · have i0 := b1.cell (4 * k)
      have i1 := b1.cell (4 * k + 1)
      have i2 := b1.cell (4 * k + 2)
      have i3 := b1.cell (4 * k + 3)
      rw [map_get p _ (by omega)] at i0 i1 i2 i3
      have h0 : p[4 * k] < 256 := hb _ (List.getElem_mem _)
      have h1 : p[4 * k + 1] < 256 := hb _ (List.getElem_mem _)
      have h2 : p[4 * k + 2] < 256 := hb _ (List.getElem_mem _)
      have h3 : p[4 * k + 3] < 256 := hb _ (List.getElem_mem _)
      have gd : ∀ j, (hj : j < p.length) → p.getD j 0 = p[j] := fun j hj => by rw [List.getD_eq_getElem?_getD, List.getElem?_eq_getElem hj]; rfl
      have HW : Hid (wordF p k = ((p[4 * k] * 256 + p[4 * k + 1]) * 256 + p[4 * k + 2]) * 256 + p[4 * k + 3]) := by
        refine Lib.hid ?_
        unfold wordF
        rw [gd _ (by omega), gd _ (by omega), gd _ (by omega), gd _ (by omega)]
      generalize p[4 * k] = a0 at *
      generalize p[4 * k + 1] = a1 at *
      generalize p[4 * k + 2] = a2 at *
      generalize p[4 * k + 3] = a3 at *
      have f2 := b2.frozen k
      have c2 : wr.cell? ⟨w.heap.size + 1, k, none⟩ = some (wv 0) := by
        refine (b2.cell k).trans ?_
        unfold arrK
        rw [map_get _ _ (by simp [schedL_len]; omega), List.getElem_append_right (by rw [schedL_len]; exact Nat.le_refl _)]
        simp
      clear gd
      have HB1 := Lib.hid b1
      have HB2 := Lib.hid b2
      have HBL := Lib.hid bl
      clear b1 b2 bl
      have k0 : (0 : Int) ≤ (k : Int) := by omega
      have k1 : (k : Int) < 64 := by omega
      have j0 : (0 : Int) ≤ 4 * (k : Int) := by omega
      have j1 : 4 * (k : Int) + 3 < 64 := by omega
      have j2 : 4 * (k : Int) + 2 < 64 := by omega
      have j3 : 4 * (k : Int) + 1 < 64 := by omega
      have j4 : 4 * (k : Int) < 64 := by omega
      have j5 : 0 ≤ 4 * (k : Int) + 1 := by omega
      have j6 : 0 ≤ 4 * (k : Int) + 2 := by omega
      have j7 : 0 ≤ 4 * (k : Int) + 3 := by omega
      have q0 : IntKind.i64.wrap (4 * (k : Int)) = 4 * (k : Int) := IntWalk.i64_in _ (by omega)
      have q1 : IntKind.i64.wrap (4 * (k : Int) + 1) = 4 * (k : Int) + 1 := IntWalk.i64_in _ (by omega)
      have q2 : IntKind.i64.wrap (4 * (k : Int) + 2) = 4 * (k : Int) + 2 := IntWalk.i64_in _ (by omega)
      have q3 : IntKind.i64.wrap (4 * (k : Int) + 3) = 4 * (k : Int) + 3 := IntWalk.i64_in _ (by omega)
      have t0 : (4 * (k : Int)).toNat = 4 * k := by omega
      have t1 : (4 * (k : Int) + 1).toNat = 4 * k + 1 := by omega
      have t2 : (4 * (k : Int) + 2).toNat = 4 * k + 2 := by omega
      have t3 : (4 * (k : Int) + 3).toNat = 4 * k + 3 := by omega
      go_wp2
      go_region_held3 (fun w' => w'.cell? ⟨w.heap.size, 4 * k, none⟩ = some (bv a0) ∧ w'.cell? ⟨w.heap.size, 4 * k + 1, none⟩ = some (bv a1) ∧ w'.cell? ⟨w.heap.size, 4 * k + 2, none⟩ = some (bv a2) ∧ w'.cell? ⟨w.heap.size, 4 * k + 3, none⟩ = some (bv a3)) (go_keep) (fail)
      go_wp2
      go_roundw
      case rel =>
        refine ⟨k + 1, by omega, by go_num, (HB1.out.far (by simp) _).drew, ?_, (HBL.out.setCell (by simp) _).drew⟩
        rw [word_bits a0 a1 a2 a3 h0 h1 h2 h3]
        have := (HB2.out.set_ k (wv (((a0 * 256 + a1) * 256 + a2) * 256 + a3))).drew
        rw [← HW.out] at this
        rw [← HW.out]
        have e := arrK_set p k (by omega)
        rw [if_pos hlt] at e
        rw [e] at this
        exact this
      case measure => simp [intOf]; omega
    · obtain rfl : k = 16 := by omega
      rw [show ((16 : Nat) : Int) = 16 from rfl]
      go_wp2
      go_loopw [4] (fun s4 wr => ∃ k : Nat, 16 ≤ k ∧ k ≤ 64 ∧ s4 = .int .i64 k ∧ Blk wr (w.heap.size + 1) 120 (arrK p k) ∧ Below w.heap.size w wr) (fun s _ => 64 - (intOf s).toNat)
      case atStart => exact ⟨16, by omega, by omega, rfl, b2, bl⟩
      case round =>
        obtain ⟨k, hk1, hk2, rfl, b3, bl3⟩ := hrel
        clear b1 b2 bl
        by_cases hlt : k < 64
        · have gt : ∀ j, j < k → wr.cell? ⟨w.heap.size + 1, j, none⟩ = some (wv ((schedL p k).getD j 0)) := by
            intro j hj
            refine (b3.cell j).trans ?_
            unfold arrK
            rw [map_get _ _ (by simp [schedL_len]; omega), List.getElem_append_left (by rw [schedL_len]; exact hj)]
            rw [List.getD_eq_getElem?_getD, List.getElem?_eq_getElem (by rw [schedL_len]; exact hj)]; rfl
          have c2 : wr.cell? ⟨w.heap.size + 1, k, none⟩ = some (wv 0) := by
            refine (b3.cell k).trans ?_
            unfold arrK
            rw [map_get _ _ (by simp [schedL_len]; omega), List.getElem_append_right (by rw [schedL_len]; exact Nat.le_refl _)]
            simp
          have g16 := gt (k - 16) (by omega)
          have g15 := gt (k - 15) (by omega)
          have g7 := gt (k - 7) (by omega)
          have g2 := gt (k - 2) (by omega)
          have f2 := b3.frozen k
          have HN : Hid (nextF (schedL p k) k = _) := Lib.hid (by unfold nextF; rfl)
          have l15 := sched_lt p hb k (k - 15)
          have l2 := sched_lt p hb k (k - 2)
          generalize (schedL p k).getD (k - 16) 0 = x16 at *
          generalize (schedL p k).getD (k - 15) 0 = x15 at *
          generalize (schedL p k).getD (k - 7) 0 = x7 at *
          generalize (schedL p k).getD (k - 2) 0 = x2 at *
          have HB3 := Lib.hid b3
          have HBL3 := Lib.hid bl3
          clear gt b3 bl3
          have k0 : (0 : Int) ≤ (k : Int) := by omega
          have k1 : (k : Int) < 64 := by omega
          have m1 : (16 : Int) ≤ (k : Int) := by omega
          have m2 : (15 : Int) ≤ (k : Int) := by omega
          have m3 : (7 : Int) ≤ (k : Int) := by omega
          have m4 : (2 : Int) ≤ (k : Int) := by omega
          have m5 : (k : Int) - 16 < 64 := by omega
          have m6 : (k : Int) - 15 < 64 := by omega
          have m7 : (k : Int) - 7 < 64 := by omega
          have m8 : (k : Int) - 2 < 64 := by omega
          have q1 : IntKind.i64.wrap ((k : Int) - 16) = (k : Int) - 16 := IntWalk.i64_in _ (by omega)
          have q2 : IntKind.i64.wrap ((k : Int) - 15) = (k : Int) - 15 := IntWalk.i64_in _ (by omega)
          have q3 : IntKind.i64.wrap ((k : Int) - 7) = (k : Int) - 7 := IntWalk.i64_in _ (by omega)
          have q4 : IntKind.i64.wrap ((k : Int) - 2) = (k : Int) - 2 := IntWalk.i64_in _ (by omega)
          have t1 : ((k : Int) - 16).toNat = k - 16 := by omega
          have t2 : ((k : Int) - 15).toNat = k - 15 := by omega
          have t3 : ((k : Int) - 7).toNat = k - 7 := by omega
          have t4 : ((k : Int) - 2).toNat = k - 2 := by omega
          go_wp2
          go_region_held3 (fun w' => w'.cell? ⟨w.heap.size + 1, k - 15, none⟩ = some (wv x15) ∧ w'.cell? ⟨w.heap.size + 1, k - 2, none⟩ = some (wv x2)) (go_keep) (fail)
          go_wp2_with fail
          refine (rot_at 7 (-7) x15 _ (by decide) l15 (by omega) (by omega)).mono ?_
          rintro e w' ⟨rfl, rfl⟩
          go_wp2_with fail
          refine (rot_at 18 (-18) x15 _ (by decide) l15 (by omega) (by omega)).mono ?_
          rintro e w' ⟨rfl, rfl⟩
          go_wp2_with fail
          refine (rot_at 17 (-17) x2 _ (by decide) l2 (by omega) (by omega)).mono ?_
          rintro e w' ⟨rfl, rfl⟩
          go_wp2_with fail
          refine (rot_at 19 (-19) x2 _ (by decide) l2 (by omega) (by omega)).mono ?_
          rintro e w' ⟨rfl, rfl⟩
          go_wp2_with fail
          obtain ⟨lo, hlo⟩ : ∃ lo : Nat, bits .xor .u32 (bits .xor .u32 ↑(rotr 7 x15) ↑(rotr 18 x15)) ((x15 : Int) / 8) = (lo : Int) ∧ lo = lowF x15 ∧ lo < 4294967296 := ⟨_, low_bits x15 l15, rfl, low_lt x15 l15⟩
          obtain ⟨hi, hhi⟩ : ∃ hi : Nat, bits .xor .u32 (bits .xor .u32 ↑(rotr 17 x2) ↑(rotr 19 x2)) ((x2 : Int) / 1024) = (hi : Int) ∧ hi = highF x2 ∧ hi < 4294967296 := ⟨_, high_bits x2 l2, rfl, high_lt x2 l2⟩
          rw [hlo.1, hhi.1]
          have HLO := Lib.hid hlo.2.1
          have HHI := Lib.hid hhi.2.1
          have b1 := hlo.2.2
          have b2 := hhi.2.2
          clear hlo hhi
          have n16 : ∀ (W : World) (v : Value), (W.setCell ⟨w.heap.size + 1, k, none⟩ v).cell? ⟨w.heap.size + 1, k - 16, none⟩ = W.cell? ⟨w.heap.size + 1, k - 16, none⟩ := fun W v => World.cell?_setCell_other _ _ _ _ (by intro e; injection e; omega)
          have n7 : ∀ (W : World) (v : Value), (W.setCell ⟨w.heap.size + 1, k, none⟩ v).cell? ⟨w.heap.size + 1, k - 7, none⟩ = W.cell? ⟨w.heap.size + 1, k - 7, none⟩ := fun W v => World.cell?_setCell_other _ _ _ _ (by intro e; injection e; omega)
          go_region_held3 (fun w' => w'.cell? ⟨w.heap.size + 1, k - 16, none⟩ = some (wv x16) ∧ w'.cell? ⟨w.heap.size + 1, k - 7, none⟩ = some (wv x7)) (go_keep) (fail)
          go_wp2
          go_roundw
          case rel =>
            have hv : ((((x16 : Int) + (lo : Int)) % 4294967296 + (x7 : Int)) % 4294967296 + (hi : Int)) % 4294967296 = ((nextF (schedL p k) k : Nat) : Int) := by
              rw [HN.out, ← HLO.out, ← HHI.out]
              omega
            rw [hv]
            have this := (HB3.out.set_ k (wv (nextF (schedL p k) k))).drew.drew
            have e := arrK_set p k (by omega)
            rw [if_neg (by omega)] at e
            rw [e] at this
            exact ⟨k + 1, by omega, by omega, by go_num, this, (HBL3.out.setCell (by simp) _).drew.drew⟩
          case measure => simp [intOf]; omega
        · obtain rfl : k = 64 := by omega
          have HB3 := Lib.hid b3
          have HBL := Lib.hid bl3
          clear b3 bl3
          go_wp2_with (first
            | (refine wpList_load_blk rfl 120 _ rfl (w.heap.size + 1) rfl _ 120 _ HB3.out Tryd.underlying120 rfl (i47 (by simp [schedL_len])) ?_)
            | (refine wpList_store_blk rfl 120 _ _ rfl rfl (w.heap.size + 1) _ _ 120 rfl rfl HB3.out rfl (i47 (by simp [schedL_len])) (one_map (fun _ => rfl) _) ?_; intro w4 b4 o4))
          refine bodyPost_ret (results_blk Tryd.results80 _ _ (w.heap.size + 1) _ _ rfl b4 Tryd.underlying120 rfl (i47 (by simp [schedL_len]))) rfl ?_
          refine ⟨?_, HBL.out.trans (o4.below (by simp) HBL.out.size)⟩
          simp [arrK]
end Go.Proofs.YtnkkbkceapcahaaDoor
