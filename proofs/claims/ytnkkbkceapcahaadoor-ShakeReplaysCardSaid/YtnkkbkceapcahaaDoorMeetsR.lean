/- ShakeMeets where no two sides are made; every case of it. -/
import Derived.Test.YtnkkbkceapcahaaDoorMeets
namespace Go.Proofs.YtnkkbkceapcahaaDoor
open Go.RowKit Go.Rt Go.Rw

theorem u64_nat {c : Int} (h : (Lit.int .u64 c).wf = true) : ∃ k : Nat, c = k ∧ k ≤ 18446744073709551615 := by
  unfold Lit.wf at h
  rw [Bool.and_eq_true, decide_eq_true_eq, decide_eq_true_eq, show IntKind.u64.min = 0 from rfl, show IntKind.u64.max = 18446744073709551615 from rfl] at h
  exact ⟨c.toNat, by omega, by omega⟩
theorem dialB_nat {n : ByteArray} {g : Int} {want : ByteArray} (h : dialB n g want = true) : ∃ k : Nat, g = k ∧ k ≤ 2147483647 := by
  have := (dialB_parts h).1
  rw [Bool.and_eq_true] at this
  exact genI_nat this.2
/-- Listen's error. -/
def lisE (n : ByteArray) (g : Int) : Nat := if (nameF n && genI g) = true then 0 else 2
theorem listen_e (n : ByteArray) (g : Int) (cookie : ByteArray) (c : Nat) (w : World) :
    Calls Tryd.prog 13 #[.agg #[.string n, .int .i64 g], .string cookie, .int .u64 c] w fun e w' => (∃ q, e = .returned (.tuple #[.pointer q, .int .i64 (lisE n g)])) ∧ Below w.heap.size w w' := by
  cases h : (nameF n && genI g) with
  | false =>
    have : lisE n g = 2 := by unfold lisE; rw [if_neg (by simp [h])]
    rw [this]
    exact (listen_no n g cookie c h w).mono fun _ _ ⟨e, b⟩ => ⟨⟨none, e⟩, b⟩
  | true =>
    have : lisE n g = 0 := by unfold lisE; rw [if_pos h]
    rw [this]
    have h' := h
    rw [Bool.and_eq_true] at h'
    obtain ⟨k, rfl, _⟩ := genI_nat h'.2
    exact (listen_yes n k cookie c h w).mono fun _ _ ⟨B, e, _, _, b⟩ => ⟨⟨some ⟨B, 0, none⟩, e⟩, b⟩
theorem rlisten_e (n : ByteArray) (g : Int) (cookie : ByteArray) (c : Nat) (w : World) :
    Calls Tryd.prog 25 #[.agg #[.string n, .int .i64 g], .string cookie, .int .u64 c] w fun e w' => (∃ q, e = .returned (.tuple #[.pointer q, .int .i64 (lisE n g)])) ∧ Below w.heap.size w w' := by
  cases h : (nameF n && genI g) with
  | false =>
    have : lisE n g = 2 := by unfold lisE; rw [if_neg (by simp [h])]
    rw [this]
    exact (rlisten_no n g cookie c h w).mono fun _ _ ⟨e, b⟩ => ⟨⟨none, e⟩, b⟩
  | true =>
    have : lisE n g = 0 := by unfold lisE; rw [if_pos h]
    rw [this]
    have h' := h
    rw [Bool.and_eq_true] at h'
    obtain ⟨k, rfl, _⟩ := genI_nat h'.2
    exact (rlisten_yes n k cookie c h w).mono fun _ _ ⟨B, e, _, _, b⟩ => ⟨⟨some ⟨B, 0, none⟩, e⟩, b⟩
set_option maxRecDepth 100000 in
set_option maxHeartbeats 4000000 in
theorem meets_nodial (xd yd : Bool) (xn xw xc yn yw yc : ByteArray) (gx gy : Int) (cx cy : Nat) (how : Int) (w : World) (ht : Tabs w) (sx : StgSz (⟨xd, xn, gx, xw, xc, cx⟩ : Stg)) (sy : StgSz (⟨yd, yn, gy, yw, yc, cy⟩ : Stg)) (hlx : longB (⟨xd, xn, gx, xw, xc, cx⟩ : Stg) = false) (hly : longB (⟨yd, yn, gy, yw, yc, cy⟩ : Stg) = false) (hd : dialB xn gx xw = false) :
    Calls Tryd.prog 8 #[stgV (⟨xd, xn, gx, xw, xc, cx⟩ : Stg), stgV (⟨yd, yn, gy, yw, yc, cy⟩ : Stg), .int .i64 how] w fun e w' => e = .returned (.bool true) ∧ Below w.heap.size w w' := by
  have X0 := Lib.hid (Bx.of (x := (⟨xd, xn, gx, xw, xc, cx⟩ : Stg)) ((Blk.new w 26 #[.bool xd, .string xn, .int .i64 gx, .string xw, .string xc, .int .u64 (cx : Int)]).alloc (.cells #[.bool yd, .string yn, .int .i64 gy, .string yw, .string yc, .int .u64 (cy : Int)] 26)))
  have Y0 := Lib.hid (Bx.of (x := (⟨yd, yn, gy, yw, yc, cy⟩ : Stg)) (Blk.new (w.alloc (.cells #[.bool xd, .string xn, .int .i64 gx, .string xw, .string xc, .int .u64 (cx : Int)] 26)) 26 #[.bool yd, .string yn, .int .i64 gy, .string yw, .string yc, .int .u64 (cy : Int)]))
  have S0 := Lib.hid (((St.refl ht).alloc (.cells #[.bool xd, .string xn, .int .i64 gx, .string xw, .string xc, .int .u64 (cx : Int)] 26)).alloc (.cells #[.bool yd, .string yn, .int .i64 gy, .string yw, .string yc, .int .u64 (cy : Int)] 26))
  have CX : Hid (∀ W, Calls Tryd.prog 10 #[.agg #[.bool xd, .string xn, .int .i64 gx, .string xw, .string xc, .int .u64 (cx : Int)], .slice none 0 0] W fun e w' => e = .returned (.bool false) ∧ Below W.heap.size W w') := by
    refine Lib.hid fun W => ?_
    have := longN_any (⟨xd, xn, gx, xw, xc, cx⟩ : Stg) sx.n sx.w sx.c W
    rw [hlx] at this
    exact this
  have CY : Hid (∀ W, Calls Tryd.prog 10 #[.agg #[.bool yd, .string yn, .int .i64 gy, .string yw, .string yc, .int .u64 (cy : Int)], .slice none 0 0] W fun e w' => e = .returned (.bool false) ∧ Below W.heap.size W w') := by
    refine Lib.hid fun W => ?_
    have := longN_any (⟨yd, yn, gy, yw, yc, cy⟩ : Stg) sy.n sy.w sy.c W
    rw [hly] at this
    exact this
  have AW := Lib.hid (fun W (t : Tabs W) => awakeS_any W t)
  have DN := Lib.hid (fun W => dial_no xn gx xw xc cx hd W)
  have RN := Lib.hid (fun W => rdial_no xn gx xw xc cx hd W)
  obtain ⟨k, hk⟩ : ∃ k, k = lisE yn gy := ⟨_, rfl⟩
  have LE := Lib.hid (fun W => listen_e yn gy yc cy W)
  have RE := Lib.hid (fun W => rlisten_e yn gy yc cy W)
  rw [← hk] at LE RE
  have q1 : ((k : Int) != k) = false := by simp
  clear ht sx sy hlx hly hd hk
  unfold stgV
  go_enter Tryd.func8, Tryd.ntmps8
  obtain ⟨c0, c1, c2, c3, c4, c5⟩ := X0.out
  obtain ⟨d0, d1, d2, d3, d4, d5⟩ := Y0.out
  dsimp only at c0 c1 c2 c3 c4 c5
  simp only [World.size_alloc] at d0 d1 d2 d3 d4 d5
  go_wp2_with fail
  refine (CX.out _).mono ?_
  rintro e w1 ⟨rfl, b1⟩
  have S1 := Lib.hid (S0.out.keep b1)
  clear c0 c1 c2 c3 c4 c5 d0 d1 d2 d3 d4 d5
  have X1 := Lib.hid (X0.out.below b1)
  have Y1 := Lib.hid (Y0.out.below b1)
  obtain ⟨c0, c1, c2, c3, c4, c5⟩ := X1.out
  obtain ⟨d0, d1, d2, d3, d4, d5⟩ := Y1.out
  dsimp only at c0 c1 c2 c3 c4 c5
  simp only [World.size_alloc] at d0 d1 d2 d3 d4 d5
  clear b1 S0 X0 Y0
  go_wp2_with fail
  refine (CY.out _).mono ?_
  rintro e w2 ⟨rfl, b2⟩
  have S2 := Lib.hid (S1.out.keep b2)
  clear c0 c1 c2 c3 c4 c5 d0 d1 d2 d3 d4 d5
  have X2 := Lib.hid (X1.out.below b2)
  have Y2 := Lib.hid (Y1.out.below b2)
  obtain ⟨c0, c1, c2, c3, c4, c5⟩ := X2.out
  obtain ⟨d0, d1, d2, d3, d4, d5⟩ := Y2.out
  dsimp only at c0 c1 c2 c3 c4 c5
  simp only [World.size_alloc] at d0 d1 d2 d3 d4 d5
  clear b2 S1 X1 Y1
  go_wp2_with fail
  refine (DN.out _).mono ?_
  rintro e w3 ⟨rfl, b3⟩
  have S3 := Lib.hid (S2.out.keep b3)
  clear c0 c1 c2 c3 c4 c5 d0 d1 d2 d3 d4 d5
  have X3 := Lib.hid (X2.out.below b3)
  have Y3 := Lib.hid (Y2.out.below b3)
  obtain ⟨c0, c1, c2, c3, c4, c5⟩ := X3.out
  obtain ⟨d0, d1, d2, d3, d4, d5⟩ := Y3.out
  dsimp only at c0 c1 c2 c3 c4 c5
  simp only [World.size_alloc] at d0 d1 d2 d3 d4 d5
  clear b3 S2 X2 Y2
  go_wp2_with fail
  refine (RN.out _).mono ?_
  rintro e w4 ⟨rfl, b4⟩
  have S4 := Lib.hid (S3.out.keep b4)
  clear c0 c1 c2 c3 c4 c5 d0 d1 d2 d3 d4 d5
  have X4 := Lib.hid (X3.out.below b4)
  have Y4 := Lib.hid (Y3.out.below b4)
  obtain ⟨c0, c1, c2, c3, c4, c5⟩ := X4.out
  obtain ⟨d0, d1, d2, d3, d4, d5⟩ := Y4.out
  dsimp only at c0 c1 c2 c3 c4 c5
  simp only [World.size_alloc] at d0 d1 d2 d3 d4 d5
  clear b4 S3 X3 Y3
  go_wp2_with fail
  refine (LE.out _).mono ?_
  rintro e w5 ⟨⟨q, rfl⟩, b5⟩
  have S5 := Lib.hid (S4.out.keep b5)
  clear c0 c1 c2 c3 c4 c5 d0 d1 d2 d3 d4 d5
  have X5 := Lib.hid (X4.out.below b5)
  have Y5 := Lib.hid (Y4.out.below b5)
  obtain ⟨c0, c1, c2, c3, c4, c5⟩ := X5.out
  obtain ⟨d0, d1, d2, d3, d4, d5⟩ := Y5.out
  dsimp only at c0 c1 c2 c3 c4 c5
  simp only [World.size_alloc] at d0 d1 d2 d3 d4 d5
  clear b5 S4 X4 Y4
  go_wp2_with fail
  refine (RE.out _).mono ?_
  rintro e w6 ⟨⟨q', rfl⟩, b6⟩
  have S6 := Lib.hid (S5.out.keep b6)
  clear c0 c1 c2 c3 c4 c5 d0 d1 d2 d3 d4 d5
  have X6 := Lib.hid (X5.out.below b6)
  have Y6 := Lib.hid (Y5.out.below b6)
  obtain ⟨c0, c1, c2, c3, c4, c5⟩ := X6.out
  obtain ⟨d0, d1, d2, d3, d4, d5⟩ := Y6.out
  dsimp only at c0 c1 c2 c3 c4 c5
  simp only [World.size_alloc] at d0 d1 d2 d3 d4 d5
  clear b6 S5 X5 Y5
  go_wp2_with fail
  clear c0 c1 c2 c3 c4 c5 d0 d1 d2 d3 d4 d5
  clear X6 Y6
  refine (AW.out _ S6.out.tabs).mono ?_
  rintro e w7 ⟨rfl, b7⟩
  have S7 := Lib.hid (S6.out.keep b7)
  clear b7
  go_wp2
  go_ret
  exact ⟨rfl, S7.out.bel⟩
set_option maxRecDepth 100000 in
set_option maxHeartbeats 4000000 in
theorem meets_nolisten (xd yd : Bool) (xn xw xc yn yw yc : ByteArray) (gx : Nat) (gy : Int) (cx cy : Nat) (how : Int) (w : World) (ht : Tabs w) (sx : StgSz (⟨xd, xn, gx, xw, xc, cx⟩ : Stg)) (sy : StgSz (⟨yd, yn, gy, yw, yc, cy⟩ : Stg)) (hlx : longB (⟨xd, xn, gx, xw, xc, cx⟩ : Stg) = false) (hly : longB (⟨yd, yn, gy, yw, yc, cy⟩ : Stg) = false) (hd : dialB xn gx xw = true) (hv : (nameF yn && genI gy) = false) :
    Calls Tryd.prog 8 #[stgV (⟨xd, xn, gx, xw, xc, cx⟩ : Stg), stgV (⟨yd, yn, gy, yw, yc, cy⟩ : Stg), .int .i64 how] w fun e w' => e = .returned (.bool true) ∧ Below w.heap.size w w' := by
  have X0 := Lib.hid (Bx.of (x := (⟨xd, xn, gx, xw, xc, cx⟩ : Stg)) ((Blk.new w 26 #[.bool xd, .string xn, .int .i64 gx, .string xw, .string xc, .int .u64 (cx : Int)]).alloc (.cells #[.bool yd, .string yn, .int .i64 gy, .string yw, .string yc, .int .u64 (cy : Int)] 26)))
  have Y0 := Lib.hid (Bx.of (x := (⟨yd, yn, gy, yw, yc, cy⟩ : Stg)) (Blk.new (w.alloc (.cells #[.bool xd, .string xn, .int .i64 gx, .string xw, .string xc, .int .u64 (cx : Int)] 26)) 26 #[.bool yd, .string yn, .int .i64 gy, .string yw, .string yc, .int .u64 (cy : Int)]))
  have S0 := Lib.hid (((St.refl ht).alloc (.cells #[.bool xd, .string xn, .int .i64 gx, .string xw, .string xc, .int .u64 (cx : Int)] 26)).alloc (.cells #[.bool yd, .string yn, .int .i64 gy, .string yw, .string yc, .int .u64 (cy : Int)] 26))
  have CX : Hid (∀ W, Calls Tryd.prog 10 #[.agg #[.bool xd, .string xn, .int .i64 gx, .string xw, .string xc, .int .u64 (cx : Int)], .slice none 0 0] W fun e w' => e = .returned (.bool false) ∧ Below W.heap.size W w') := by
    refine Lib.hid fun W => ?_
    have := longN_any (⟨xd, xn, gx, xw, xc, cx⟩ : Stg) sx.n sx.w sx.c W
    rw [hlx] at this
    exact this
  have CY : Hid (∀ W, Calls Tryd.prog 10 #[.agg #[.bool yd, .string yn, .int .i64 gy, .string yw, .string yc, .int .u64 (cy : Int)], .slice none 0 0] W fun e w' => e = .returned (.bool false) ∧ Below W.heap.size W w') := by
    refine Lib.hid fun W => ?_
    have := longN_any (⟨yd, yn, gy, yw, yc, cy⟩ : Stg) sy.n sy.w sy.c W
    rw [hly] at this
    exact this
  have AW := Lib.hid (fun W (t : Tabs W) => awakeS_any W t)
  have DY := Lib.hid (fun W => dial_yes xn gx xw xc cx hd W)
  have RY := Lib.hid (fun W => rdial_yes xn gx xw xc cx hd W)
  have LN := Lib.hid (fun W => listen_no yn gy yc cy hv W)
  have RN := Lib.hid (fun W => rlisten_no yn gy yc cy hv W)
  obtain ⟨hel, hhel⟩ : ∃ h, h = helloF ⟨xn, gx⟩ xw := ⟨_, rfl⟩
  obtain ⟨d, hdd⟩ : ∃ d, d = dialS ⟨xn, gx⟩ xw xc cx := ⟨_, rfl⟩
  rw [← hhel, ← hdd] at DY RY
  have q1 : (hel.toList == hel.toList) = true := by simp
  clear ht sx sy hlx hly hd hv hhel hdd
  unfold stgV
  go_enter Tryd.func8, Tryd.ntmps8
  obtain ⟨c0, c1, c2, c3, c4, c5⟩ := X0.out
  obtain ⟨d0, d1, d2, d3, d4, d5⟩ := Y0.out
  dsimp only at c0 c1 c2 c3 c4 c5
  simp only [World.size_alloc] at d0 d1 d2 d3 d4 d5
  go_wp2_with fail
  refine (CX.out _).mono ?_
  rintro e w1 ⟨rfl, b1⟩
  have S1 := Lib.hid (S0.out.keep b1)
  clear c0 c1 c2 c3 c4 c5 d0 d1 d2 d3 d4 d5
  have X1 := Lib.hid (X0.out.below b1)
  have Y1 := Lib.hid (Y0.out.below b1)
  obtain ⟨c0, c1, c2, c3, c4, c5⟩ := X1.out
  obtain ⟨d0, d1, d2, d3, d4, d5⟩ := Y1.out
  dsimp only at c0 c1 c2 c3 c4 c5
  simp only [World.size_alloc] at d0 d1 d2 d3 d4 d5
  clear b1 S0 X0 Y0
  go_wp2_with fail
  refine (CY.out _).mono ?_
  rintro e w2 ⟨rfl, b2⟩
  have S2 := Lib.hid (S1.out.keep b2)
  clear c0 c1 c2 c3 c4 c5 d0 d1 d2 d3 d4 d5
  have X2 := Lib.hid (X1.out.below b2)
  have Y2 := Lib.hid (Y1.out.below b2)
  obtain ⟨c0, c1, c2, c3, c4, c5⟩ := X2.out
  obtain ⟨d0, d1, d2, d3, d4, d5⟩ := Y2.out
  dsimp only at c0 c1 c2 c3 c4 c5
  simp only [World.size_alloc] at d0 d1 d2 d3 d4 d5
  clear b2 S1 X1 Y1
  go_wp2_with fail
  refine (DY.out _).mono ?_
  rintro e w3 ⟨D, rfl, -, -, b3⟩
  have S3 := Lib.hid (S2.out.keep b3)
  clear c0 c1 c2 c3 c4 c5 d0 d1 d2 d3 d4 d5
  have X3 := Lib.hid (X2.out.below b3)
  have Y3 := Lib.hid (Y2.out.below b3)
  obtain ⟨c0, c1, c2, c3, c4, c5⟩ := X3.out
  obtain ⟨d0, d1, d2, d3, d4, d5⟩ := Y3.out
  dsimp only at c0 c1 c2 c3 c4 c5
  simp only [World.size_alloc] at d0 d1 d2 d3 d4 d5
  clear b3 S2 X2 Y2
  go_wp2_with fail
  refine (RY.out _).mono ?_
  rintro e w4 ⟨P, rfl, -, -, b4⟩
  have S4 := Lib.hid (S3.out.keep b4)
  clear c0 c1 c2 c3 c4 c5 d0 d1 d2 d3 d4 d5
  have X4 := Lib.hid (X3.out.below b4)
  have Y4 := Lib.hid (Y3.out.below b4)
  obtain ⟨c0, c1, c2, c3, c4, c5⟩ := X4.out
  obtain ⟨d0, d1, d2, d3, d4, d5⟩ := Y4.out
  dsimp only at c0 c1 c2 c3 c4 c5
  simp only [World.size_alloc] at d0 d1 d2 d3 d4 d5
  clear b4 S3 X3 Y3
  go_wp2_with fail
  refine (LN.out _).mono ?_
  rintro e w5 ⟨rfl, b5⟩
  have S5 := Lib.hid (S4.out.keep b5)
  clear c0 c1 c2 c3 c4 c5 d0 d1 d2 d3 d4 d5
  have X5 := Lib.hid (X4.out.below b5)
  have Y5 := Lib.hid (Y4.out.below b5)
  obtain ⟨c0, c1, c2, c3, c4, c5⟩ := X5.out
  obtain ⟨d0, d1, d2, d3, d4, d5⟩ := Y5.out
  dsimp only at c0 c1 c2 c3 c4 c5
  simp only [World.size_alloc] at d0 d1 d2 d3 d4 d5
  clear b5 S4 X4 Y4
  go_wp2_with fail
  refine (RN.out _).mono ?_
  rintro e w6 ⟨rfl, b6⟩
  have S6 := Lib.hid (S5.out.keep b6)
  clear c0 c1 c2 c3 c4 c5 d0 d1 d2 d3 d4 d5
  have X6 := Lib.hid (X5.out.below b6)
  have Y6 := Lib.hid (Y5.out.below b6)
  obtain ⟨c0, c1, c2, c3, c4, c5⟩ := X6.out
  obtain ⟨d0, d1, d2, d3, d4, d5⟩ := Y6.out
  dsimp only at c0 c1 c2 c3 c4 c5
  simp only [World.size_alloc] at d0 d1 d2 d3 d4 d5
  clear b6 S5 X5 Y5
  go_wp2_with fail
  clear c0 c1 c2 c3 c4 c5 d0 d1 d2 d3 d4 d5
  clear X6 Y6
  refine (AW.out _ S6.out.tabs).mono ?_
  rintro e w7 ⟨rfl, b7⟩
  have S7 := Lib.hid (S6.out.keep b7)
  clear b7
  go_wp2
  go_ret
  exact ⟨rfl, S7.out.bel⟩

/-- Every case. -/
theorem meets_walk (x y : Stg) (ox : StgOk x) (oy : StgOk y) (how : Int) (w : World) (ht : Tabs w) (sx : StgSz x) (sy : StgSz y) :
    Calls Tryd.prog 8 #[stgV x, stgV y, .int .i64 how] w fun e w' => e = .returned (.bool true) ∧ Below w.heap.size w w' := by
  cases hl : (longB x || longB y) with
  | true => exact meets_long x y how w ht sx sy hl
  | false =>
    rw [Bool.or_eq_false_iff] at hl
    obtain ⟨xd, xn, gx, xw, xc, cx⟩ := x
    obtain ⟨yd, yn, gy, yw, yc, cy⟩ := y
    obtain ⟨cx, rfl, hx⟩ := u64_nat ox.c
    obtain ⟨cy, rfl, hy⟩ := u64_nat oy.c
    cases hd : dialB xn gx xw with
    | false => exact meets_nodial xd yd xn xw xc yn yw yc gx gy cx cy how w ht sx sy hl.1 hl.2 hd
    | true =>
      obtain ⟨gx, rfl, _⟩ := dialB_nat hd
      cases hv : (nameF yn && genI gy) with
      | false => exact meets_nolisten xd yd xn xw xc yn yw yc gx gy cx cy how w ht sx sy hl.1 hl.2 hd hv
      | true =>
        obtain ⟨gy, rfl, _⟩ := genI_nat (by rw [Bool.and_eq_true] at hv; exact hv.2)
        exact meets_main xd yd xn xw xc yn yw yc gx gy cx cy how w ht sx sy hl.1 hl.2 hx hy hd hv
end Go.Proofs.YtnkkbkceapcahaaDoor
