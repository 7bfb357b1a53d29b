/- ShakeFlips: every case of it. -/
import Derived.Test.YtnkkbkceapcahaaDoorSpecM
import Derived.Test.YtnkkbkceapcahaaDoorBoth
namespace Go.Proofs.YtnkkbkceapcahaaDoor
open Go.RowKit Go.Rt Go.Rw

set_option maxRecDepth 100000 in
set_option maxHeartbeats 4000000 in
theorem flips_long (x y : Stg) (fm : Int) (bit : Nat) (w : World) (ht : Tabs w) (sx : StgSz x) (sy : StgSz y) (h : (longB x || longB y) = true) :
    Calls Tryd.prog 5 #[stgV x, stgV y, .agg #[.int .i64 fm, .int .u16 (bit : Int)]] w fun e w' => e = .returned (.bool true) ∧ Below w.heap.size w w' := by
  have X0 := Bx.of (x := x) (((Blk.new w 26 #[.bool x.dials, .string x.name, .int .i64 x.gen, .string x.want, .string x.cookie, .int .u64 x.chal]).alloc (.cells #[.bool y.dials, .string y.name, .int .i64 y.gen, .string y.want, .string y.cookie, .int .u64 y.chal] 26)).alloc (.cells #[.int .i64 fm, .int .u16 (bit : Int)] 49))
  have CX := Lib.hid (fun W => longN_any x sx.n sx.w sx.c W)
  have CY := Lib.hid (fun W => longN_any y sy.n sy.w sy.c W)
  have S0 := Lib.hid ((((St.refl ht).alloc (.cells #[.bool x.dials, .string x.name, .int .i64 x.gen, .string x.want, .string x.cookie, .int .u64 x.chal] 26)).alloc (.cells #[.bool y.dials, .string y.name, .int .i64 y.gen, .string y.want, .string y.cookie, .int .u64 y.chal] 26)).alloc (.cells #[.int .i64 fm, .int .u16 (bit : Int)] 49))
  have AW := Lib.hid (fun W (t : Tabs W) => awakeS_any W t)
  clear ht sx sy X0
  cases hx : longB x with
  | true =>
    rw [hx] at CX
    clear h hx CY
    unfold stgV
    go_enter Tryd.func5, Tryd.ntmps5
    go_wp2_with fail
    refine (CX.out _).mono ?_
    rintro e w1 ⟨rfl, b1⟩
    have S1 := Lib.hid (S0.out.keep b1)
    clear b1 S0
    go_wp2_with fail
    refine (AW.out _ S1.out.tabs).mono ?_
    rintro e w2 ⟨rfl, b2⟩
    have S2 := Lib.hid (S1.out.keep b2)
    clear b2
    go_wp2
    go_ret
    exact ⟨rfl, S2.out.bel⟩
  | false =>
    rw [hx, Bool.false_or] at h
    rw [hx] at CX
    rw [h] at CY
    clear h hx
    have Y0 := Lib.hid (Bx.of (x := y) ((Blk.new (w.alloc (.cells #[.bool x.dials, .string x.name, .int .i64 x.gen, .string x.want, .string x.cookie, .int .u64 x.chal] 26)) 26 #[.bool y.dials, .string y.name, .int .i64 y.gen, .string y.want, .string y.cookie, .int .u64 y.chal]).alloc (.cells #[.int .i64 fm, .int .u16 (bit : Int)] 49)))
    unfold stgV
    go_enter Tryd.func5, Tryd.ntmps5
    go_wp2_with fail
    refine (CX.out _).mono ?_
    rintro e w1 ⟨rfl, b1⟩
    have S1 := Lib.hid (S0.out.keep b1)
    obtain ⟨d0, d1, d2, d3, d4, d5⟩ := Y0.out.below b1
    simp only [World.size_alloc] at d0 d1 d2 d3 d4 d5
    clear b1 S0 Y0
    go_wp2_with fail
    refine (CY.out _).mono ?_
    rintro e w2 ⟨rfl, b2⟩
    have S2 := Lib.hid (S1.out.keep b2)
    clear b2 S1
    go_wp2_with fail
    refine (AW.out _ S2.out.tabs).mono ?_
    rintro e w3 ⟨rfl, b3⟩
    have S3 := Lib.hid (S2.out.keep b3)
    clear b3
    go_wp2
    go_ret
    exact ⟨rfl, S3.out.bel⟩
set_option maxRecDepth 100000 in
set_option maxHeartbeats 4000000 in
theorem flips_nodial_n (xd yd : Bool) (xn xw xc yn yw yc : ByteArray) (gx gy : Int) (cx cy : Nat) (fm : Int) (kk bit : Nat) (hbit : bit ≤ 65535) (hk4 : kk < 4) (w : World) (ht : Tabs w) (sx : StgSz (⟨xd, xn, gx, xw, xc, cx⟩ : Stg)) (sy : StgSz (⟨yd, yn, gy, yw, yc, cy⟩ : Stg)) (hlx : longB (⟨xd, xn, gx, xw, xc, cx⟩ : Stg) = false) (hly : longB (⟨yd, yn, gy, yw, yc, cy⟩ : Stg) = false) (tm : Int) (htm : Int.tmod fm 4 = tm) (hneg : decide (tm < 0) = true) (hlo : -4 < tm) (hkk : tm + 4 = (kk : Int)) (hd : dialB xn gx xw = false) :
    Calls Tryd.prog 5 #[stgV (⟨xd, xn, gx, xw, xc, cx⟩ : Stg), stgV (⟨yd, yn, gy, yw, yc, cy⟩ : Stg), .agg #[.int .i64 fm, .int .u16 (bit : Int)]] w fun e w' => e = .returned (.bool true) ∧ Below w.heap.size w w' := by
  have X0 := Lib.hid (Bx.of (x := (⟨xd, xn, gx, xw, xc, cx⟩ : Stg)) (((Blk.new w 26 #[.bool xd, .string xn, .int .i64 gx, .string xw, .string xc, .int .u64 (cx : Int)]).alloc (.cells #[.bool yd, .string yn, .int .i64 gy, .string yw, .string yc, .int .u64 (cy : Int)] 26)).alloc (.cells #[.int .i64 fm, .int .u16 (bit : Int)] 49)))
  have Y0 := Lib.hid (Bx.of (x := (⟨yd, yn, gy, yw, yc, cy⟩ : Stg)) ((Blk.new (w.alloc (.cells #[.bool xd, .string xn, .int .i64 gx, .string xw, .string xc, .int .u64 (cx : Int)] 26)) 26 #[.bool yd, .string yn, .int .i64 gy, .string yw, .string yc, .int .u64 (cy : Int)]).alloc (.cells #[.int .i64 fm, .int .u16 (bit : Int)] 49)))
  have Z0 := Lib.hid (Blk.new ((w.alloc (.cells #[.bool xd, .string xn, .int .i64 gx, .string xw, .string xc, .int .u64 (cx : Int)] 26)).alloc (.cells #[.bool yd, .string yn, .int .i64 gy, .string yw, .string yc, .int .u64 (cy : Int)] 26)) 49 #[.int .i64 fm, .int .u16 (bit : Int)])
  have S0 := Lib.hid ((((St.refl ht).alloc (.cells #[.bool xd, .string xn, .int .i64 gx, .string xw, .string xc, .int .u64 (cx : Int)] 26)).alloc (.cells #[.bool yd, .string yn, .int .i64 gy, .string yw, .string yc, .int .u64 (cy : Int)] 26)).alloc (.cells #[.int .i64 fm, .int .u16 (bit : Int)] 49))
  have CX : Hid (∀ W, Calls Tryd.prog 10 #[.agg #[.bool xd, .string xn, .int .i64 gx, .string xw, .string xc, .int .u64 (cx : Int)], .slice none 0 0] W fun e w' => e = .returned (.bool false) ∧ Below W.heap.size W w') := by
    refine Lib.hid fun W => ?_
    have := longN_any (⟨xd, xn, gx, xw, xc, cx⟩ : Stg) sx.n sx.w sx.c W
    rw [hlx] at this
    exact this
  have CY : Hid (∀ W, Calls Tryd.prog 10 #[.agg #[.bool yd, .string yn, .int .i64 gy, .string yw, .string yc, .int .u64 (cy : Int)], .slice none 0 0] W fun e w' => e = .returned (.bool false) ∧ Below W.heap.size W w') := by
    refine Lib.hid fun W => ?_
    have := longN_any (⟨yd, yn, gy, yw, yc, cy⟩ : Stg) sy.n sy.w sy.c W
    rw [hly] at this
    exact this
  have AW := Lib.hid (fun W (t : Tabs W) => awakeS_any W t)
  have hkz : (kk : Int) ≤ 3 := by omega
  have hkw : wrap64 (kk : Int) = kk := by unfold wrap64; omega
  have RN := Lib.hid (fun KB W (t : Tabs W) => runF_nodial KB (w.heap.size + 1 + 1) xd yd xn xw xc yn yw yc gx gy cx cy 1 W t hd)
  unfold stgV at RN
  have bit0 := hbit
  clear bit0
  clear ht sx sy hlx hly hd hbit hk4
  have hmf : ∀ (fn : Fn) (first cap : Array Value) (w : World), (Instr.makeFunc fn first cap).run Tryd.prog w = .ok (.func fn first cap) w := fun _ _ _ _ => rfl
  unfold stgV
  go_enter Tryd.func5, Tryd.ntmps5
  obtain ⟨c0, c1, c2, c3, c4, c5⟩ := X0.out
  obtain ⟨d0, d1, d2, d3, d4, d5⟩ := Y0.out
  dsimp only at c0 c1 c2 c3 c4 c5
  simp only [World.size_alloc] at d0 d1 d2 d3 d4 d5
  have f0 := Z0.out.cell 0
  have f1 := Z0.out.cell 1
  simp only [List.getElem?_toArray, List.getElem?_cons_zero, List.getElem?_cons_succ] at f0 f1
  simp only [World.size_alloc] at f0 f1
  go_wp2_with fail
  refine (CX.out _).mono ?_
  rintro e w1 ⟨rfl, b1⟩
  have S1 := Lib.hid (S0.out.keep b1)
  clear c0 c1 c2 c3 c4 c5 d0 d1 d2 d3 d4 d5 f0 f1
  have X1 := Lib.hid (X0.out.below b1)
  have Y1 := Lib.hid (Y0.out.below b1)
  have Z1 := Lib.hid (Z0.out.below b1 Z0.out.lt)
  obtain ⟨c0, c1, c2, c3, c4, c5⟩ := X1.out
  obtain ⟨d0, d1, d2, d3, d4, d5⟩ := Y1.out
  dsimp only at c0 c1 c2 c3 c4 c5
  simp only [World.size_alloc] at d0 d1 d2 d3 d4 d5
  have f0 := Z1.out.cell 0
  have f1 := Z1.out.cell 1
  simp only [List.getElem?_toArray, List.getElem?_cons_zero, List.getElem?_cons_succ] at f0 f1
  simp only [World.size_alloc] at f0 f1
  clear b1 S0 X0 Y0 Z0
  go_wp2_with fail
  refine (CY.out _).mono ?_
  rintro e w2 ⟨rfl, b2⟩
  have S2 := Lib.hid (S1.out.keep b2)
  clear c0 c1 c2 c3 c4 c5 d0 d1 d2 d3 d4 d5 f0 f1
  have X2 := Lib.hid (X1.out.below b2)
  have Y2 := Lib.hid (Y1.out.below b2)
  have Z2 := Lib.hid (Z1.out.below b2 Z1.out.lt)
  obtain ⟨c0, c1, c2, c3, c4, c5⟩ := X2.out
  obtain ⟨d0, d1, d2, d3, d4, d5⟩ := Y2.out
  dsimp only at c0 c1 c2 c3 c4 c5
  simp only [World.size_alloc] at d0 d1 d2 d3 d4 d5
  have f0 := Z2.out.cell 0
  have f1 := Z2.out.cell 1
  simp only [List.getElem?_toArray, List.getElem?_cons_zero, List.getElem?_cons_succ] at f0 f1
  simp only [World.size_alloc] at f0 f1
  clear b2 S1 X1 Y1 Z1
  have hz2 : w.heap.size + 1 + 1 < w2.heap.size := by have := Z2.out.lt; simpa only [World.size_alloc] using this
  have BA : Below w2.heap.size w2 (w2.alloc (.cells #[.int .i64 (kk : Int)] 3)) := (Below.refl _ _).alloc (Nat.le_refl _) _
  have X3 := Lib.hid (X2.out.below BA)
  have Y3 := Lib.hid (Y2.out.below BA)
  have Z3 := Lib.hid (Z2.out.below BA Z2.out.lt)
  have S3 := Lib.hid (S2.out.keep BA)
  have K3 := Lib.hid (Blk.new w2 3 #[.int .i64 (kk : Int)])
  clear BA
  go_upto_region 6 with (fail)
  generalize w2.alloc (.cells #[.int .i64 (kk : Int)] 3) = w3 at X3 Y3 Z3 S3 K3 ⊢
  generalize w2.heap.size = kb at K3 ⊢
  clear c0 c1 c2 c3 c4 c5 d0 d1 d2 d3 d4 d5 f0 f1
  clear X2 Y2 Z2 S2 hz2
  obtain ⟨c0, c1, c2, c3, c4, c5⟩ := X3.out
  obtain ⟨d0, d1, d2, d3, d4, d5⟩ := Y3.out
  dsimp only at c0 c1 c2 c3 c4 c5
  simp only [World.size_alloc] at d0 d1 d2 d3 d4 d5
  have f0 := Z3.out.cell 0
  have f1 := Z3.out.cell 1
  simp only [List.getElem?_toArray, List.getElem?_cons_zero, List.getElem?_cons_succ] at f0 f1
  simp only [World.size_alloc] at f0 f1
  have g0 := K3.out.cell 0
  simp only [List.getElem?_toArray, List.getElem?_cons_zero] at g0
  go_wp2_with fail
  refine (RN.out kb _ S3.out.tabs).mono ?_
  rintro e w4 ⟨rfl, b4⟩
  have S4 := Lib.hid (S3.out.keep b4)
  clear c0 c1 c2 c3 c4 c5 d0 d1 d2 d3 d4 d5 f0 f1
  clear b4 X3 Y3 Z3 K3 g0
  go_wp2_with fail
  refine (AW.out _ S4.out.tabs).mono ?_
  rintro e w5 ⟨rfl, b5⟩
  have S5 := Lib.hid (S4.out.keep b5)
  clear b5
  go_wp2
  go_ret
  exact ⟨rfl, S5.out.bel⟩
set_option maxRecDepth 100000 in
set_option maxHeartbeats 4000000 in
theorem flips_nolisten_n (xd yd : Bool) (xn xw xc yn yw yc : ByteArray) (gx : Nat) (gy : Int) (cx cy : Nat) (fm : Int) (kk bit : Nat) (hbit : bit ≤ 65535) (hk4 : kk < 4) (w : World) (ht : Tabs w) (sx : StgSz (⟨xd, xn, gx, xw, xc, cx⟩ : Stg)) (sy : StgSz (⟨yd, yn, gy, yw, yc, cy⟩ : Stg)) (hlx : longB (⟨xd, xn, gx, xw, xc, cx⟩ : Stg) = false) (hly : longB (⟨yd, yn, gy, yw, yc, cy⟩ : Stg) = false) (tm : Int) (htm : Int.tmod fm 4 = tm) (hneg : decide (tm < 0) = true) (hlo : -4 < tm) (hkk : tm + 4 = (kk : Int)) (hd : dialB xn gx xw = true) (hv : (nameF yn && genI gy) = false) :
    Calls Tryd.prog 5 #[stgV (⟨xd, xn, gx, xw, xc, cx⟩ : Stg), stgV (⟨yd, yn, gy, yw, yc, cy⟩ : Stg), .agg #[.int .i64 fm, .int .u16 (bit : Int)]] w fun e w' => e = .returned (.bool true) ∧ Below w.heap.size w w' := by
  have X0 := Lib.hid (Bx.of (x := (⟨xd, xn, gx, xw, xc, cx⟩ : Stg)) (((Blk.new w 26 #[.bool xd, .string xn, .int .i64 gx, .string xw, .string xc, .int .u64 (cx : Int)]).alloc (.cells #[.bool yd, .string yn, .int .i64 gy, .string yw, .string yc, .int .u64 (cy : Int)] 26)).alloc (.cells #[.int .i64 fm, .int .u16 (bit : Int)] 49)))
  have Y0 := Lib.hid (Bx.of (x := (⟨yd, yn, gy, yw, yc, cy⟩ : Stg)) ((Blk.new (w.alloc (.cells #[.bool xd, .string xn, .int .i64 gx, .string xw, .string xc, .int .u64 (cx : Int)] 26)) 26 #[.bool yd, .string yn, .int .i64 gy, .string yw, .string yc, .int .u64 (cy : Int)]).alloc (.cells #[.int .i64 fm, .int .u16 (bit : Int)] 49)))
  have Z0 := Lib.hid (Blk.new ((w.alloc (.cells #[.bool xd, .string xn, .int .i64 gx, .string xw, .string xc, .int .u64 (cx : Int)] 26)).alloc (.cells #[.bool yd, .string yn, .int .i64 gy, .string yw, .string yc, .int .u64 (cy : Int)] 26)) 49 #[.int .i64 fm, .int .u16 (bit : Int)])
  have S0 := Lib.hid ((((St.refl ht).alloc (.cells #[.bool xd, .string xn, .int .i64 gx, .string xw, .string xc, .int .u64 (cx : Int)] 26)).alloc (.cells #[.bool yd, .string yn, .int .i64 gy, .string yw, .string yc, .int .u64 (cy : Int)] 26)).alloc (.cells #[.int .i64 fm, .int .u16 (bit : Int)] 49))
  have CX : Hid (∀ W, Calls Tryd.prog 10 #[.agg #[.bool xd, .string xn, .int .i64 gx, .string xw, .string xc, .int .u64 (cx : Int)], .slice none 0 0] W fun e w' => e = .returned (.bool false) ∧ Below W.heap.size W w') := by
    refine Lib.hid fun W => ?_
    have := longN_any (⟨xd, xn, gx, xw, xc, cx⟩ : Stg) sx.n sx.w sx.c W
    rw [hlx] at this
    exact this
  have CY : Hid (∀ W, Calls Tryd.prog 10 #[.agg #[.bool yd, .string yn, .int .i64 gy, .string yw, .string yc, .int .u64 (cy : Int)], .slice none 0 0] W fun e w' => e = .returned (.bool false) ∧ Below W.heap.size W w') := by
    refine Lib.hid fun W => ?_
    have := longN_any (⟨yd, yn, gy, yw, yc, cy⟩ : Stg) sy.n sy.w sy.c W
    rw [hly] at this
    exact this
  have AW := Lib.hid (fun W (t : Tabs W) => awakeS_any W t)
  have hkz : (kk : Int) ≤ 3 := by omega
  have hkw : wrap64 (kk : Int) = kk := by unfold wrap64; omega
  have RN := Lib.hid (fun KB W (t : Tabs W) => runF_nolisten KB (w.heap.size + 1 + 1) xd yd xn xw xc yn yw yc gx gy cx cy 1 W t hd hv)
  unfold stgV at RN
  have bit0 := hbit
  clear bit0
  clear ht sx sy hlx hly hd hbit hk4
  have hmf : ∀ (fn : Fn) (first cap : Array Value) (w : World), (Instr.makeFunc fn first cap).run Tryd.prog w = .ok (.func fn first cap) w := fun _ _ _ _ => rfl
  unfold stgV
  go_enter Tryd.func5, Tryd.ntmps5
  obtain ⟨c0, c1, c2, c3, c4, c5⟩ := X0.out
  obtain ⟨d0, d1, d2, d3, d4, d5⟩ := Y0.out
  dsimp only at c0 c1 c2 c3 c4 c5
  simp only [World.size_alloc] at d0 d1 d2 d3 d4 d5
  have f0 := Z0.out.cell 0
  have f1 := Z0.out.cell 1
  simp only [List.getElem?_toArray, List.getElem?_cons_zero, List.getElem?_cons_succ] at f0 f1
  simp only [World.size_alloc] at f0 f1
  go_wp2_with fail
  refine (CX.out _).mono ?_
  rintro e w1 ⟨rfl, b1⟩
  have S1 := Lib.hid (S0.out.keep b1)
  clear c0 c1 c2 c3 c4 c5 d0 d1 d2 d3 d4 d5 f0 f1
  have X1 := Lib.hid (X0.out.below b1)
  have Y1 := Lib.hid (Y0.out.below b1)
  have Z1 := Lib.hid (Z0.out.below b1 Z0.out.lt)
  obtain ⟨c0, c1, c2, c3, c4, c5⟩ := X1.out
  obtain ⟨d0, d1, d2, d3, d4, d5⟩ := Y1.out
  dsimp only at c0 c1 c2 c3 c4 c5
  simp only [World.size_alloc] at d0 d1 d2 d3 d4 d5
  have f0 := Z1.out.cell 0
  have f1 := Z1.out.cell 1
  simp only [List.getElem?_toArray, List.getElem?_cons_zero, List.getElem?_cons_succ] at f0 f1
  simp only [World.size_alloc] at f0 f1
  clear b1 S0 X0 Y0 Z0
  go_wp2_with fail
  refine (CY.out _).mono ?_
  rintro e w2 ⟨rfl, b2⟩
  have S2 := Lib.hid (S1.out.keep b2)
  clear c0 c1 c2 c3 c4 c5 d0 d1 d2 d3 d4 d5 f0 f1
  have X2 := Lib.hid (X1.out.below b2)
  have Y2 := Lib.hid (Y1.out.below b2)
  have Z2 := Lib.hid (Z1.out.below b2 Z1.out.lt)
  obtain ⟨c0, c1, c2, c3, c4, c5⟩ := X2.out
  obtain ⟨d0, d1, d2, d3, d4, d5⟩ := Y2.out
  dsimp only at c0 c1 c2 c3 c4 c5
  simp only [World.size_alloc] at d0 d1 d2 d3 d4 d5
  have f0 := Z2.out.cell 0
  have f1 := Z2.out.cell 1
  simp only [List.getElem?_toArray, List.getElem?_cons_zero, List.getElem?_cons_succ] at f0 f1
  simp only [World.size_alloc] at f0 f1
  clear b2 S1 X1 Y1 Z1
  have hz2 : w.heap.size + 1 + 1 < w2.heap.size := by have := Z2.out.lt; simpa only [World.size_alloc] using this
  have BA : Below w2.heap.size w2 (w2.alloc (.cells #[.int .i64 (kk : Int)] 3)) := (Below.refl _ _).alloc (Nat.le_refl _) _
  have X3 := Lib.hid (X2.out.below BA)
  have Y3 := Lib.hid (Y2.out.below BA)
  have Z3 := Lib.hid (Z2.out.below BA Z2.out.lt)
  have S3 := Lib.hid (S2.out.keep BA)
  have K3 := Lib.hid (Blk.new w2 3 #[.int .i64 (kk : Int)])
  clear BA
  go_upto_region 6 with (fail)
  generalize w2.alloc (.cells #[.int .i64 (kk : Int)] 3) = w3 at X3 Y3 Z3 S3 K3 ⊢
  generalize w2.heap.size = kb at K3 ⊢
  clear c0 c1 c2 c3 c4 c5 d0 d1 d2 d3 d4 d5 f0 f1
  clear X2 Y2 Z2 S2 hz2
  obtain ⟨c0, c1, c2, c3, c4, c5⟩ := X3.out
  obtain ⟨d0, d1, d2, d3, d4, d5⟩ := Y3.out
  dsimp only at c0 c1 c2 c3 c4 c5
  simp only [World.size_alloc] at d0 d1 d2 d3 d4 d5
  have f0 := Z3.out.cell 0
  have f1 := Z3.out.cell 1
  simp only [List.getElem?_toArray, List.getElem?_cons_zero, List.getElem?_cons_succ] at f0 f1
  simp only [World.size_alloc] at f0 f1
  have g0 := K3.out.cell 0
  simp only [List.getElem?_toArray, List.getElem?_cons_zero] at g0
  go_wp2_with fail
  refine (RN.out kb _ S3.out.tabs).mono ?_
  rintro e w4 ⟨rfl, b4⟩
  have S4 := Lib.hid (S3.out.keep b4)
  clear c0 c1 c2 c3 c4 c5 d0 d1 d2 d3 d4 d5 f0 f1
  clear b4 X3 Y3 Z3 K3 g0
  go_wp2_with fail
  refine (AW.out _ S4.out.tabs).mono ?_
  rintro e w5 ⟨rfl, b5⟩
  have S5 := Lib.hid (S4.out.keep b5)
  clear b5
  go_wp2
  go_ret
  exact ⟨rfl, S5.out.bel⟩
set_option maxRecDepth 100000 in
set_option maxHeartbeats 4000000 in
theorem flips_d3_n (xd yd : Bool) (xn xw xc yn yw yc : ByteArray) (gx gy cx cy : Nat) (fm : Int) (kk bit : Nat) (hbit : bit ≤ 65535) (hk4 : kk < 4) (w : World) (ht : Tabs w) (sx : StgSz (⟨xd, xn, gx, xw, xc, cx⟩ : Stg)) (sy : StgSz (⟨yd, yn, gy, yw, yc, cy⟩ : Stg)) (hlx : longB (⟨xd, xn, gx, xw, xc, cx⟩ : Stg) = false) (hly : longB (⟨yd, yn, gy, yw, yc, cy⟩ : Stg) = false) (tm : Int) (htm : Int.tmod fm 4 = tm) (hneg : decide (tm < 0) = true) (hlo : -4 < tm) (hkk : tm + 4 = (kk : Int))
    (hx : cx ≤ 18446744073709551615) (hy : cy ≤ 18446744073709551615) (hd : dialB xn gx xw = true) (hv : (nameF yn && genI gy) = true) (d l : Sd) (said : List ByteArray) (hr : runF (dialS ⟨xn, gx⟩ xw xc cx) (listenS ⟨yn, gy⟩ yc cy) (helloF ⟨xn, gx⟩ xw) 1 (mFl kk bit) = (d, l, said)) (h1 : d.state = 3) (h2 : kk = 3) :
    Calls Tryd.prog 5 #[stgV (⟨xd, xn, gx, xw, xc, cx⟩ : Stg), stgV (⟨yd, yn, gy, yw, yc, cy⟩ : Stg), .agg #[.int .i64 fm, .int .u16 (bit : Int)]] w fun e w' => e = .returned (.bool true) ∧ Below w.heap.size w w' := by
  have X0 := Lib.hid (Bx.of (x := (⟨xd, xn, gx, xw, xc, cx⟩ : Stg)) (((Blk.new w 26 #[.bool xd, .string xn, .int .i64 gx, .string xw, .string xc, .int .u64 (cx : Int)]).alloc (.cells #[.bool yd, .string yn, .int .i64 gy, .string yw, .string yc, .int .u64 (cy : Int)] 26)).alloc (.cells #[.int .i64 fm, .int .u16 (bit : Int)] 49)))
  have Y0 := Lib.hid (Bx.of (x := (⟨yd, yn, gy, yw, yc, cy⟩ : Stg)) ((Blk.new (w.alloc (.cells #[.bool xd, .string xn, .int .i64 gx, .string xw, .string xc, .int .u64 (cx : Int)] 26)) 26 #[.bool yd, .string yn, .int .i64 gy, .string yw, .string yc, .int .u64 (cy : Int)]).alloc (.cells #[.int .i64 fm, .int .u16 (bit : Int)] 49)))
  have Z0 := Lib.hid (Blk.new ((w.alloc (.cells #[.bool xd, .string xn, .int .i64 gx, .string xw, .string xc, .int .u64 (cx : Int)] 26)).alloc (.cells #[.bool yd, .string yn, .int .i64 gy, .string yw, .string yc, .int .u64 (cy : Int)] 26)) 49 #[.int .i64 fm, .int .u16 (bit : Int)])
  have S0 := Lib.hid ((((St.refl ht).alloc (.cells #[.bool xd, .string xn, .int .i64 gx, .string xw, .string xc, .int .u64 (cx : Int)] 26)).alloc (.cells #[.bool yd, .string yn, .int .i64 gy, .string yw, .string yc, .int .u64 (cy : Int)] 26)).alloc (.cells #[.int .i64 fm, .int .u16 (bit : Int)] 49))
  have CX : Hid (∀ W, Calls Tryd.prog 10 #[.agg #[.bool xd, .string xn, .int .i64 gx, .string xw, .string xc, .int .u64 (cx : Int)], .slice none 0 0] W fun e w' => e = .returned (.bool false) ∧ Below W.heap.size W w') := by
    refine Lib.hid fun W => ?_
    have := longN_any (⟨xd, xn, gx, xw, xc, cx⟩ : Stg) sx.n sx.w sx.c W
    rw [hlx] at this
    exact this
  have CY : Hid (∀ W, Calls Tryd.prog 10 #[.agg #[.bool yd, .string yn, .int .i64 gy, .string yw, .string yc, .int .u64 (cy : Int)], .slice none 0 0] W fun e w' => e = .returned (.bool false) ∧ Below W.heap.size W w') := by
    refine Lib.hid fun W => ?_
    have := longN_any (⟨yd, yn, gy, yw, yc, cy⟩ : Stg) sy.n sy.w sy.c W
    rw [hly] at this
    exact this
  have AW := Lib.hid (fun W (t : Tabs W) => awakeS_any W t)
  have hkz : (kk : Int) ≤ 3 := by omega
  have hkw : wrap64 (kk : Int) = kk := by unfold wrap64; omega
  have lx : xw.size + xc.size + xn.size ≤ 6000 := by
    have := of_decide_eq_false hlx
    dsimp only at this
    omega
  have ly : yw.size + yc.size + yn.size ≤ 6000 := by
    have := of_decide_eq_false hly
    dsimp only at this
    omega
  have RM : Hid (∀ KB FB W, Tabs W → W.cell? ⟨KB, 0, none⟩ = some (.int .i64 kk) → W.cell? ⟨FB, 1, none⟩ = some (.int .u16 bit) → Calls Tryd.prog 18 #[stgV (⟨xd, xn, gx, xw, xc, cx⟩ : Stg), stgV (⟨yd, yn, gy, yw, yc, cy⟩ : Stg), .int .i64 1, .func (.func 19) #[] #[.pointer (some ⟨KB, 0, none⟩), .pointer (some ⟨FB, 0, none⟩)]] W (RunOut W d l)) := by
    refine Lib.hid fun KB FB W t k1 k2 => ?_
    have := runF_made xd yd xn xw xc yn yw yc gx gy cx cy 1 W t kk bit KB FB (mFl_size kk bit) (fun i V b hb hz => change_any i kk bit KB FB hbit b hz V (cell_keep hb k1) (cell_keep hb k2)) ⟨by omega, by omega, by omega⟩ (by omega) hx hy hd hv
    rw [hr] at this
    exact this
  have SP : Hid (∀ W, Tabs W → Calls Tryd.prog 21 #[stgV (⟨xd, xn, gx, xw, xc, cx⟩ : Stg), stgV (⟨yd, yn, gy, yw, yc, cy⟩ : Stg), .int .i64 kk, .int .u16 bit] W fun e W' => e = .returned (.tuple #[.int .i64 d.state, .int .i64 l.state]) ∧ Below W.heap.size W W') := by
    refine Lib.hid fun W t => ?_
    have := spec_made kk hk4 xd yd xn xw xc yn yw yc gx gy cx cy bit hbit W t ⟨by omega, by omega, by omega⟩ (by omega) hx hy hd hv
    rw [hr] at this
    exact this
  unfold stgV at RM SP
  obtain ⟨sd, hsd⟩ : ∃ n : Nat, n = d.state := ⟨_, rfl⟩
  obtain ⟨sl, hsl⟩ : ∃ n : Nat, n = l.state := ⟨_, rfl⟩
  have STd : Hid (∀ W D, Blk W D 46 (sdC d) → Calls Tryd.prog 16 #[.pointer (some ⟨D, 0, none⟩)] W fun e w' => e = .returned (.int .i64 sd) ∧ W = w') := Lib.hid (fun W D h => by rw [hsd]; exact state_any d D W h)
  have STl : Hid (∀ W D, Blk W D 46 (sdC l) → Calls Tryd.prog 16 #[.pointer (some ⟨D, 0, none⟩)] W fun e w' => e = .returned (.int .i64 sl) ∧ W = w') := Lib.hid (fun W D h => by rw [hsl]; exact state_any l D W h)
  rw [← hsd, ← hsl] at SP
  rw [← hsd] at h1
  have t1 : ((sd : Int) == 3) = true := by rw [beq_iff_eq]; omega
  have u1 : ((sd : Int) != 3) = false := by rw [bne_eq_false_iff_eq]; omega
  have t2 : ((kk : Int) == 3) = true := by rw [beq_iff_eq]; omega
  have u2 : ((kk : Int) != 3) = false := by rw [bne_eq_false_iff_eq]; omega
  clear ht sx sy hlx hly hd hv lx ly hx hy hsd hsl hr hbit hk4 h1 h2 
  have stl0 := STl
  clear stl0 STl
  have hmf : ∀ (fn : Fn) (first cap : Array Value) (w : World), (Instr.makeFunc fn first cap).run Tryd.prog w = .ok (.func fn first cap) w := fun _ _ _ _ => rfl
  unfold stgV
  go_enter Tryd.func5, Tryd.ntmps5
  obtain ⟨c0, c1, c2, c3, c4, c5⟩ := X0.out
  obtain ⟨d0, d1, d2, d3, d4, d5⟩ := Y0.out
  dsimp only at c0 c1 c2 c3 c4 c5
  simp only [World.size_alloc] at d0 d1 d2 d3 d4 d5
  have f0 := Z0.out.cell 0
  have f1 := Z0.out.cell 1
  simp only [List.getElem?_toArray, List.getElem?_cons_zero, List.getElem?_cons_succ] at f0 f1
  simp only [World.size_alloc] at f0 f1
  go_wp2_with fail
  refine (CX.out _).mono ?_
  rintro e w1 ⟨rfl, b1⟩
  have S1 := Lib.hid (S0.out.keep b1)
  clear c0 c1 c2 c3 c4 c5 d0 d1 d2 d3 d4 d5 f0 f1
  have X1 := Lib.hid (X0.out.below b1)
  have Y1 := Lib.hid (Y0.out.below b1)
  have Z1 := Lib.hid (Z0.out.below b1 Z0.out.lt)
  obtain ⟨c0, c1, c2, c3, c4, c5⟩ := X1.out
  obtain ⟨d0, d1, d2, d3, d4, d5⟩ := Y1.out
  dsimp only at c0 c1 c2 c3 c4 c5
  simp only [World.size_alloc] at d0 d1 d2 d3 d4 d5
  have f0 := Z1.out.cell 0
  have f1 := Z1.out.cell 1
  simp only [List.getElem?_toArray, List.getElem?_cons_zero, List.getElem?_cons_succ] at f0 f1
  simp only [World.size_alloc] at f0 f1
  clear b1 S0 X0 Y0 Z0
  go_wp2_with fail
  refine (CY.out _).mono ?_
  rintro e w2 ⟨rfl, b2⟩
  have S2 := Lib.hid (S1.out.keep b2)
  clear c0 c1 c2 c3 c4 c5 d0 d1 d2 d3 d4 d5 f0 f1
  have X2 := Lib.hid (X1.out.below b2)
  have Y2 := Lib.hid (Y1.out.below b2)
  have Z2 := Lib.hid (Z1.out.below b2 Z1.out.lt)
  obtain ⟨c0, c1, c2, c3, c4, c5⟩ := X2.out
  obtain ⟨d0, d1, d2, d3, d4, d5⟩ := Y2.out
  dsimp only at c0 c1 c2 c3 c4 c5
  simp only [World.size_alloc] at d0 d1 d2 d3 d4 d5
  have f0 := Z2.out.cell 0
  have f1 := Z2.out.cell 1
  simp only [List.getElem?_toArray, List.getElem?_cons_zero, List.getElem?_cons_succ] at f0 f1
  simp only [World.size_alloc] at f0 f1
  clear b2 S1 X1 Y1 Z1
  have hz2 : w.heap.size + 1 + 1 < w2.heap.size := by have := Z2.out.lt; simpa only [World.size_alloc] using this
  have BA : Below w2.heap.size w2 (w2.alloc (.cells #[.int .i64 (kk : Int)] 3)) := (Below.refl _ _).alloc (Nat.le_refl _) _
  have X3 := Lib.hid (X2.out.below BA)
  have Y3 := Lib.hid (Y2.out.below BA)
  have Z3 := Lib.hid (Z2.out.below BA Z2.out.lt)
  have S3 := Lib.hid (S2.out.keep BA)
  have K3 := Lib.hid (Blk.new w2 3 #[.int .i64 (kk : Int)])
  clear BA
  go_upto_region 6 with (fail)
  generalize w2.alloc (.cells #[.int .i64 (kk : Int)] 3) = w3 at X3 Y3 Z3 S3 K3 ⊢
  generalize w2.heap.size = kb at K3 ⊢
  clear c0 c1 c2 c3 c4 c5 d0 d1 d2 d3 d4 d5 f0 f1
  clear X2 Y2 Z2 S2 hz2
  obtain ⟨c0, c1, c2, c3, c4, c5⟩ := X3.out
  obtain ⟨d0, d1, d2, d3, d4, d5⟩ := Y3.out
  dsimp only at c0 c1 c2 c3 c4 c5
  simp only [World.size_alloc] at d0 d1 d2 d3 d4 d5
  have f0 := Z3.out.cell 0
  have f1 := Z3.out.cell 1
  simp only [List.getElem?_toArray, List.getElem?_cons_zero, List.getElem?_cons_succ] at f0 f1
  simp only [World.size_alloc] at f0 f1
  have g0 := K3.out.cell 0
  simp only [List.getElem?_toArray, List.getElem?_cons_zero] at g0
  go_wp2_with fail
  refine (RM.out kb _ _ S3.out.tabs g0 f1).mono ?_
  rintro e w4 ⟨D, K, rfl, ss⟩
  have SS4 := Lib.hid ss
  have bb4 := ss.st.bel
  have S4 := Lib.hid (S3.out.keep bb4)
  clear c0 c1 c2 c3 c4 c5 d0 d1 d2 d3 d4 d5 f0 f1
  have X4 := Lib.hid (X3.out.below bb4)
  have Y4 := Lib.hid (Y3.out.below bb4)
  have Z4 := Lib.hid (Z3.out.below bb4 Z3.out.lt)
  have K4 := Lib.hid (K3.out.below bb4 K3.out.lt)
  clear ss bb4 X3 Y3 Z3 K3 S3 g0
  obtain ⟨c0, c1, c2, c3, c4, c5⟩ := X4.out
  obtain ⟨d0, d1, d2, d3, d4, d5⟩ := Y4.out
  dsimp only at c0 c1 c2 c3 c4 c5
  simp only [World.size_alloc] at d0 d1 d2 d3 d4 d5
  have f0 := Z4.out.cell 0
  have f1 := Z4.out.cell 1
  simp only [List.getElem?_toArray, List.getElem?_cons_zero, List.getElem?_cons_succ] at f0 f1
  simp only [World.size_alloc] at f0 f1
  have g0 := K4.out.cell 0
  simp only [List.getElem?_toArray, List.getElem?_cons_zero] at g0
  go_wp2_with fail
  refine (SP.out _ S4.out.tabs).mono ?_
  rintro e w5 ⟨rfl, b5⟩
  have SS5 := Lib.hid (SS4.out.below b5)
  have S5 := Lib.hid (S4.out.keep b5)
  have K5 := Lib.hid (K4.out.below b5 K4.out.lt)
  clear c0 c1 c2 c3 c4 c5 d0 d1 d2 d3 d4 d5 f0 f1
  clear b5 X4 Y4 Z4 K4 S4 SS4 g0
  have g0 := K5.out.cell 0
  simp only [List.getElem?_toArray, List.getElem?_cons_zero] at g0
  go_wp2_with fail
  refine (STd.out _ D (SS5.out.get 0 rfl)).mono ?_
  rintro e w' ⟨rfl, rfl⟩
  go_wp2_with fail
  refine (AW.out _ S5.out.tabs).mono ?_
  rintro e w6 ⟨rfl, b6⟩
  have S6 := Lib.hid (S5.out.keep b6)
  clear b6
  go_wp2
  go_ret
  exact ⟨rfl, S6.out.bel⟩
set_option maxRecDepth 100000 in
set_option maxHeartbeats 4000000 in
theorem flips_d4_n (xd yd : Bool) (xn xw xc yn yw yc : ByteArray) (gx gy cx cy : Nat) (fm : Int) (kk bit : Nat) (hbit : bit ≤ 65535) (hk4 : kk < 4) (w : World) (ht : Tabs w) (sx : StgSz (⟨xd, xn, gx, xw, xc, cx⟩ : Stg)) (sy : StgSz (⟨yd, yn, gy, yw, yc, cy⟩ : Stg)) (hlx : longB (⟨xd, xn, gx, xw, xc, cx⟩ : Stg) = false) (hly : longB (⟨yd, yn, gy, yw, yc, cy⟩ : Stg) = false) (tm : Int) (htm : Int.tmod fm 4 = tm) (hneg : decide (tm < 0) = true) (hlo : -4 < tm) (hkk : tm + 4 = (kk : Int))
    (hx : cx ≤ 18446744073709551615) (hy : cy ≤ 18446744073709551615) (hd : dialB xn gx xw = true) (hv : (nameF yn && genI gy) = true) (d l : Sd) (said : List ByteArray) (hr : runF (dialS ⟨xn, gx⟩ xw xc cx) (listenS ⟨yn, gy⟩ yc cy) (helloF ⟨xn, gx⟩ xw) 1 (mFl kk bit) = (d, l, said)) (h1 : d.state = 3) (h2 : kk ≠ 3) (h3 : l.state = 3) :
    Calls Tryd.prog 5 #[stgV (⟨xd, xn, gx, xw, xc, cx⟩ : Stg), stgV (⟨yd, yn, gy, yw, yc, cy⟩ : Stg), .agg #[.int .i64 fm, .int .u16 (bit : Int)]] w fun e w' => e = .returned (.bool true) ∧ Below w.heap.size w w' := by
  have X0 := Lib.hid (Bx.of (x := (⟨xd, xn, gx, xw, xc, cx⟩ : Stg)) (((Blk.new w 26 #[.bool xd, .string xn, .int .i64 gx, .string xw, .string xc, .int .u64 (cx : Int)]).alloc (.cells #[.bool yd, .string yn, .int .i64 gy, .string yw, .string yc, .int .u64 (cy : Int)] 26)).alloc (.cells #[.int .i64 fm, .int .u16 (bit : Int)] 49)))
  have Y0 := Lib.hid (Bx.of (x := (⟨yd, yn, gy, yw, yc, cy⟩ : Stg)) ((Blk.new (w.alloc (.cells #[.bool xd, .string xn, .int .i64 gx, .string xw, .string xc, .int .u64 (cx : Int)] 26)) 26 #[.bool yd, .string yn, .int .i64 gy, .string yw, .string yc, .int .u64 (cy : Int)]).alloc (.cells #[.int .i64 fm, .int .u16 (bit : Int)] 49)))
  have Z0 := Lib.hid (Blk.new ((w.alloc (.cells #[.bool xd, .string xn, .int .i64 gx, .string xw, .string xc, .int .u64 (cx : Int)] 26)).alloc (.cells #[.bool yd, .string yn, .int .i64 gy, .string yw, .string yc, .int .u64 (cy : Int)] 26)) 49 #[.int .i64 fm, .int .u16 (bit : Int)])
  have S0 := Lib.hid ((((St.refl ht).alloc (.cells #[.bool xd, .string xn, .int .i64 gx, .string xw, .string xc, .int .u64 (cx : Int)] 26)).alloc (.cells #[.bool yd, .string yn, .int .i64 gy, .string yw, .string yc, .int .u64 (cy : Int)] 26)).alloc (.cells #[.int .i64 fm, .int .u16 (bit : Int)] 49))
  have CX : Hid (∀ W, Calls Tryd.prog 10 #[.agg #[.bool xd, .string xn, .int .i64 gx, .string xw, .string xc, .int .u64 (cx : Int)], .slice none 0 0] W fun e w' => e = .returned (.bool false) ∧ Below W.heap.size W w') := by
    refine Lib.hid fun W => ?_
    have := longN_any (⟨xd, xn, gx, xw, xc, cx⟩ : Stg) sx.n sx.w sx.c W
    rw [hlx] at this
    exact this
  have CY : Hid (∀ W, Calls Tryd.prog 10 #[.agg #[.bool yd, .string yn, .int .i64 gy, .string yw, .string yc, .int .u64 (cy : Int)], .slice none 0 0] W fun e w' => e = .returned (.bool false) ∧ Below W.heap.size W w') := by
    refine Lib.hid fun W => ?_
    have := longN_any (⟨yd, yn, gy, yw, yc, cy⟩ : Stg) sy.n sy.w sy.c W
    rw [hly] at this
    exact this
  have AW := Lib.hid (fun W (t : Tabs W) => awakeS_any W t)
  have hkz : (kk : Int) ≤ 3 := by omega
  have hkw : wrap64 (kk : Int) = kk := by unfold wrap64; omega
  have lx : xw.size + xc.size + xn.size ≤ 6000 := by
    have := of_decide_eq_false hlx
    dsimp only at this
    omega
  have ly : yw.size + yc.size + yn.size ≤ 6000 := by
    have := of_decide_eq_false hly
    dsimp only at this
    omega
  have RM : Hid (∀ KB FB W, Tabs W → W.cell? ⟨KB, 0, none⟩ = some (.int .i64 kk) → W.cell? ⟨FB, 1, none⟩ = some (.int .u16 bit) → Calls Tryd.prog 18 #[stgV (⟨xd, xn, gx, xw, xc, cx⟩ : Stg), stgV (⟨yd, yn, gy, yw, yc, cy⟩ : Stg), .int .i64 1, .func (.func 19) #[] #[.pointer (some ⟨KB, 0, none⟩), .pointer (some ⟨FB, 0, none⟩)]] W (RunOut W d l)) := by
    refine Lib.hid fun KB FB W t k1 k2 => ?_
    have := runF_made xd yd xn xw xc yn yw yc gx gy cx cy 1 W t kk bit KB FB (mFl_size kk bit) (fun i V b hb hz => change_any i kk bit KB FB hbit b hz V (cell_keep hb k1) (cell_keep hb k2)) ⟨by omega, by omega, by omega⟩ (by omega) hx hy hd hv
    rw [hr] at this
    exact this
  have SP : Hid (∀ W, Tabs W → Calls Tryd.prog 21 #[stgV (⟨xd, xn, gx, xw, xc, cx⟩ : Stg), stgV (⟨yd, yn, gy, yw, yc, cy⟩ : Stg), .int .i64 kk, .int .u16 bit] W fun e W' => e = .returned (.tuple #[.int .i64 d.state, .int .i64 l.state]) ∧ Below W.heap.size W W') := by
    refine Lib.hid fun W t => ?_
    have := spec_made kk hk4 xd yd xn xw xc yn yw yc gx gy cx cy bit hbit W t ⟨by omega, by omega, by omega⟩ (by omega) hx hy hd hv
    rw [hr] at this
    exact this
  unfold stgV at RM SP
  obtain ⟨sd, hsd⟩ : ∃ n : Nat, n = d.state := ⟨_, rfl⟩
  obtain ⟨sl, hsl⟩ : ∃ n : Nat, n = l.state := ⟨_, rfl⟩
  have STd : Hid (∀ W D, Blk W D 46 (sdC d) → Calls Tryd.prog 16 #[.pointer (some ⟨D, 0, none⟩)] W fun e w' => e = .returned (.int .i64 sd) ∧ W = w') := Lib.hid (fun W D h => by rw [hsd]; exact state_any d D W h)
  have STl : Hid (∀ W D, Blk W D 46 (sdC l) → Calls Tryd.prog 16 #[.pointer (some ⟨D, 0, none⟩)] W fun e w' => e = .returned (.int .i64 sl) ∧ W = w') := Lib.hid (fun W D h => by rw [hsl]; exact state_any l D W h)
  rw [← hsd, ← hsl] at SP
  rw [← hsd] at h1
  rw [← hsl] at h3
  have t1 : ((sd : Int) == 3) = true := by rw [beq_iff_eq]; omega
  have u1 : ((sd : Int) != 3) = false := by rw [bne_eq_false_iff_eq]; omega
  have t2 : ((kk : Int) == 3) = false := beq_eq_false_iff_ne.2 (by omega)
  have u2 : ((kk : Int) != 3) = true := by rw [bne_iff_ne]; omega
  have t3 : ((sl : Int) == 3) = true := by rw [beq_iff_eq]; omega
  have u3 : ((sl : Int) != 3) = false := by rw [bne_eq_false_iff_eq]; omega
  clear ht sx sy hlx hly hd hv lx ly hx hy hsd hsl hr hbit hk4 h1 h2 h3
  have hmf : ∀ (fn : Fn) (first cap : Array Value) (w : World), (Instr.makeFunc fn first cap).run Tryd.prog w = .ok (.func fn first cap) w := fun _ _ _ _ => rfl
  unfold stgV
  go_enter Tryd.func5, Tryd.ntmps5
  obtain ⟨c0, c1, c2, c3, c4, c5⟩ := X0.out
  obtain ⟨d0, d1, d2, d3, d4, d5⟩ := Y0.out
  dsimp only at c0 c1 c2 c3 c4 c5
  simp only [World.size_alloc] at d0 d1 d2 d3 d4 d5
  have f0 := Z0.out.cell 0
  have f1 := Z0.out.cell 1
  simp only [List.getElem?_toArray, List.getElem?_cons_zero, List.getElem?_cons_succ] at f0 f1
  simp only [World.size_alloc] at f0 f1
  go_wp2_with fail
  refine (CX.out _).mono ?_
  rintro e w1 ⟨rfl, b1⟩
  have S1 := Lib.hid (S0.out.keep b1)
  clear c0 c1 c2 c3 c4 c5 d0 d1 d2 d3 d4 d5 f0 f1
  have X1 := Lib.hid (X0.out.below b1)
  have Y1 := Lib.hid (Y0.out.below b1)
  have Z1 := Lib.hid (Z0.out.below b1 Z0.out.lt)
  obtain ⟨c0, c1, c2, c3, c4, c5⟩ := X1.out
  obtain ⟨d0, d1, d2, d3, d4, d5⟩ := Y1.out
  dsimp only at c0 c1 c2 c3 c4 c5
  simp only [World.size_alloc] at d0 d1 d2 d3 d4 d5
  have f0 := Z1.out.cell 0
  have f1 := Z1.out.cell 1
  simp only [List.getElem?_toArray, List.getElem?_cons_zero, List.getElem?_cons_succ] at f0 f1
  simp only [World.size_alloc] at f0 f1
  clear b1 S0 X0 Y0 Z0
  go_wp2_with fail
  refine (CY.out _).mono ?_
  rintro e w2 ⟨rfl, b2⟩
  have S2 := Lib.hid (S1.out.keep b2)
  clear c0 c1 c2 c3 c4 c5 d0 d1 d2 d3 d4 d5 f0 f1
  have X2 := Lib.hid (X1.out.below b2)
  have Y2 := Lib.hid (Y1.out.below b2)
  have Z2 := Lib.hid (Z1.out.below b2 Z1.out.lt)
  obtain ⟨c0, c1, c2, c3, c4, c5⟩ := X2.out
  obtain ⟨d0, d1, d2, d3, d4, d5⟩ := Y2.out
  dsimp only at c0 c1 c2 c3 c4 c5
  simp only [World.size_alloc] at d0 d1 d2 d3 d4 d5
  have f0 := Z2.out.cell 0
  have f1 := Z2.out.cell 1
  simp only [List.getElem?_toArray, List.getElem?_cons_zero, List.getElem?_cons_succ] at f0 f1
  simp only [World.size_alloc] at f0 f1
  clear b2 S1 X1 Y1 Z1
  have hz2 : w.heap.size + 1 + 1 < w2.heap.size := by have := Z2.out.lt; simpa only [World.size_alloc] using this
  have BA : Below w2.heap.size w2 (w2.alloc (.cells #[.int .i64 (kk : Int)] 3)) := (Below.refl _ _).alloc (Nat.le_refl _) _
  have X3 := Lib.hid (X2.out.below BA)
  have Y3 := Lib.hid (Y2.out.below BA)
  have Z3 := Lib.hid (Z2.out.below BA Z2.out.lt)
  have S3 := Lib.hid (S2.out.keep BA)
  have K3 := Lib.hid (Blk.new w2 3 #[.int .i64 (kk : Int)])
  clear BA
  go_upto_region 6 with (fail)
  generalize w2.alloc (.cells #[.int .i64 (kk : Int)] 3) = w3 at X3 Y3 Z3 S3 K3 ⊢
  generalize w2.heap.size = kb at K3 ⊢
  clear c0 c1 c2 c3 c4 c5 d0 d1 d2 d3 d4 d5 f0 f1
  clear X2 Y2 Z2 S2 hz2
  obtain ⟨c0, c1, c2, c3, c4, c5⟩ := X3.out
  obtain ⟨d0, d1, d2, d3, d4, d5⟩ := Y3.out
  dsimp only at c0 c1 c2 c3 c4 c5
  simp only [World.size_alloc] at d0 d1 d2 d3 d4 d5
  have f0 := Z3.out.cell 0
  have f1 := Z3.out.cell 1
  simp only [List.getElem?_toArray, List.getElem?_cons_zero, List.getElem?_cons_succ] at f0 f1
  simp only [World.size_alloc] at f0 f1
  have g0 := K3.out.cell 0
  simp only [List.getElem?_toArray, List.getElem?_cons_zero] at g0
  go_wp2_with fail
  refine (RM.out kb _ _ S3.out.tabs g0 f1).mono ?_
  rintro e w4 ⟨D, K, rfl, ss⟩
  have SS4 := Lib.hid ss
  have bb4 := ss.st.bel
  have S4 := Lib.hid (S3.out.keep bb4)
  clear c0 c1 c2 c3 c4 c5 d0 d1 d2 d3 d4 d5 f0 f1
  have X4 := Lib.hid (X3.out.below bb4)
  have Y4 := Lib.hid (Y3.out.below bb4)
  have Z4 := Lib.hid (Z3.out.below bb4 Z3.out.lt)
  have K4 := Lib.hid (K3.out.below bb4 K3.out.lt)
  clear ss bb4 X3 Y3 Z3 K3 S3 g0
  obtain ⟨c0, c1, c2, c3, c4, c5⟩ := X4.out
  obtain ⟨d0, d1, d2, d3, d4, d5⟩ := Y4.out
  dsimp only at c0 c1 c2 c3 c4 c5
  simp only [World.size_alloc] at d0 d1 d2 d3 d4 d5
  have f0 := Z4.out.cell 0
  have f1 := Z4.out.cell 1
  simp only [List.getElem?_toArray, List.getElem?_cons_zero, List.getElem?_cons_succ] at f0 f1
  simp only [World.size_alloc] at f0 f1
  have g0 := K4.out.cell 0
  simp only [List.getElem?_toArray, List.getElem?_cons_zero] at g0
  go_wp2_with fail
  refine (SP.out _ S4.out.tabs).mono ?_
  rintro e w5 ⟨rfl, b5⟩
  have SS5 := Lib.hid (SS4.out.below b5)
  have S5 := Lib.hid (S4.out.keep b5)
  have K5 := Lib.hid (K4.out.below b5 K4.out.lt)
  clear c0 c1 c2 c3 c4 c5 d0 d1 d2 d3 d4 d5 f0 f1
  clear b5 X4 Y4 Z4 K4 S4 SS4 g0
  have g0 := K5.out.cell 0
  simp only [List.getElem?_toArray, List.getElem?_cons_zero] at g0
  go_wp2_with fail
  refine (STd.out _ D (SS5.out.get 0 rfl)).mono ?_
  rintro e w' ⟨rfl, rfl⟩
  go_wp2_with fail
  refine (STl.out _ K (SS5.out.get 1 rfl)).mono ?_
  rintro e w' ⟨rfl, rfl⟩
  go_wp2_with fail
  refine (AW.out _ S5.out.tabs).mono ?_
  rintro e w6 ⟨rfl, b6⟩
  have S6 := Lib.hid (S5.out.keep b6)
  clear b6
  go_wp2
  go_ret
  exact ⟨rfl, S6.out.bel⟩
set_option maxRecDepth 100000 in
set_option maxHeartbeats 4000000 in
theorem flips_d5_n (xd yd : Bool) (xn xw xc yn yw yc : ByteArray) (gx gy cx cy : Nat) (fm : Int) (kk bit : Nat) (hbit : bit ≤ 65535) (hk4 : kk < 4) (w : World) (ht : Tabs w) (sx : StgSz (⟨xd, xn, gx, xw, xc, cx⟩ : Stg)) (sy : StgSz (⟨yd, yn, gy, yw, yc, cy⟩ : Stg)) (hlx : longB (⟨xd, xn, gx, xw, xc, cx⟩ : Stg) = false) (hly : longB (⟨yd, yn, gy, yw, yc, cy⟩ : Stg) = false) (tm : Int) (htm : Int.tmod fm 4 = tm) (hneg : decide (tm < 0) = true) (hlo : -4 < tm) (hkk : tm + 4 = (kk : Int))
    (hx : cx ≤ 18446744073709551615) (hy : cy ≤ 18446744073709551615) (hd : dialB xn gx xw = true) (hv : (nameF yn && genI gy) = true) (d l : Sd) (said : List ByteArray) (hr : runF (dialS ⟨xn, gx⟩ xw xc cx) (listenS ⟨yn, gy⟩ yc cy) (helloF ⟨xn, gx⟩ xw) 1 (mFl kk bit) = (d, l, said)) (h1 : d.state = 3) (h2 : kk ≠ 3) (h3 : l.state ≠ 3) :
    Calls Tryd.prog 5 #[stgV (⟨xd, xn, gx, xw, xc, cx⟩ : Stg), stgV (⟨yd, yn, gy, yw, yc, cy⟩ : Stg), .agg #[.int .i64 fm, .int .u16 (bit : Int)]] w fun e w' => e = .returned (.bool true) ∧ Below w.heap.size w w' := by
  have X0 := Lib.hid (Bx.of (x := (⟨xd, xn, gx, xw, xc, cx⟩ : Stg)) (((Blk.new w 26 #[.bool xd, .string xn, .int .i64 gx, .string xw, .string xc, .int .u64 (cx : Int)]).alloc (.cells #[.bool yd, .string yn, .int .i64 gy, .string yw, .string yc, .int .u64 (cy : Int)] 26)).alloc (.cells #[.int .i64 fm, .int .u16 (bit : Int)] 49)))
  have Y0 := Lib.hid (Bx.of (x := (⟨yd, yn, gy, yw, yc, cy⟩ : Stg)) ((Blk.new (w.alloc (.cells #[.bool xd, .string xn, .int .i64 gx, .string xw, .string xc, .int .u64 (cx : Int)] 26)) 26 #[.bool yd, .string yn, .int .i64 gy, .string yw, .string yc, .int .u64 (cy : Int)]).alloc (.cells #[.int .i64 fm, .int .u16 (bit : Int)] 49)))
  have Z0 := Lib.hid (Blk.new ((w.alloc (.cells #[.bool xd, .string xn, .int .i64 gx, .string xw, .string xc, .int .u64 (cx : Int)] 26)).alloc (.cells #[.bool yd, .string yn, .int .i64 gy, .string yw, .string yc, .int .u64 (cy : Int)] 26)) 49 #[.int .i64 fm, .int .u16 (bit : Int)])
  have S0 := Lib.hid ((((St.refl ht).alloc (.cells #[.bool xd, .string xn, .int .i64 gx, .string xw, .string xc, .int .u64 (cx : Int)] 26)).alloc (.cells #[.bool yd, .string yn, .int .i64 gy, .string yw, .string yc, .int .u64 (cy : Int)] 26)).alloc (.cells #[.int .i64 fm, .int .u16 (bit : Int)] 49))
  have CX : Hid (∀ W, Calls Tryd.prog 10 #[.agg #[.bool xd, .string xn, .int .i64 gx, .string xw, .string xc, .int .u64 (cx : Int)], .slice none 0 0] W fun e w' => e = .returned (.bool false) ∧ Below W.heap.size W w') := by
    refine Lib.hid fun W => ?_
    have := longN_any (⟨xd, xn, gx, xw, xc, cx⟩ : Stg) sx.n sx.w sx.c W
    rw [hlx] at this
    exact this
  have CY : Hid (∀ W, Calls Tryd.prog 10 #[.agg #[.bool yd, .string yn, .int .i64 gy, .string yw, .string yc, .int .u64 (cy : Int)], .slice none 0 0] W fun e w' => e = .returned (.bool false) ∧ Below W.heap.size W w') := by
    refine Lib.hid fun W => ?_
    have := longN_any (⟨yd, yn, gy, yw, yc, cy⟩ : Stg) sy.n sy.w sy.c W
    rw [hly] at this
    exact this
  have AW := Lib.hid (fun W (t : Tabs W) => awakeS_any W t)
  have hkz : (kk : Int) ≤ 3 := by omega
  have hkw : wrap64 (kk : Int) = kk := by unfold wrap64; omega
  have lx : xw.size + xc.size + xn.size ≤ 6000 := by
    have := of_decide_eq_false hlx
    dsimp only at this
    omega
  have ly : yw.size + yc.size + yn.size ≤ 6000 := by
    have := of_decide_eq_false hly
    dsimp only at this
    omega
  have RM : Hid (∀ KB FB W, Tabs W → W.cell? ⟨KB, 0, none⟩ = some (.int .i64 kk) → W.cell? ⟨FB, 1, none⟩ = some (.int .u16 bit) → Calls Tryd.prog 18 #[stgV (⟨xd, xn, gx, xw, xc, cx⟩ : Stg), stgV (⟨yd, yn, gy, yw, yc, cy⟩ : Stg), .int .i64 1, .func (.func 19) #[] #[.pointer (some ⟨KB, 0, none⟩), .pointer (some ⟨FB, 0, none⟩)]] W (RunOut W d l)) := by
    refine Lib.hid fun KB FB W t k1 k2 => ?_
    have := runF_made xd yd xn xw xc yn yw yc gx gy cx cy 1 W t kk bit KB FB (mFl_size kk bit) (fun i V b hb hz => change_any i kk bit KB FB hbit b hz V (cell_keep hb k1) (cell_keep hb k2)) ⟨by omega, by omega, by omega⟩ (by omega) hx hy hd hv
    rw [hr] at this
    exact this
  have SP : Hid (∀ W, Tabs W → Calls Tryd.prog 21 #[stgV (⟨xd, xn, gx, xw, xc, cx⟩ : Stg), stgV (⟨yd, yn, gy, yw, yc, cy⟩ : Stg), .int .i64 kk, .int .u16 bit] W fun e W' => e = .returned (.tuple #[.int .i64 d.state, .int .i64 l.state]) ∧ Below W.heap.size W W') := by
    refine Lib.hid fun W t => ?_
    have := spec_made kk hk4 xd yd xn xw xc yn yw yc gx gy cx cy bit hbit W t ⟨by omega, by omega, by omega⟩ (by omega) hx hy hd hv
    rw [hr] at this
    exact this
  unfold stgV at RM SP
  obtain ⟨sd, hsd⟩ : ∃ n : Nat, n = d.state := ⟨_, rfl⟩
  obtain ⟨sl, hsl⟩ : ∃ n : Nat, n = l.state := ⟨_, rfl⟩
  have STd : Hid (∀ W D, Blk W D 46 (sdC d) → Calls Tryd.prog 16 #[.pointer (some ⟨D, 0, none⟩)] W fun e w' => e = .returned (.int .i64 sd) ∧ W = w') := Lib.hid (fun W D h => by rw [hsd]; exact state_any d D W h)
  have STl : Hid (∀ W D, Blk W D 46 (sdC l) → Calls Tryd.prog 16 #[.pointer (some ⟨D, 0, none⟩)] W fun e w' => e = .returned (.int .i64 sl) ∧ W = w') := Lib.hid (fun W D h => by rw [hsl]; exact state_any l D W h)
  rw [← hsd, ← hsl] at SP
  rw [← hsd] at h1
  rw [← hsl] at h3
  have t1 : ((sd : Int) == 3) = true := by rw [beq_iff_eq]; omega
  have u1 : ((sd : Int) != 3) = false := by rw [bne_eq_false_iff_eq]; omega
  have t2 : ((kk : Int) == 3) = false := beq_eq_false_iff_ne.2 (by omega)
  have u2 : ((kk : Int) != 3) = true := by rw [bne_iff_ne]; omega
  have t3 : ((sl : Int) == 3) = false := beq_eq_false_iff_ne.2 (by omega)
  have u3 : ((sl : Int) != 3) = true := by rw [bne_iff_ne]; omega
  clear ht sx sy hlx hly hd hv lx ly hx hy hsd hsl hr hbit hk4 h1 h2 h3
  have hmf : ∀ (fn : Fn) (first cap : Array Value) (w : World), (Instr.makeFunc fn first cap).run Tryd.prog w = .ok (.func fn first cap) w := fun _ _ _ _ => rfl
  unfold stgV
  go_enter Tryd.func5, Tryd.ntmps5
  obtain ⟨c0, c1, c2, c3, c4, c5⟩ := X0.out
  obtain ⟨d0, d1, d2, d3, d4, d5⟩ := Y0.out
  dsimp only at c0 c1 c2 c3 c4 c5
  simp only [World.size_alloc] at d0 d1 d2 d3 d4 d5
  have f0 := Z0.out.cell 0
  have f1 := Z0.out.cell 1
  simp only [List.getElem?_toArray, List.getElem?_cons_zero, List.getElem?_cons_succ] at f0 f1
  simp only [World.size_alloc] at f0 f1
  go_wp2_with fail
  refine (CX.out _).mono ?_
  rintro e w1 ⟨rfl, b1⟩
  have S1 := Lib.hid (S0.out.keep b1)
  clear c0 c1 c2 c3 c4 c5 d0 d1 d2 d3 d4 d5 f0 f1
  have X1 := Lib.hid (X0.out.below b1)
  have Y1 := Lib.hid (Y0.out.below b1)
  have Z1 := Lib.hid (Z0.out.below b1 Z0.out.lt)
  obtain ⟨c0, c1, c2, c3, c4, c5⟩ := X1.out
  obtain ⟨d0, d1, d2, d3, d4, d5⟩ := Y1.out
  dsimp only at c0 c1 c2 c3 c4 c5
  simp only [World.size_alloc] at d0 d1 d2 d3 d4 d5
  have f0 := Z1.out.cell 0
  have f1 := Z1.out.cell 1
  simp only [List.getElem?_toArray, List.getElem?_cons_zero, List.getElem?_cons_succ] at f0 f1
  simp only [World.size_alloc] at f0 f1
  clear b1 S0 X0 Y0 Z0
  go_wp2_with fail
  refine (CY.out _).mono ?_
  rintro e w2 ⟨rfl, b2⟩
  have S2 := Lib.hid (S1.out.keep b2)
  clear c0 c1 c2 c3 c4 c5 d0 d1 d2 d3 d4 d5 f0 f1
  have X2 := Lib.hid (X1.out.below b2)
  have Y2 := Lib.hid (Y1.out.below b2)
  have Z2 := Lib.hid (Z1.out.below b2 Z1.out.lt)
  obtain ⟨c0, c1, c2, c3, c4, c5⟩ := X2.out
  obtain ⟨d0, d1, d2, d3, d4, d5⟩ := Y2.out
  dsimp only at c0 c1 c2 c3 c4 c5
  simp only [World.size_alloc] at d0 d1 d2 d3 d4 d5
  have f0 := Z2.out.cell 0
  have f1 := Z2.out.cell 1
  simp only [List.getElem?_toArray, List.getElem?_cons_zero, List.getElem?_cons_succ] at f0 f1
  simp only [World.size_alloc] at f0 f1
  clear b2 S1 X1 Y1 Z1
  have hz2 : w.heap.size + 1 + 1 < w2.heap.size := by have := Z2.out.lt; simpa only [World.size_alloc] using this
  have BA : Below w2.heap.size w2 (w2.alloc (.cells #[.int .i64 (kk : Int)] 3)) := (Below.refl _ _).alloc (Nat.le_refl _) _
  have X3 := Lib.hid (X2.out.below BA)
  have Y3 := Lib.hid (Y2.out.below BA)
  have Z3 := Lib.hid (Z2.out.below BA Z2.out.lt)
  have S3 := Lib.hid (S2.out.keep BA)
  have K3 := Lib.hid (Blk.new w2 3 #[.int .i64 (kk : Int)])
  clear BA
  go_upto_region 6 with (fail)
  generalize w2.alloc (.cells #[.int .i64 (kk : Int)] 3) = w3 at X3 Y3 Z3 S3 K3 ⊢
  generalize w2.heap.size = kb at K3 ⊢
  clear c0 c1 c2 c3 c4 c5 d0 d1 d2 d3 d4 d5 f0 f1
  clear X2 Y2 Z2 S2 hz2
  obtain ⟨c0, c1, c2, c3, c4, c5⟩ := X3.out
  obtain ⟨d0, d1, d2, d3, d4, d5⟩ := Y3.out
  dsimp only at c0 c1 c2 c3 c4 c5
  simp only [World.size_alloc] at d0 d1 d2 d3 d4 d5
  have f0 := Z3.out.cell 0
  have f1 := Z3.out.cell 1
  simp only [List.getElem?_toArray, List.getElem?_cons_zero, List.getElem?_cons_succ] at f0 f1
  simp only [World.size_alloc] at f0 f1
  have g0 := K3.out.cell 0
  simp only [List.getElem?_toArray, List.getElem?_cons_zero] at g0
  go_wp2_with fail
  refine (RM.out kb _ _ S3.out.tabs g0 f1).mono ?_
  rintro e w4 ⟨D, K, rfl, ss⟩
  have SS4 := Lib.hid ss
  have bb4 := ss.st.bel
  have S4 := Lib.hid (S3.out.keep bb4)
  clear c0 c1 c2 c3 c4 c5 d0 d1 d2 d3 d4 d5 f0 f1
  have X4 := Lib.hid (X3.out.below bb4)
  have Y4 := Lib.hid (Y3.out.below bb4)
  have Z4 := Lib.hid (Z3.out.below bb4 Z3.out.lt)
  have K4 := Lib.hid (K3.out.below bb4 K3.out.lt)
  clear ss bb4 X3 Y3 Z3 K3 S3 g0
  obtain ⟨c0, c1, c2, c3, c4, c5⟩ := X4.out
  obtain ⟨d0, d1, d2, d3, d4, d5⟩ := Y4.out
  dsimp only at c0 c1 c2 c3 c4 c5
  simp only [World.size_alloc] at d0 d1 d2 d3 d4 d5
  have f0 := Z4.out.cell 0
  have f1 := Z4.out.cell 1
  simp only [List.getElem?_toArray, List.getElem?_cons_zero, List.getElem?_cons_succ] at f0 f1
  simp only [World.size_alloc] at f0 f1
  have g0 := K4.out.cell 0
  simp only [List.getElem?_toArray, List.getElem?_cons_zero] at g0
  go_wp2_with fail
  refine (SP.out _ S4.out.tabs).mono ?_
  rintro e w5 ⟨rfl, b5⟩
  have SS5 := Lib.hid (SS4.out.below b5)
  have S5 := Lib.hid (S4.out.keep b5)
  have K5 := Lib.hid (K4.out.below b5 K4.out.lt)
  clear c0 c1 c2 c3 c4 c5 d0 d1 d2 d3 d4 d5 f0 f1
  clear b5 X4 Y4 Z4 K4 S4 SS4 g0
  have g0 := K5.out.cell 0
  simp only [List.getElem?_toArray, List.getElem?_cons_zero] at g0
  go_wp2_with fail
  refine (STd.out _ D (SS5.out.get 0 rfl)).mono ?_
  rintro e w' ⟨rfl, rfl⟩
  go_wp2_with fail
  refine (STl.out _ K (SS5.out.get 1 rfl)).mono ?_
  rintro e w' ⟨rfl, rfl⟩
  go_wp2_with fail
  refine (AW.out _ S5.out.tabs).mono ?_
  rintro e w6 ⟨rfl, b6⟩
  have S6 := Lib.hid (S5.out.keep b6)
  clear b6
  go_wp2
  go_ret
  exact ⟨rfl, S6.out.bel⟩
set_option maxRecDepth 100000 in
set_option maxHeartbeats 4000000 in
theorem flips_e3_n (xd yd : Bool) (xn xw xc yn yw yc : ByteArray) (gx gy cx cy : Nat) (fm : Int) (kk bit : Nat) (hbit : bit ≤ 65535) (hk4 : kk < 4) (w : World) (ht : Tabs w) (sx : StgSz (⟨xd, xn, gx, xw, xc, cx⟩ : Stg)) (sy : StgSz (⟨yd, yn, gy, yw, yc, cy⟩ : Stg)) (hlx : longB (⟨xd, xn, gx, xw, xc, cx⟩ : Stg) = false) (hly : longB (⟨yd, yn, gy, yw, yc, cy⟩ : Stg) = false) (tm : Int) (htm : Int.tmod fm 4 = tm) (hneg : decide (tm < 0) = true) (hlo : -4 < tm) (hkk : tm + 4 = (kk : Int))
    (hx : cx ≤ 18446744073709551615) (hy : cy ≤ 18446744073709551615) (hd : dialB xn gx xw = true) (hv : (nameF yn && genI gy) = true) (d l : Sd) (said : List ByteArray) (hr : runF (dialS ⟨xn, gx⟩ xw xc cx) (listenS ⟨yn, gy⟩ yc cy) (helloF ⟨xn, gx⟩ xw) 1 (mFl kk bit) = (d, l, said)) (h1 : d.state ≠ 3) (h2 : kk = 3) :
    Calls Tryd.prog 5 #[stgV (⟨xd, xn, gx, xw, xc, cx⟩ : Stg), stgV (⟨yd, yn, gy, yw, yc, cy⟩ : Stg), .agg #[.int .i64 fm, .int .u16 (bit : Int)]] w fun e w' => e = .returned (.bool true) ∧ Below w.heap.size w w' := by
  have X0 := Lib.hid (Bx.of (x := (⟨xd, xn, gx, xw, xc, cx⟩ : Stg)) (((Blk.new w 26 #[.bool xd, .string xn, .int .i64 gx, .string xw, .string xc, .int .u64 (cx : Int)]).alloc (.cells #[.bool yd, .string yn, .int .i64 gy, .string yw, .string yc, .int .u64 (cy : Int)] 26)).alloc (.cells #[.int .i64 fm, .int .u16 (bit : Int)] 49)))
  have Y0 := Lib.hid (Bx.of (x := (⟨yd, yn, gy, yw, yc, cy⟩ : Stg)) ((Blk.new (w.alloc (.cells #[.bool xd, .string xn, .int .i64 gx, .string xw, .string xc, .int .u64 (cx : Int)] 26)) 26 #[.bool yd, .string yn, .int .i64 gy, .string yw, .string yc, .int .u64 (cy : Int)]).alloc (.cells #[.int .i64 fm, .int .u16 (bit : Int)] 49)))
  have Z0 := Lib.hid (Blk.new ((w.alloc (.cells #[.bool xd, .string xn, .int .i64 gx, .string xw, .string xc, .int .u64 (cx : Int)] 26)).alloc (.cells #[.bool yd, .string yn, .int .i64 gy, .string yw, .string yc, .int .u64 (cy : Int)] 26)) 49 #[.int .i64 fm, .int .u16 (bit : Int)])
  have S0 := Lib.hid ((((St.refl ht).alloc (.cells #[.bool xd, .string xn, .int .i64 gx, .string xw, .string xc, .int .u64 (cx : Int)] 26)).alloc (.cells #[.bool yd, .string yn, .int .i64 gy, .string yw, .string yc, .int .u64 (cy : Int)] 26)).alloc (.cells #[.int .i64 fm, .int .u16 (bit : Int)] 49))
  have CX : Hid (∀ W, Calls Tryd.prog 10 #[.agg #[.bool xd, .string xn, .int .i64 gx, .string xw, .string xc, .int .u64 (cx : Int)], .slice none 0 0] W fun e w' => e = .returned (.bool false) ∧ Below W.heap.size W w') := by
    refine Lib.hid fun W => ?_
    have := longN_any (⟨xd, xn, gx, xw, xc, cx⟩ : Stg) sx.n sx.w sx.c W
    rw [hlx] at this
    exact this
  have CY : Hid (∀ W, Calls Tryd.prog 10 #[.agg #[.bool yd, .string yn, .int .i64 gy, .string yw, .string yc, .int .u64 (cy : Int)], .slice none 0 0] W fun e w' => e = .returned (.bool false) ∧ Below W.heap.size W w') := by
    refine Lib.hid fun W => ?_
    have := longN_any (⟨yd, yn, gy, yw, yc, cy⟩ : Stg) sy.n sy.w sy.c W
    rw [hly] at this
    exact this
  have AW := Lib.hid (fun W (t : Tabs W) => awakeS_any W t)
  have hkz : (kk : Int) ≤ 3 := by omega
  have hkw : wrap64 (kk : Int) = kk := by unfold wrap64; omega
  have lx : xw.size + xc.size + xn.size ≤ 6000 := by
    have := of_decide_eq_false hlx
    dsimp only at this
    omega
  have ly : yw.size + yc.size + yn.size ≤ 6000 := by
    have := of_decide_eq_false hly
    dsimp only at this
    omega
  have RM : Hid (∀ KB FB W, Tabs W → W.cell? ⟨KB, 0, none⟩ = some (.int .i64 kk) → W.cell? ⟨FB, 1, none⟩ = some (.int .u16 bit) → Calls Tryd.prog 18 #[stgV (⟨xd, xn, gx, xw, xc, cx⟩ : Stg), stgV (⟨yd, yn, gy, yw, yc, cy⟩ : Stg), .int .i64 1, .func (.func 19) #[] #[.pointer (some ⟨KB, 0, none⟩), .pointer (some ⟨FB, 0, none⟩)]] W (RunOut W d l)) := by
    refine Lib.hid fun KB FB W t k1 k2 => ?_
    have := runF_made xd yd xn xw xc yn yw yc gx gy cx cy 1 W t kk bit KB FB (mFl_size kk bit) (fun i V b hb hz => change_any i kk bit KB FB hbit b hz V (cell_keep hb k1) (cell_keep hb k2)) ⟨by omega, by omega, by omega⟩ (by omega) hx hy hd hv
    rw [hr] at this
    exact this
  have SP : Hid (∀ W, Tabs W → Calls Tryd.prog 21 #[stgV (⟨xd, xn, gx, xw, xc, cx⟩ : Stg), stgV (⟨yd, yn, gy, yw, yc, cy⟩ : Stg), .int .i64 kk, .int .u16 bit] W fun e W' => e = .returned (.tuple #[.int .i64 d.state, .int .i64 l.state]) ∧ Below W.heap.size W W') := by
    refine Lib.hid fun W t => ?_
    have := spec_made kk hk4 xd yd xn xw xc yn yw yc gx gy cx cy bit hbit W t ⟨by omega, by omega, by omega⟩ (by omega) hx hy hd hv
    rw [hr] at this
    exact this
  unfold stgV at RM SP
  obtain ⟨sd, hsd⟩ : ∃ n : Nat, n = d.state := ⟨_, rfl⟩
  obtain ⟨sl, hsl⟩ : ∃ n : Nat, n = l.state := ⟨_, rfl⟩
  have STd : Hid (∀ W D, Blk W D 46 (sdC d) → Calls Tryd.prog 16 #[.pointer (some ⟨D, 0, none⟩)] W fun e w' => e = .returned (.int .i64 sd) ∧ W = w') := Lib.hid (fun W D h => by rw [hsd]; exact state_any d D W h)
  have STl : Hid (∀ W D, Blk W D 46 (sdC l) → Calls Tryd.prog 16 #[.pointer (some ⟨D, 0, none⟩)] W fun e w' => e = .returned (.int .i64 sl) ∧ W = w') := Lib.hid (fun W D h => by rw [hsl]; exact state_any l D W h)
  rw [← hsd, ← hsl] at SP
  rw [← hsd] at h1
  have t1 : ((sd : Int) == 3) = false := beq_eq_false_iff_ne.2 (by omega)
  have u1 : ((sd : Int) != 3) = true := by rw [bne_iff_ne]; omega
  have t2 : ((kk : Int) == 3) = true := by rw [beq_iff_eq]; omega
  have u2 : ((kk : Int) != 3) = false := by rw [bne_eq_false_iff_eq]; omega
  clear ht sx sy hlx hly hd hv lx ly hx hy hsd hsl hr hbit hk4 h1 h2 
  have stl0 := STl
  clear stl0 STl
  have hmf : ∀ (fn : Fn) (first cap : Array Value) (w : World), (Instr.makeFunc fn first cap).run Tryd.prog w = .ok (.func fn first cap) w := fun _ _ _ _ => rfl
  unfold stgV
  go_enter Tryd.func5, Tryd.ntmps5
  obtain ⟨c0, c1, c2, c3, c4, c5⟩ := X0.out
  obtain ⟨d0, d1, d2, d3, d4, d5⟩ := Y0.out
  dsimp only at c0 c1 c2 c3 c4 c5
  simp only [World.size_alloc] at d0 d1 d2 d3 d4 d5
  have f0 := Z0.out.cell 0
  have f1 := Z0.out.cell 1
  simp only [List.getElem?_toArray, List.getElem?_cons_zero, List.getElem?_cons_succ] at f0 f1
  simp only [World.size_alloc] at f0 f1
  go_wp2_with fail
  refine (CX.out _).mono ?_
  rintro e w1 ⟨rfl, b1⟩
  have S1 := Lib.hid (S0.out.keep b1)
  clear c0 c1 c2 c3 c4 c5 d0 d1 d2 d3 d4 d5 f0 f1
  have X1 := Lib.hid (X0.out.below b1)
  have Y1 := Lib.hid (Y0.out.below b1)
  have Z1 := Lib.hid (Z0.out.below b1 Z0.out.lt)
  obtain ⟨c0, c1, c2, c3, c4, c5⟩ := X1.out
  obtain ⟨d0, d1, d2, d3, d4, d5⟩ := Y1.out
  dsimp only at c0 c1 c2 c3 c4 c5
  simp only [World.size_alloc] at d0 d1 d2 d3 d4 d5
  have f0 := Z1.out.cell 0
  have f1 := Z1.out.cell 1
  simp only [List.getElem?_toArray, List.getElem?_cons_zero, List.getElem?_cons_succ] at f0 f1
  simp only [World.size_alloc] at f0 f1
  clear b1 S0 X0 Y0 Z0
  go_wp2_with fail
  refine (CY.out _).mono ?_
  rintro e w2 ⟨rfl, b2⟩
  have S2 := Lib.hid (S1.out.keep b2)
  clear c0 c1 c2 c3 c4 c5 d0 d1 d2 d3 d4 d5 f0 f1
  have X2 := Lib.hid (X1.out.below b2)
  have Y2 := Lib.hid (Y1.out.below b2)
  have Z2 := Lib.hid (Z1.out.below b2 Z1.out.lt)
  obtain ⟨c0, c1, c2, c3, c4, c5⟩ := X2.out
  obtain ⟨d0, d1, d2, d3, d4, d5⟩ := Y2.out
  dsimp only at c0 c1 c2 c3 c4 c5
  simp only [World.size_alloc] at d0 d1 d2 d3 d4 d5
  have f0 := Z2.out.cell 0
  have f1 := Z2.out.cell 1
  simp only [List.getElem?_toArray, List.getElem?_cons_zero, List.getElem?_cons_succ] at f0 f1
  simp only [World.size_alloc] at f0 f1
  clear b2 S1 X1 Y1 Z1
  have hz2 : w.heap.size + 1 + 1 < w2.heap.size := by have := Z2.out.lt; simpa only [World.size_alloc] using this
  have BA : Below w2.heap.size w2 (w2.alloc (.cells #[.int .i64 (kk : Int)] 3)) := (Below.refl _ _).alloc (Nat.le_refl _) _
  have X3 := Lib.hid (X2.out.below BA)
  have Y3 := Lib.hid (Y2.out.below BA)
  have Z3 := Lib.hid (Z2.out.below BA Z2.out.lt)
  have S3 := Lib.hid (S2.out.keep BA)
  have K3 := Lib.hid (Blk.new w2 3 #[.int .i64 (kk : Int)])
  clear BA
  go_upto_region 6 with (fail)
  generalize w2.alloc (.cells #[.int .i64 (kk : Int)] 3) = w3 at X3 Y3 Z3 S3 K3 ⊢
  generalize w2.heap.size = kb at K3 ⊢
  clear c0 c1 c2 c3 c4 c5 d0 d1 d2 d3 d4 d5 f0 f1
  clear X2 Y2 Z2 S2 hz2
  obtain ⟨c0, c1, c2, c3, c4, c5⟩ := X3.out
  obtain ⟨d0, d1, d2, d3, d4, d5⟩ := Y3.out
  dsimp only at c0 c1 c2 c3 c4 c5
  simp only [World.size_alloc] at d0 d1 d2 d3 d4 d5
  have f0 := Z3.out.cell 0
  have f1 := Z3.out.cell 1
  simp only [List.getElem?_toArray, List.getElem?_cons_zero, List.getElem?_cons_succ] at f0 f1
  simp only [World.size_alloc] at f0 f1
  have g0 := K3.out.cell 0
  simp only [List.getElem?_toArray, List.getElem?_cons_zero] at g0
  go_wp2_with fail
  refine (RM.out kb _ _ S3.out.tabs g0 f1).mono ?_
  rintro e w4 ⟨D, K, rfl, ss⟩
  have SS4 := Lib.hid ss
  have bb4 := ss.st.bel
  have S4 := Lib.hid (S3.out.keep bb4)
  clear c0 c1 c2 c3 c4 c5 d0 d1 d2 d3 d4 d5 f0 f1
  have X4 := Lib.hid (X3.out.below bb4)
  have Y4 := Lib.hid (Y3.out.below bb4)
  have Z4 := Lib.hid (Z3.out.below bb4 Z3.out.lt)
  have K4 := Lib.hid (K3.out.below bb4 K3.out.lt)
  clear ss bb4 X3 Y3 Z3 K3 S3 g0
  obtain ⟨c0, c1, c2, c3, c4, c5⟩ := X4.out
  obtain ⟨d0, d1, d2, d3, d4, d5⟩ := Y4.out
  dsimp only at c0 c1 c2 c3 c4 c5
  simp only [World.size_alloc] at d0 d1 d2 d3 d4 d5
  have f0 := Z4.out.cell 0
  have f1 := Z4.out.cell 1
  simp only [List.getElem?_toArray, List.getElem?_cons_zero, List.getElem?_cons_succ] at f0 f1
  simp only [World.size_alloc] at f0 f1
  have g0 := K4.out.cell 0
  simp only [List.getElem?_toArray, List.getElem?_cons_zero] at g0
  go_wp2_with fail
  refine (SP.out _ S4.out.tabs).mono ?_
  rintro e w5 ⟨rfl, b5⟩
  have SS5 := Lib.hid (SS4.out.below b5)
  have S5 := Lib.hid (S4.out.keep b5)
  have K5 := Lib.hid (K4.out.below b5 K4.out.lt)
  clear c0 c1 c2 c3 c4 c5 d0 d1 d2 d3 d4 d5 f0 f1
  clear b5 X4 Y4 Z4 K4 S4 SS4 g0
  have g0 := K5.out.cell 0
  simp only [List.getElem?_toArray, List.getElem?_cons_zero] at g0
  go_wp2_with fail
  refine (STd.out _ D (SS5.out.get 0 rfl)).mono ?_
  rintro e w' ⟨rfl, rfl⟩
  go_wp2_with fail
  refine (AW.out _ S5.out.tabs).mono ?_
  rintro e w6 ⟨rfl, b6⟩
  have S6 := Lib.hid (S5.out.keep b6)
  clear b6
  go_wp2
  go_ret
  exact ⟨rfl, S6.out.bel⟩
set_option maxRecDepth 100000 in
set_option maxHeartbeats 4000000 in
theorem flips_e4_n (xd yd : Bool) (xn xw xc yn yw yc : ByteArray) (gx gy cx cy : Nat) (fm : Int) (kk bit : Nat) (hbit : bit ≤ 65535) (hk4 : kk < 4) (w : World) (ht : Tabs w) (sx : StgSz (⟨xd, xn, gx, xw, xc, cx⟩ : Stg)) (sy : StgSz (⟨yd, yn, gy, yw, yc, cy⟩ : Stg)) (hlx : longB (⟨xd, xn, gx, xw, xc, cx⟩ : Stg) = false) (hly : longB (⟨yd, yn, gy, yw, yc, cy⟩ : Stg) = false) (tm : Int) (htm : Int.tmod fm 4 = tm) (hneg : decide (tm < 0) = true) (hlo : -4 < tm) (hkk : tm + 4 = (kk : Int))
    (hx : cx ≤ 18446744073709551615) (hy : cy ≤ 18446744073709551615) (hd : dialB xn gx xw = true) (hv : (nameF yn && genI gy) = true) (d l : Sd) (said : List ByteArray) (hr : runF (dialS ⟨xn, gx⟩ xw xc cx) (listenS ⟨yn, gy⟩ yc cy) (helloF ⟨xn, gx⟩ xw) 1 (mFl kk bit) = (d, l, said)) (h1 : d.state ≠ 3) (h2 : kk ≠ 3) (h3 : l.state = 3) :
    Calls Tryd.prog 5 #[stgV (⟨xd, xn, gx, xw, xc, cx⟩ : Stg), stgV (⟨yd, yn, gy, yw, yc, cy⟩ : Stg), .agg #[.int .i64 fm, .int .u16 (bit : Int)]] w fun e w' => e = .returned (.bool true) ∧ Below w.heap.size w w' := by
  have X0 := Lib.hid (Bx.of (x := (⟨xd, xn, gx, xw, xc, cx⟩ : Stg)) (((Blk.new w 26 #[.bool xd, .string xn, .int .i64 gx, .string xw, .string xc, .int .u64 (cx : Int)]).alloc (.cells #[.bool yd, .string yn, .int .i64 gy, .string yw, .string yc, .int .u64 (cy : Int)] 26)).alloc (.cells #[.int .i64 fm, .int .u16 (bit : Int)] 49)))
  have Y0 := Lib.hid (Bx.of (x := (⟨yd, yn, gy, yw, yc, cy⟩ : Stg)) ((Blk.new (w.alloc (.cells #[.bool xd, .string xn, .int .i64 gx, .string xw, .string xc, .int .u64 (cx : Int)] 26)) 26 #[.bool yd, .string yn, .int .i64 gy, .string yw, .string yc, .int .u64 (cy : Int)]).alloc (.cells #[.int .i64 fm, .int .u16 (bit : Int)] 49)))
  have Z0 := Lib.hid (Blk.new ((w.alloc (.cells #[.bool xd, .string xn, .int .i64 gx, .string xw, .string xc, .int .u64 (cx : Int)] 26)).alloc (.cells #[.bool yd, .string yn, .int .i64 gy, .string yw, .string yc, .int .u64 (cy : Int)] 26)) 49 #[.int .i64 fm, .int .u16 (bit : Int)])
  have S0 := Lib.hid ((((St.refl ht).alloc (.cells #[.bool xd, .string xn, .int .i64 gx, .string xw, .string xc, .int .u64 (cx : Int)] 26)).alloc (.cells #[.bool yd, .string yn, .int .i64 gy, .string yw, .string yc, .int .u64 (cy : Int)] 26)).alloc (.cells #[.int .i64 fm, .int .u16 (bit : Int)] 49))
  have CX : Hid (∀ W, Calls Tryd.prog 10 #[.agg #[.bool xd, .string xn, .int .i64 gx, .string xw, .string xc, .int .u64 (cx : Int)], .slice none 0 0] W fun e w' => e = .returned (.bool false) ∧ Below W.heap.size W w') := by
    refine Lib.hid fun W => ?_
    have := longN_any (⟨xd, xn, gx, xw, xc, cx⟩ : Stg) sx.n sx.w sx.c W
    rw [hlx] at this
    exact this
  have CY : Hid (∀ W, Calls Tryd.prog 10 #[.agg #[.bool yd, .string yn, .int .i64 gy, .string yw, .string yc, .int .u64 (cy : Int)], .slice none 0 0] W fun e w' => e = .returned (.bool false) ∧ Below W.heap.size W w') := by
    refine Lib.hid fun W => ?_
    have := longN_any (⟨yd, yn, gy, yw, yc, cy⟩ : Stg) sy.n sy.w sy.c W
    rw [hly] at this
    exact this
  have AW := Lib.hid (fun W (t : Tabs W) => awakeS_any W t)
  have hkz : (kk : Int) ≤ 3 := by omega
  have hkw : wrap64 (kk : Int) = kk := by unfold wrap64; omega
  have lx : xw.size + xc.size + xn.size ≤ 6000 := by
    have := of_decide_eq_false hlx
    dsimp only at this
    omega
  have ly : yw.size + yc.size + yn.size ≤ 6000 := by
    have := of_decide_eq_false hly
    dsimp only at this
    omega
  have RM : Hid (∀ KB FB W, Tabs W → W.cell? ⟨KB, 0, none⟩ = some (.int .i64 kk) → W.cell? ⟨FB, 1, none⟩ = some (.int .u16 bit) → Calls Tryd.prog 18 #[stgV (⟨xd, xn, gx, xw, xc, cx⟩ : Stg), stgV (⟨yd, yn, gy, yw, yc, cy⟩ : Stg), .int .i64 1, .func (.func 19) #[] #[.pointer (some ⟨KB, 0, none⟩), .pointer (some ⟨FB, 0, none⟩)]] W (RunOut W d l)) := by
    refine Lib.hid fun KB FB W t k1 k2 => ?_
    have := runF_made xd yd xn xw xc yn yw yc gx gy cx cy 1 W t kk bit KB FB (mFl_size kk bit) (fun i V b hb hz => change_any i kk bit KB FB hbit b hz V (cell_keep hb k1) (cell_keep hb k2)) ⟨by omega, by omega, by omega⟩ (by omega) hx hy hd hv
    rw [hr] at this
    exact this
  have SP : Hid (∀ W, Tabs W → Calls Tryd.prog 21 #[stgV (⟨xd, xn, gx, xw, xc, cx⟩ : Stg), stgV (⟨yd, yn, gy, yw, yc, cy⟩ : Stg), .int .i64 kk, .int .u16 bit] W fun e W' => e = .returned (.tuple #[.int .i64 d.state, .int .i64 l.state]) ∧ Below W.heap.size W W') := by
    refine Lib.hid fun W t => ?_
    have := spec_made kk hk4 xd yd xn xw xc yn yw yc gx gy cx cy bit hbit W t ⟨by omega, by omega, by omega⟩ (by omega) hx hy hd hv
    rw [hr] at this
    exact this
  unfold stgV at RM SP
  obtain ⟨sd, hsd⟩ : ∃ n : Nat, n = d.state := ⟨_, rfl⟩
  obtain ⟨sl, hsl⟩ : ∃ n : Nat, n = l.state := ⟨_, rfl⟩
  have STd : Hid (∀ W D, Blk W D 46 (sdC d) → Calls Tryd.prog 16 #[.pointer (some ⟨D, 0, none⟩)] W fun e w' => e = .returned (.int .i64 sd) ∧ W = w') := Lib.hid (fun W D h => by rw [hsd]; exact state_any d D W h)
  have STl : Hid (∀ W D, Blk W D 46 (sdC l) → Calls Tryd.prog 16 #[.pointer (some ⟨D, 0, none⟩)] W fun e w' => e = .returned (.int .i64 sl) ∧ W = w') := Lib.hid (fun W D h => by rw [hsl]; exact state_any l D W h)
  rw [← hsd, ← hsl] at SP
  rw [← hsd] at h1
  rw [← hsl] at h3
  have t1 : ((sd : Int) == 3) = false := beq_eq_false_iff_ne.2 (by omega)
  have u1 : ((sd : Int) != 3) = true := by rw [bne_iff_ne]; omega
  have t2 : ((kk : Int) == 3) = false := beq_eq_false_iff_ne.2 (by omega)
  have u2 : ((kk : Int) != 3) = true := by rw [bne_iff_ne]; omega
  have t3 : ((sl : Int) == 3) = true := by rw [beq_iff_eq]; omega
  have u3 : ((sl : Int) != 3) = false := by rw [bne_eq_false_iff_eq]; omega
  clear ht sx sy hlx hly hd hv lx ly hx hy hsd hsl hr hbit hk4 h1 h2 h3
  have hmf : ∀ (fn : Fn) (first cap : Array Value) (w : World), (Instr.makeFunc fn first cap).run Tryd.prog w = .ok (.func fn first cap) w := fun _ _ _ _ => rfl
  unfold stgV
  go_enter Tryd.func5, Tryd.ntmps5
  obtain ⟨c0, c1, c2, c3, c4, c5⟩ := X0.out
  obtain ⟨d0, d1, d2, d3, d4, d5⟩ := Y0.out
  dsimp only at c0 c1 c2 c3 c4 c5
  simp only [World.size_alloc] at d0 d1 d2 d3 d4 d5
  have f0 := Z0.out.cell 0
  have f1 := Z0.out.cell 1
  simp only [List.getElem?_toArray, List.getElem?_cons_zero, List.getElem?_cons_succ] at f0 f1
  simp only [World.size_alloc] at f0 f1
  go_wp2_with fail
  refine (CX.out _).mono ?_
  rintro e w1 ⟨rfl, b1⟩
  have S1 := Lib.hid (S0.out.keep b1)
  clear c0 c1 c2 c3 c4 c5 d0 d1 d2 d3 d4 d5 f0 f1
  have X1 := Lib.hid (X0.out.below b1)
  have Y1 := Lib.hid (Y0.out.below b1)
  have Z1 := Lib.hid (Z0.out.below b1 Z0.out.lt)
  obtain ⟨c0, c1, c2, c3, c4, c5⟩ := X1.out
  obtain ⟨d0, d1, d2, d3, d4, d5⟩ := Y1.out
  dsimp only at c0 c1 c2 c3 c4 c5
  simp only [World.size_alloc] at d0 d1 d2 d3 d4 d5
  have f0 := Z1.out.cell 0
  have f1 := Z1.out.cell 1
  simp only [List.getElem?_toArray, List.getElem?_cons_zero, List.getElem?_cons_succ] at f0 f1
  simp only [World.size_alloc] at f0 f1
  clear b1 S0 X0 Y0 Z0
  go_wp2_with fail
  refine (CY.out _).mono ?_
  rintro e w2 ⟨rfl, b2⟩
  have S2 := Lib.hid (S1.out.keep b2)
  clear c0 c1 c2 c3 c4 c5 d0 d1 d2 d3 d4 d5 f0 f1
  have X2 := Lib.hid (X1.out.below b2)
  have Y2 := Lib.hid (Y1.out.below b2)
  have Z2 := Lib.hid (Z1.out.below b2 Z1.out.lt)
  obtain ⟨c0, c1, c2, c3, c4, c5⟩ := X2.out
  obtain ⟨d0, d1, d2, d3, d4, d5⟩ := Y2.out
  dsimp only at c0 c1 c2 c3 c4 c5
  simp only [World.size_alloc] at d0 d1 d2 d3 d4 d5
  have f0 := Z2.out.cell 0
  have f1 := Z2.out.cell 1
  simp only [List.getElem?_toArray, List.getElem?_cons_zero, List.getElem?_cons_succ] at f0 f1
  simp only [World.size_alloc] at f0 f1
  clear b2 S1 X1 Y1 Z1
  have hz2 : w.heap.size + 1 + 1 < w2.heap.size := by have := Z2.out.lt; simpa only [World.size_alloc] using this
  have BA : Below w2.heap.size w2 (w2.alloc (.cells #[.int .i64 (kk : Int)] 3)) := (Below.refl _ _).alloc (Nat.le_refl _) _
  have X3 := Lib.hid (X2.out.below BA)
  have Y3 := Lib.hid (Y2.out.below BA)
  have Z3 := Lib.hid (Z2.out.below BA Z2.out.lt)
  have S3 := Lib.hid (S2.out.keep BA)
  have K3 := Lib.hid (Blk.new w2 3 #[.int .i64 (kk : Int)])
  clear BA
  go_upto_region 6 with (fail)
  generalize w2.alloc (.cells #[.int .i64 (kk : Int)] 3) = w3 at X3 Y3 Z3 S3 K3 ⊢
  generalize w2.heap.size = kb at K3 ⊢
  clear c0 c1 c2 c3 c4 c5 d0 d1 d2 d3 d4 d5 f0 f1
  clear X2 Y2 Z2 S2 hz2
  obtain ⟨c0, c1, c2, c3, c4, c5⟩ := X3.out
  obtain ⟨d0, d1, d2, d3, d4, d5⟩ := Y3.out
  dsimp only at c0 c1 c2 c3 c4 c5
  simp only [World.size_alloc] at d0 d1 d2 d3 d4 d5
  have f0 := Z3.out.cell 0
  have f1 := Z3.out.cell 1
  simp only [List.getElem?_toArray, List.getElem?_cons_zero, List.getElem?_cons_succ] at f0 f1
  simp only [World.size_alloc] at f0 f1
  have g0 := K3.out.cell 0
  simp only [List.getElem?_toArray, List.getElem?_cons_zero] at g0
  go_wp2_with fail
  refine (RM.out kb _ _ S3.out.tabs g0 f1).mono ?_
  rintro e w4 ⟨D, K, rfl, ss⟩
  have SS4 := Lib.hid ss
  have bb4 := ss.st.bel
  have S4 := Lib.hid (S3.out.keep bb4)
  clear c0 c1 c2 c3 c4 c5 d0 d1 d2 d3 d4 d5 f0 f1
  have X4 := Lib.hid (X3.out.below bb4)
  have Y4 := Lib.hid (Y3.out.below bb4)
  have Z4 := Lib.hid (Z3.out.below bb4 Z3.out.lt)
  have K4 := Lib.hid (K3.out.below bb4 K3.out.lt)
  clear ss bb4 X3 Y3 Z3 K3 S3 g0
  obtain ⟨c0, c1, c2, c3, c4, c5⟩ := X4.out
  obtain ⟨d0, d1, d2, d3, d4, d5⟩ := Y4.out
  dsimp only at c0 c1 c2 c3 c4 c5
  simp only [World.size_alloc] at d0 d1 d2 d3 d4 d5
  have f0 := Z4.out.cell 0
  have f1 := Z4.out.cell 1
  simp only [List.getElem?_toArray, List.getElem?_cons_zero, List.getElem?_cons_succ] at f0 f1
  simp only [World.size_alloc] at f0 f1
  have g0 := K4.out.cell 0
  simp only [List.getElem?_toArray, List.getElem?_cons_zero] at g0
  go_wp2_with fail
  refine (SP.out _ S4.out.tabs).mono ?_
  rintro e w5 ⟨rfl, b5⟩
  have SS5 := Lib.hid (SS4.out.below b5)
  have S5 := Lib.hid (S4.out.keep b5)
  have K5 := Lib.hid (K4.out.below b5 K4.out.lt)
  clear c0 c1 c2 c3 c4 c5 d0 d1 d2 d3 d4 d5 f0 f1
  clear b5 X4 Y4 Z4 K4 S4 SS4 g0
  have g0 := K5.out.cell 0
  simp only [List.getElem?_toArray, List.getElem?_cons_zero] at g0
  go_wp2_with fail
  refine (STd.out _ D (SS5.out.get 0 rfl)).mono ?_
  rintro e w' ⟨rfl, rfl⟩
  go_wp2_with fail
  refine (STl.out _ K (SS5.out.get 1 rfl)).mono ?_
  rintro e w' ⟨rfl, rfl⟩
  go_wp2_with fail
  refine (AW.out _ S5.out.tabs).mono ?_
  rintro e w6 ⟨rfl, b6⟩
  have S6 := Lib.hid (S5.out.keep b6)
  clear b6
  go_wp2
  go_ret
  exact ⟨rfl, S6.out.bel⟩
set_option maxRecDepth 100000 in
set_option maxHeartbeats 4000000 in
theorem flips_e5_n (xd yd : Bool) (xn xw xc yn yw yc : ByteArray) (gx gy cx cy : Nat) (fm : Int) (kk bit : Nat) (hbit : bit ≤ 65535) (hk4 : kk < 4) (w : World) (ht : Tabs w) (sx : StgSz (⟨xd, xn, gx, xw, xc, cx⟩ : Stg)) (sy : StgSz (⟨yd, yn, gy, yw, yc, cy⟩ : Stg)) (hlx : longB (⟨xd, xn, gx, xw, xc, cx⟩ : Stg) = false) (hly : longB (⟨yd, yn, gy, yw, yc, cy⟩ : Stg) = false) (tm : Int) (htm : Int.tmod fm 4 = tm) (hneg : decide (tm < 0) = true) (hlo : -4 < tm) (hkk : tm + 4 = (kk : Int))
    (hx : cx ≤ 18446744073709551615) (hy : cy ≤ 18446744073709551615) (hd : dialB xn gx xw = true) (hv : (nameF yn && genI gy) = true) (d l : Sd) (said : List ByteArray) (hr : runF (dialS ⟨xn, gx⟩ xw xc cx) (listenS ⟨yn, gy⟩ yc cy) (helloF ⟨xn, gx⟩ xw) 1 (mFl kk bit) = (d, l, said)) (h1 : d.state ≠ 3) (h2 : kk ≠ 3) (h3 : l.state ≠ 3) :
    Calls Tryd.prog 5 #[stgV (⟨xd, xn, gx, xw, xc, cx⟩ : Stg), stgV (⟨yd, yn, gy, yw, yc, cy⟩ : Stg), .agg #[.int .i64 fm, .int .u16 (bit : Int)]] w fun e w' => e = .returned (.bool true) ∧ Below w.heap.size w w' := by
  have X0 := Lib.hid (Bx.of (x := (⟨xd, xn, gx, xw, xc, cx⟩ : Stg)) (((Blk.new w 26 #[.bool xd, .string xn, .int .i64 gx, .string xw, .string xc, .int .u64 (cx : Int)]).alloc (.cells #[.bool yd, .string yn, .int .i64 gy, .string yw, .string yc, .int .u64 (cy : Int)] 26)).alloc (.cells #[.int .i64 fm, .int .u16 (bit : Int)] 49)))
  have Y0 := Lib.hid (Bx.of (x := (⟨yd, yn, gy, yw, yc, cy⟩ : Stg)) ((Blk.new (w.alloc (.cells #[.bool xd, .string xn, .int .i64 gx, .string xw, .string xc, .int .u64 (cx : Int)] 26)) 26 #[.bool yd, .string yn, .int .i64 gy, .string yw, .string yc, .int .u64 (cy : Int)]).alloc (.cells #[.int .i64 fm, .int .u16 (bit : Int)] 49)))
  have Z0 := Lib.hid (Blk.new ((w.alloc (.cells #[.bool xd, .string xn, .int .i64 gx, .string xw, .string xc, .int .u64 (cx : Int)] 26)).alloc (.cells #[.bool yd, .string yn, .int .i64 gy, .string yw, .string yc, .int .u64 (cy : Int)] 26)) 49 #[.int .i64 fm, .int .u16 (bit : Int)])
  have S0 := Lib.hid ((((St.refl ht).alloc (.cells #[.bool xd, .string xn, .int .i64 gx, .string xw, .string xc, .int .u64 (cx : Int)] 26)).alloc (.cells #[.bool yd, .string yn, .int .i64 gy, .string yw, .string yc, .int .u64 (cy : Int)] 26)).alloc (.cells #[.int .i64 fm, .int .u16 (bit : Int)] 49))
  have CX : Hid (∀ W, Calls Tryd.prog 10 #[.agg #[.bool xd, .string xn, .int .i64 gx, .string xw, .string xc, .int .u64 (cx : Int)], .slice none 0 0] W fun e w' => e = .returned (.bool false) ∧ Below W.heap.size W w') := by
    refine Lib.hid fun W => ?_
    have := longN_any (⟨xd, xn, gx, xw, xc, cx⟩ : Stg) sx.n sx.w sx.c W
    rw [hlx] at this
    exact this
  have CY : Hid (∀ W, Calls Tryd.prog 10 #[.agg #[.bool yd, .string yn, .int .i64 gy, .string yw, .string yc, .int .u64 (cy : Int)], .slice none 0 0] W fun e w' => e = .returned (.bool false) ∧ Below W.heap.size W w') := by
    refine Lib.hid fun W => ?_
    have := longN_any (⟨yd, yn, gy, yw, yc, cy⟩ : Stg) sy.n sy.w sy.c W
    rw [hly] at this
    exact this
  have AW := Lib.hid (fun W (t : Tabs W) => awakeS_any W t)
  have hkz : (kk : Int) ≤ 3 := by omega
  have hkw : wrap64 (kk : Int) = kk := by unfold wrap64; omega
  have lx : xw.size + xc.size + xn.size ≤ 6000 := by
    have := of_decide_eq_false hlx
    dsimp only at this
    omega
  have ly : yw.size + yc.size + yn.size ≤ 6000 := by
    have := of_decide_eq_false hly
    dsimp only at this
    omega
  have RM : Hid (∀ KB FB W, Tabs W → W.cell? ⟨KB, 0, none⟩ = some (.int .i64 kk) → W.cell? ⟨FB, 1, none⟩ = some (.int .u16 bit) → Calls Tryd.prog 18 #[stgV (⟨xd, xn, gx, xw, xc, cx⟩ : Stg), stgV (⟨yd, yn, gy, yw, yc, cy⟩ : Stg), .int .i64 1, .func (.func 19) #[] #[.pointer (some ⟨KB, 0, none⟩), .pointer (some ⟨FB, 0, none⟩)]] W (RunOut W d l)) := by
    refine Lib.hid fun KB FB W t k1 k2 => ?_
    have := runF_made xd yd xn xw xc yn yw yc gx gy cx cy 1 W t kk bit KB FB (mFl_size kk bit) (fun i V b hb hz => change_any i kk bit KB FB hbit b hz V (cell_keep hb k1) (cell_keep hb k2)) ⟨by omega, by omega, by omega⟩ (by omega) hx hy hd hv
    rw [hr] at this
    exact this
  have SP : Hid (∀ W, Tabs W → Calls Tryd.prog 21 #[stgV (⟨xd, xn, gx, xw, xc, cx⟩ : Stg), stgV (⟨yd, yn, gy, yw, yc, cy⟩ : Stg), .int .i64 kk, .int .u16 bit] W fun e W' => e = .returned (.tuple #[.int .i64 d.state, .int .i64 l.state]) ∧ Below W.heap.size W W') := by
    refine Lib.hid fun W t => ?_
    have := spec_made kk hk4 xd yd xn xw xc yn yw yc gx gy cx cy bit hbit W t ⟨by omega, by omega, by omega⟩ (by omega) hx hy hd hv
    rw [hr] at this
    exact this
  unfold stgV at RM SP
  obtain ⟨sd, hsd⟩ : ∃ n : Nat, n = d.state := ⟨_, rfl⟩
  obtain ⟨sl, hsl⟩ : ∃ n : Nat, n = l.state := ⟨_, rfl⟩
  have STd : Hid (∀ W D, Blk W D 46 (sdC d) → Calls Tryd.prog 16 #[.pointer (some ⟨D, 0, none⟩)] W fun e w' => e = .returned (.int .i64 sd) ∧ W = w') := Lib.hid (fun W D h => by rw [hsd]; exact state_any d D W h)
  have STl : Hid (∀ W D, Blk W D 46 (sdC l) → Calls Tryd.prog 16 #[.pointer (some ⟨D, 0, none⟩)] W fun e w' => e = .returned (.int .i64 sl) ∧ W = w') := Lib.hid (fun W D h => by rw [hsl]; exact state_any l D W h)
  rw [← hsd, ← hsl] at SP
  rw [← hsd] at h1
  rw [← hsl] at h3
  have t1 : ((sd : Int) == 3) = false := beq_eq_false_iff_ne.2 (by omega)
  have u1 : ((sd : Int) != 3) = true := by rw [bne_iff_ne]; omega
  have t2 : ((kk : Int) == 3) = false := beq_eq_false_iff_ne.2 (by omega)
  have u2 : ((kk : Int) != 3) = true := by rw [bne_iff_ne]; omega
  have t3 : ((sl : Int) == 3) = false := beq_eq_false_iff_ne.2 (by omega)
  have u3 : ((sl : Int) != 3) = true := by rw [bne_iff_ne]; omega
  clear ht sx sy hlx hly hd hv lx ly hx hy hsd hsl hr hbit hk4 h1 h2 h3
  have hmf : ∀ (fn : Fn) (first cap : Array Value) (w : World), (Instr.makeFunc fn first cap).run Tryd.prog w = .ok (.func fn first cap) w := fun _ _ _ _ => rfl
  unfold stgV
  go_enter Tryd.func5, Tryd.ntmps5
  obtain ⟨c0, c1, c2, c3, c4, c5⟩ := X0.out
  obtain ⟨d0, d1, d2, d3, d4, d5⟩ := Y0.out
  dsimp only at c0 c1 c2 c3 c4 c5
  simp only [World.size_alloc] at d0 d1 d2 d3 d4 d5
  have f0 := Z0.out.cell 0
  have f1 := Z0.out.cell 1
  simp only [List.getElem?_toArray, List.getElem?_cons_zero, List.getElem?_cons_succ] at f0 f1
  simp only [World.size_alloc] at f0 f1
  go_wp2_with fail
  refine (CX.out _).mono ?_
  rintro e w1 ⟨rfl, b1⟩
  have S1 := Lib.hid (S0.out.keep b1)
  clear c0 c1 c2 c3 c4 c5 d0 d1 d2 d3 d4 d5 f0 f1
  have X1 := Lib.hid (X0.out.below b1)
  have Y1 := Lib.hid (Y0.out.below b1)
  have Z1 := Lib.hid (Z0.out.below b1 Z0.out.lt)
  obtain ⟨c0, c1, c2, c3, c4, c5⟩ := X1.out
  obtain ⟨d0, d1, d2, d3, d4, d5⟩ := Y1.out
  dsimp only at c0 c1 c2 c3 c4 c5
  simp only [World.size_alloc] at d0 d1 d2 d3 d4 d5
  have f0 := Z1.out.cell 0
  have f1 := Z1.out.cell 1
  simp only [List.getElem?_toArray, List.getElem?_cons_zero, List.getElem?_cons_succ] at f0 f1
  simp only [World.size_alloc] at f0 f1
  clear b1 S0 X0 Y0 Z0
  go_wp2_with fail
  refine (CY.out _).mono ?_
  rintro e w2 ⟨rfl, b2⟩
  have S2 := Lib.hid (S1.out.keep b2)
  clear c0 c1 c2 c3 c4 c5 d0 d1 d2 d3 d4 d5 f0 f1
  have X2 := Lib.hid (X1.out.below b2)
  have Y2 := Lib.hid (Y1.out.below b2)
  have Z2 := Lib.hid (Z1.out.below b2 Z1.out.lt)
  obtain ⟨c0, c1, c2, c3, c4, c5⟩ := X2.out
  obtain ⟨d0, d1, d2, d3, d4, d5⟩ := Y2.out
  dsimp only at c0 c1 c2 c3 c4 c5
  simp only [World.size_alloc] at d0 d1 d2 d3 d4 d5
  have f0 := Z2.out.cell 0
  have f1 := Z2.out.cell 1
  simp only [List.getElem?_toArray, List.getElem?_cons_zero, List.getElem?_cons_succ] at f0 f1
  simp only [World.size_alloc] at f0 f1
  clear b2 S1 X1 Y1 Z1
  have hz2 : w.heap.size + 1 + 1 < w2.heap.size := by have := Z2.out.lt; simpa only [World.size_alloc] using this
  have BA : Below w2.heap.size w2 (w2.alloc (.cells #[.int .i64 (kk : Int)] 3)) := (Below.refl _ _).alloc (Nat.le_refl _) _
  have X3 := Lib.hid (X2.out.below BA)
  have Y3 := Lib.hid (Y2.out.below BA)
  have Z3 := Lib.hid (Z2.out.below BA Z2.out.lt)
  have S3 := Lib.hid (S2.out.keep BA)
  have K3 := Lib.hid (Blk.new w2 3 #[.int .i64 (kk : Int)])
  clear BA
  go_upto_region 6 with (fail)
  generalize w2.alloc (.cells #[.int .i64 (kk : Int)] 3) = w3 at X3 Y3 Z3 S3 K3 ⊢
  generalize w2.heap.size = kb at K3 ⊢
  clear c0 c1 c2 c3 c4 c5 d0 d1 d2 d3 d4 d5 f0 f1
  clear X2 Y2 Z2 S2 hz2
  obtain ⟨c0, c1, c2, c3, c4, c5⟩ := X3.out
  obtain ⟨d0, d1, d2, d3, d4, d5⟩ := Y3.out
  dsimp only at c0 c1 c2 c3 c4 c5
  simp only [World.size_alloc] at d0 d1 d2 d3 d4 d5
  have f0 := Z3.out.cell 0
  have f1 := Z3.out.cell 1
  simp only [List.getElem?_toArray, List.getElem?_cons_zero, List.getElem?_cons_succ] at f0 f1
  simp only [World.size_alloc] at f0 f1
  have g0 := K3.out.cell 0
  simp only [List.getElem?_toArray, List.getElem?_cons_zero] at g0
  go_wp2_with fail
  refine (RM.out kb _ _ S3.out.tabs g0 f1).mono ?_
  rintro e w4 ⟨D, K, rfl, ss⟩
  have SS4 := Lib.hid ss
  have bb4 := ss.st.bel
  have S4 := Lib.hid (S3.out.keep bb4)
  clear c0 c1 c2 c3 c4 c5 d0 d1 d2 d3 d4 d5 f0 f1
  have X4 := Lib.hid (X3.out.below bb4)
  have Y4 := Lib.hid (Y3.out.below bb4)
  have Z4 := Lib.hid (Z3.out.below bb4 Z3.out.lt)
  have K4 := Lib.hid (K3.out.below bb4 K3.out.lt)
  clear ss bb4 X3 Y3 Z3 K3 S3 g0
  obtain ⟨c0, c1, c2, c3, c4, c5⟩ := X4.out
  obtain ⟨d0, d1, d2, d3, d4, d5⟩ := Y4.out
  dsimp only at c0 c1 c2 c3 c4 c5
  simp only [World.size_alloc] at d0 d1 d2 d3 d4 d5
  have f0 := Z4.out.cell 0
  have f1 := Z4.out.cell 1
  simp only [List.getElem?_toArray, List.getElem?_cons_zero, List.getElem?_cons_succ] at f0 f1
  simp only [World.size_alloc] at f0 f1
  have g0 := K4.out.cell 0
  simp only [List.getElem?_toArray, List.getElem?_cons_zero] at g0
  go_wp2_with fail
  refine (SP.out _ S4.out.tabs).mono ?_
  rintro e w5 ⟨rfl, b5⟩
  have SS5 := Lib.hid (SS4.out.below b5)
  have S5 := Lib.hid (S4.out.keep b5)
  have K5 := Lib.hid (K4.out.below b5 K4.out.lt)
  clear c0 c1 c2 c3 c4 c5 d0 d1 d2 d3 d4 d5 f0 f1
  clear b5 X4 Y4 Z4 K4 S4 SS4 g0
  have g0 := K5.out.cell 0
  simp only [List.getElem?_toArray, List.getElem?_cons_zero] at g0
  go_wp2_with fail
  refine (STd.out _ D (SS5.out.get 0 rfl)).mono ?_
  rintro e w' ⟨rfl, rfl⟩
  go_wp2_with fail
  refine (STl.out _ K (SS5.out.get 1 rfl)).mono ?_
  rintro e w' ⟨rfl, rfl⟩
  go_wp2_with fail
  refine (AW.out _ S5.out.tabs).mono ?_
  rintro e w6 ⟨rfl, b6⟩
  have S6 := Lib.hid (S5.out.keep b6)
  clear b6
  go_wp2
  go_ret
  exact ⟨rfl, S6.out.bel⟩
set_option maxRecDepth 100000 in
set_option maxHeartbeats 4000000 in
theorem flips_nodial_p (xd yd : Bool) (xn xw xc yn yw yc : ByteArray) (gx gy : Int) (cx cy : Nat) (fm : Int) (kk bit : Nat) (hbit : bit ≤ 65535) (hk4 : kk < 4) (w : World) (ht : Tabs w) (sx : StgSz (⟨xd, xn, gx, xw, xc, cx⟩ : Stg)) (sy : StgSz (⟨yd, yn, gy, yw, yc, cy⟩ : Stg)) (hlx : longB (⟨xd, xn, gx, xw, xc, cx⟩ : Stg) = false) (hly : longB (⟨yd, yn, gy, yw, yc, cy⟩ : Stg) = false) (htm : Int.tmod fm 4 = (kk : Int)) (hneg : decide ((kk : Int) < 0) = false) (hd : dialB xn gx xw = false) :
    Calls Tryd.prog 5 #[stgV (⟨xd, xn, gx, xw, xc, cx⟩ : Stg), stgV (⟨yd, yn, gy, yw, yc, cy⟩ : Stg), .agg #[.int .i64 fm, .int .u16 (bit : Int)]] w fun e w' => e = .returned (.bool true) ∧ Below w.heap.size w w' := by
  have X0 := Lib.hid (Bx.of (x := (⟨xd, xn, gx, xw, xc, cx⟩ : Stg)) (((Blk.new w 26 #[.bool xd, .string xn, .int .i64 gx, .string xw, .string xc, .int .u64 (cx : Int)]).alloc (.cells #[.bool yd, .string yn, .int .i64 gy, .string yw, .string yc, .int .u64 (cy : Int)] 26)).alloc (.cells #[.int .i64 fm, .int .u16 (bit : Int)] 49)))
  have Y0 := Lib.hid (Bx.of (x := (⟨yd, yn, gy, yw, yc, cy⟩ : Stg)) ((Blk.new (w.alloc (.cells #[.bool xd, .string xn, .int .i64 gx, .string xw, .string xc, .int .u64 (cx : Int)] 26)) 26 #[.bool yd, .string yn, .int .i64 gy, .string yw, .string yc, .int .u64 (cy : Int)]).alloc (.cells #[.int .i64 fm, .int .u16 (bit : Int)] 49)))
  have Z0 := Lib.hid (Blk.new ((w.alloc (.cells #[.bool xd, .string xn, .int .i64 gx, .string xw, .string xc, .int .u64 (cx : Int)] 26)).alloc (.cells #[.bool yd, .string yn, .int .i64 gy, .string yw, .string yc, .int .u64 (cy : Int)] 26)) 49 #[.int .i64 fm, .int .u16 (bit : Int)])
  have S0 := Lib.hid ((((St.refl ht).alloc (.cells #[.bool xd, .string xn, .int .i64 gx, .string xw, .string xc, .int .u64 (cx : Int)] 26)).alloc (.cells #[.bool yd, .string yn, .int .i64 gy, .string yw, .string yc, .int .u64 (cy : Int)] 26)).alloc (.cells #[.int .i64 fm, .int .u16 (bit : Int)] 49))
  have CX : Hid (∀ W, Calls Tryd.prog 10 #[.agg #[.bool xd, .string xn, .int .i64 gx, .string xw, .string xc, .int .u64 (cx : Int)], .slice none 0 0] W fun e w' => e = .returned (.bool false) ∧ Below W.heap.size W w') := by
    refine Lib.hid fun W => ?_
    have := longN_any (⟨xd, xn, gx, xw, xc, cx⟩ : Stg) sx.n sx.w sx.c W
    rw [hlx] at this
    exact this
  have CY : Hid (∀ W, Calls Tryd.prog 10 #[.agg #[.bool yd, .string yn, .int .i64 gy, .string yw, .string yc, .int .u64 (cy : Int)], .slice none 0 0] W fun e w' => e = .returned (.bool false) ∧ Below W.heap.size W w') := by
    refine Lib.hid fun W => ?_
    have := longN_any (⟨yd, yn, gy, yw, yc, cy⟩ : Stg) sy.n sy.w sy.c W
    rw [hly] at this
    exact this
  have AW := Lib.hid (fun W (t : Tabs W) => awakeS_any W t)
  have hkz : (kk : Int) ≤ 3 := by omega
  have hkw : wrap64 (kk : Int) = kk := by unfold wrap64; omega
  have RN := Lib.hid (fun KB W (t : Tabs W) => runF_nodial KB (w.heap.size + 1 + 1) xd yd xn xw xc yn yw yc gx gy cx cy 1 W t hd)
  unfold stgV at RN
  have bit0 := hbit
  clear bit0
  clear ht sx sy hlx hly hd hbit hk4
  have hmf : ∀ (fn : Fn) (first cap : Array Value) (w : World), (Instr.makeFunc fn first cap).run Tryd.prog w = .ok (.func fn first cap) w := fun _ _ _ _ => rfl
  unfold stgV
  go_enter Tryd.func5, Tryd.ntmps5
  obtain ⟨c0, c1, c2, c3, c4, c5⟩ := X0.out
  obtain ⟨d0, d1, d2, d3, d4, d5⟩ := Y0.out
  dsimp only at c0 c1 c2 c3 c4 c5
  simp only [World.size_alloc] at d0 d1 d2 d3 d4 d5
  have f0 := Z0.out.cell 0
  have f1 := Z0.out.cell 1
  simp only [List.getElem?_toArray, List.getElem?_cons_zero, List.getElem?_cons_succ] at f0 f1
  simp only [World.size_alloc] at f0 f1
  go_wp2_with fail
  refine (CX.out _).mono ?_
  rintro e w1 ⟨rfl, b1⟩
  have S1 := Lib.hid (S0.out.keep b1)
  clear c0 c1 c2 c3 c4 c5 d0 d1 d2 d3 d4 d5 f0 f1
  have X1 := Lib.hid (X0.out.below b1)
  have Y1 := Lib.hid (Y0.out.below b1)
  have Z1 := Lib.hid (Z0.out.below b1 Z0.out.lt)
  obtain ⟨c0, c1, c2, c3, c4, c5⟩ := X1.out
  obtain ⟨d0, d1, d2, d3, d4, d5⟩ := Y1.out
  dsimp only at c0 c1 c2 c3 c4 c5
  simp only [World.size_alloc] at d0 d1 d2 d3 d4 d5
  have f0 := Z1.out.cell 0
  have f1 := Z1.out.cell 1
  simp only [List.getElem?_toArray, List.getElem?_cons_zero, List.getElem?_cons_succ] at f0 f1
  simp only [World.size_alloc] at f0 f1
  clear b1 S0 X0 Y0 Z0
  go_wp2_with fail
  refine (CY.out _).mono ?_
  rintro e w2 ⟨rfl, b2⟩
  have S2 := Lib.hid (S1.out.keep b2)
  clear c0 c1 c2 c3 c4 c5 d0 d1 d2 d3 d4 d5 f0 f1
  have X2 := Lib.hid (X1.out.below b2)
  have Y2 := Lib.hid (Y1.out.below b2)
  have Z2 := Lib.hid (Z1.out.below b2 Z1.out.lt)
  obtain ⟨c0, c1, c2, c3, c4, c5⟩ := X2.out
  obtain ⟨d0, d1, d2, d3, d4, d5⟩ := Y2.out
  dsimp only at c0 c1 c2 c3 c4 c5
  simp only [World.size_alloc] at d0 d1 d2 d3 d4 d5
  have f0 := Z2.out.cell 0
  have f1 := Z2.out.cell 1
  simp only [List.getElem?_toArray, List.getElem?_cons_zero, List.getElem?_cons_succ] at f0 f1
  simp only [World.size_alloc] at f0 f1
  clear b2 S1 X1 Y1 Z1
  have hz2 : w.heap.size + 1 + 1 < w2.heap.size := by have := Z2.out.lt; simpa only [World.size_alloc] using this
  have BA : Below w2.heap.size w2 (w2.alloc (.cells #[.int .i64 (kk : Int)] 3)) := (Below.refl _ _).alloc (Nat.le_refl _) _
  have X3 := Lib.hid (X2.out.below BA)
  have Y3 := Lib.hid (Y2.out.below BA)
  have Z3 := Lib.hid (Z2.out.below BA Z2.out.lt)
  have S3 := Lib.hid (S2.out.keep BA)
  have K3 := Lib.hid (Blk.new w2 3 #[.int .i64 (kk : Int)])
  clear BA
  go_upto_region 6 with (fail)
  generalize w2.alloc (.cells #[.int .i64 (kk : Int)] 3) = w3 at X3 Y3 Z3 S3 K3 ⊢
  generalize w2.heap.size = kb at K3 ⊢
  clear c0 c1 c2 c3 c4 c5 d0 d1 d2 d3 d4 d5 f0 f1
  clear X2 Y2 Z2 S2 hz2
  obtain ⟨c0, c1, c2, c3, c4, c5⟩ := X3.out
  obtain ⟨d0, d1, d2, d3, d4, d5⟩ := Y3.out
  dsimp only at c0 c1 c2 c3 c4 c5
  simp only [World.size_alloc] at d0 d1 d2 d3 d4 d5
  have f0 := Z3.out.cell 0
  have f1 := Z3.out.cell 1
  simp only [List.getElem?_toArray, List.getElem?_cons_zero, List.getElem?_cons_succ] at f0 f1
  simp only [World.size_alloc] at f0 f1
  have g0 := K3.out.cell 0
  simp only [List.getElem?_toArray, List.getElem?_cons_zero] at g0
  go_wp2_with fail
  refine (RN.out kb _ S3.out.tabs).mono ?_
  rintro e w4 ⟨rfl, b4⟩
  have S4 := Lib.hid (S3.out.keep b4)
  clear c0 c1 c2 c3 c4 c5 d0 d1 d2 d3 d4 d5 f0 f1
  clear b4 X3 Y3 Z3 K3 g0
  go_wp2_with fail
  refine (AW.out _ S4.out.tabs).mono ?_
  rintro e w5 ⟨rfl, b5⟩
  have S5 := Lib.hid (S4.out.keep b5)
  clear b5
  go_wp2
  go_ret
  exact ⟨rfl, S5.out.bel⟩
set_option maxRecDepth 100000 in
set_option maxHeartbeats 4000000 in
theorem flips_nolisten_p (xd yd : Bool) (xn xw xc yn yw yc : ByteArray) (gx : Nat) (gy : Int) (cx cy : Nat) (fm : Int) (kk bit : Nat) (hbit : bit ≤ 65535) (hk4 : kk < 4) (w : World) (ht : Tabs w) (sx : StgSz (⟨xd, xn, gx, xw, xc, cx⟩ : Stg)) (sy : StgSz (⟨yd, yn, gy, yw, yc, cy⟩ : Stg)) (hlx : longB (⟨xd, xn, gx, xw, xc, cx⟩ : Stg) = false) (hly : longB (⟨yd, yn, gy, yw, yc, cy⟩ : Stg) = false) (htm : Int.tmod fm 4 = (kk : Int)) (hneg : decide ((kk : Int) < 0) = false) (hd : dialB xn gx xw = true) (hv : (nameF yn && genI gy) = false) :
    Calls Tryd.prog 5 #[stgV (⟨xd, xn, gx, xw, xc, cx⟩ : Stg), stgV (⟨yd, yn, gy, yw, yc, cy⟩ : Stg), .agg #[.int .i64 fm, .int .u16 (bit : Int)]] w fun e w' => e = .returned (.bool true) ∧ Below w.heap.size w w' := by
  have X0 := Lib.hid (Bx.of (x := (⟨xd, xn, gx, xw, xc, cx⟩ : Stg)) (((Blk.new w 26 #[.bool xd, .string xn, .int .i64 gx, .string xw, .string xc, .int .u64 (cx : Int)]).alloc (.cells #[.bool yd, .string yn, .int .i64 gy, .string yw, .string yc, .int .u64 (cy : Int)] 26)).alloc (.cells #[.int .i64 fm, .int .u16 (bit : Int)] 49)))
  have Y0 := Lib.hid (Bx.of (x := (⟨yd, yn, gy, yw, yc, cy⟩ : Stg)) ((Blk.new (w.alloc (.cells #[.bool xd, .string xn, .int .i64 gx, .string xw, .string xc, .int .u64 (cx : Int)] 26)) 26 #[.bool yd, .string yn, .int .i64 gy, .string yw, .string yc, .int .u64 (cy : Int)]).alloc (.cells #[.int .i64 fm, .int .u16 (bit : Int)] 49)))
  have Z0 := Lib.hid (Blk.new ((w.alloc (.cells #[.bool xd, .string xn, .int .i64 gx, .string xw, .string xc, .int .u64 (cx : Int)] 26)).alloc (.cells #[.bool yd, .string yn, .int .i64 gy, .string yw, .string yc, .int .u64 (cy : Int)] 26)) 49 #[.int .i64 fm, .int .u16 (bit : Int)])
  have S0 := Lib.hid ((((St.refl ht).alloc (.cells #[.bool xd, .string xn, .int .i64 gx, .string xw, .string xc, .int .u64 (cx : Int)] 26)).alloc (.cells #[.bool yd, .string yn, .int .i64 gy, .string yw, .string yc, .int .u64 (cy : Int)] 26)).alloc (.cells #[.int .i64 fm, .int .u16 (bit : Int)] 49))
  have CX : Hid (∀ W, Calls Tryd.prog 10 #[.agg #[.bool xd, .string xn, .int .i64 gx, .string xw, .string xc, .int .u64 (cx : Int)], .slice none 0 0] W fun e w' => e = .returned (.bool false) ∧ Below W.heap.size W w') := by
    refine Lib.hid fun W => ?_
    have := longN_any (⟨xd, xn, gx, xw, xc, cx⟩ : Stg) sx.n sx.w sx.c W
    rw [hlx] at this
    exact this
  have CY : Hid (∀ W, Calls Tryd.prog 10 #[.agg #[.bool yd, .string yn, .int .i64 gy, .string yw, .string yc, .int .u64 (cy : Int)], .slice none 0 0] W fun e w' => e = .returned (.bool false) ∧ Below W.heap.size W w') := by
    refine Lib.hid fun W => ?_
    have := longN_any (⟨yd, yn, gy, yw, yc, cy⟩ : Stg) sy.n sy.w sy.c W
    rw [hly] at this
    exact this
  have AW := Lib.hid (fun W (t : Tabs W) => awakeS_any W t)
  have hkz : (kk : Int) ≤ 3 := by omega
  have hkw : wrap64 (kk : Int) = kk := by unfold wrap64; omega
  have RN := Lib.hid (fun KB W (t : Tabs W) => runF_nolisten KB (w.heap.size + 1 + 1) xd yd xn xw xc yn yw yc gx gy cx cy 1 W t hd hv)
  unfold stgV at RN
  have bit0 := hbit
  clear bit0
  clear ht sx sy hlx hly hd hbit hk4
  have hmf : ∀ (fn : Fn) (first cap : Array Value) (w : World), (Instr.makeFunc fn first cap).run Tryd.prog w = .ok (.func fn first cap) w := fun _ _ _ _ => rfl
  unfold stgV
  go_enter Tryd.func5, Tryd.ntmps5
  obtain ⟨c0, c1, c2, c3, c4, c5⟩ := X0.out
  obtain ⟨d0, d1, d2, d3, d4, d5⟩ := Y0.out
  dsimp only at c0 c1 c2 c3 c4 c5
  simp only [World.size_alloc] at d0 d1 d2 d3 d4 d5
  have f0 := Z0.out.cell 0
  have f1 := Z0.out.cell 1
  simp only [List.getElem?_toArray, List.getElem?_cons_zero, List.getElem?_cons_succ] at f0 f1
  simp only [World.size_alloc] at f0 f1
  go_wp2_with fail
  refine (CX.out _).mono ?_
  rintro e w1 ⟨rfl, b1⟩
  have S1 := Lib.hid (S0.out.keep b1)
  clear c0 c1 c2 c3 c4 c5 d0 d1 d2 d3 d4 d5 f0 f1
  have X1 := Lib.hid (X0.out.below b1)
  have Y1 := Lib.hid (Y0.out.below b1)
  have Z1 := Lib.hid (Z0.out.below b1 Z0.out.lt)
  obtain ⟨c0, c1, c2, c3, c4, c5⟩ := X1.out
  obtain ⟨d0, d1, d2, d3, d4, d5⟩ := Y1.out
  dsimp only at c0 c1 c2 c3 c4 c5
  simp only [World.size_alloc] at d0 d1 d2 d3 d4 d5
  have f0 := Z1.out.cell 0
  have f1 := Z1.out.cell 1
  simp only [List.getElem?_toArray, List.getElem?_cons_zero, List.getElem?_cons_succ] at f0 f1
  simp only [World.size_alloc] at f0 f1
  clear b1 S0 X0 Y0 Z0
  go_wp2_with fail
  refine (CY.out _).mono ?_
  rintro e w2 ⟨rfl, b2⟩
  have S2 := Lib.hid (S1.out.keep b2)
  clear c0 c1 c2 c3 c4 c5 d0 d1 d2 d3 d4 d5 f0 f1
  have X2 := Lib.hid (X1.out.below b2)
  have Y2 := Lib.hid (Y1.out.below b2)
  have Z2 := Lib.hid (Z1.out.below b2 Z1.out.lt)
  obtain ⟨c0, c1, c2, c3, c4, c5⟩ := X2.out
  obtain ⟨d0, d1, d2, d3, d4, d5⟩ := Y2.out
  dsimp only at c0 c1 c2 c3 c4 c5
  simp only [World.size_alloc] at d0 d1 d2 d3 d4 d5
  have f0 := Z2.out.cell 0
  have f1 := Z2.out.cell 1
  simp only [List.getElem?_toArray, List.getElem?_cons_zero, List.getElem?_cons_succ] at f0 f1
  simp only [World.size_alloc] at f0 f1
  clear b2 S1 X1 Y1 Z1
  have hz2 : w.heap.size + 1 + 1 < w2.heap.size := by have := Z2.out.lt; simpa only [World.size_alloc] using this
  have BA : Below w2.heap.size w2 (w2.alloc (.cells #[.int .i64 (kk : Int)] 3)) := (Below.refl _ _).alloc (Nat.le_refl _) _
  have X3 := Lib.hid (X2.out.below BA)
  have Y3 := Lib.hid (Y2.out.below BA)
  have Z3 := Lib.hid (Z2.out.below BA Z2.out.lt)
  have S3 := Lib.hid (S2.out.keep BA)
  have K3 := Lib.hid (Blk.new w2 3 #[.int .i64 (kk : Int)])
  clear BA
  go_upto_region 6 with (fail)
  generalize w2.alloc (.cells #[.int .i64 (kk : Int)] 3) = w3 at X3 Y3 Z3 S3 K3 ⊢
  generalize w2.heap.size = kb at K3 ⊢
  clear c0 c1 c2 c3 c4 c5 d0 d1 d2 d3 d4 d5 f0 f1
  clear X2 Y2 Z2 S2 hz2
  obtain ⟨c0, c1, c2, c3, c4, c5⟩ := X3.out
  obtain ⟨d0, d1, d2, d3, d4, d5⟩ := Y3.out
  dsimp only at c0 c1 c2 c3 c4 c5
  simp only [World.size_alloc] at d0 d1 d2 d3 d4 d5
  have f0 := Z3.out.cell 0
  have f1 := Z3.out.cell 1
  simp only [List.getElem?_toArray, List.getElem?_cons_zero, List.getElem?_cons_succ] at f0 f1
  simp only [World.size_alloc] at f0 f1
  have g0 := K3.out.cell 0
  simp only [List.getElem?_toArray, List.getElem?_cons_zero] at g0
  go_wp2_with fail
  refine (RN.out kb _ S3.out.tabs).mono ?_
  rintro e w4 ⟨rfl, b4⟩
  have S4 := Lib.hid (S3.out.keep b4)
  clear c0 c1 c2 c3 c4 c5 d0 d1 d2 d3 d4 d5 f0 f1
  clear b4 X3 Y3 Z3 K3 g0
  go_wp2_with fail
  refine (AW.out _ S4.out.tabs).mono ?_
  rintro e w5 ⟨rfl, b5⟩
  have S5 := Lib.hid (S4.out.keep b5)
  clear b5
  go_wp2
  go_ret
  exact ⟨rfl, S5.out.bel⟩
set_option maxRecDepth 100000 in
set_option maxHeartbeats 4000000 in
theorem flips_d3_p (xd yd : Bool) (xn xw xc yn yw yc : ByteArray) (gx gy cx cy : Nat) (fm : Int) (kk bit : Nat) (hbit : bit ≤ 65535) (hk4 : kk < 4) (w : World) (ht : Tabs w) (sx : StgSz (⟨xd, xn, gx, xw, xc, cx⟩ : Stg)) (sy : StgSz (⟨yd, yn, gy, yw, yc, cy⟩ : Stg)) (hlx : longB (⟨xd, xn, gx, xw, xc, cx⟩ : Stg) = false) (hly : longB (⟨yd, yn, gy, yw, yc, cy⟩ : Stg) = false) (htm : Int.tmod fm 4 = (kk : Int)) (hneg : decide ((kk : Int) < 0) = false)
    (hx : cx ≤ 18446744073709551615) (hy : cy ≤ 18446744073709551615) (hd : dialB xn gx xw = true) (hv : (nameF yn && genI gy) = true) (d l : Sd) (said : List ByteArray) (hr : runF (dialS ⟨xn, gx⟩ xw xc cx) (listenS ⟨yn, gy⟩ yc cy) (helloF ⟨xn, gx⟩ xw) 1 (mFl kk bit) = (d, l, said)) (h1 : d.state = 3) (h2 : kk = 3) :
    Calls Tryd.prog 5 #[stgV (⟨xd, xn, gx, xw, xc, cx⟩ : Stg), stgV (⟨yd, yn, gy, yw, yc, cy⟩ : Stg), .agg #[.int .i64 fm, .int .u16 (bit : Int)]] w fun e w' => e = .returned (.bool true) ∧ Below w.heap.size w w' := by
  have X0 := Lib.hid (Bx.of (x := (⟨xd, xn, gx, xw, xc, cx⟩ : Stg)) (((Blk.new w 26 #[.bool xd, .string xn, .int .i64 gx, .string xw, .string xc, .int .u64 (cx : Int)]).alloc (.cells #[.bool yd, .string yn, .int .i64 gy, .string yw, .string yc, .int .u64 (cy : Int)] 26)).alloc (.cells #[.int .i64 fm, .int .u16 (bit : Int)] 49)))
  have Y0 := Lib.hid (Bx.of (x := (⟨yd, yn, gy, yw, yc, cy⟩ : Stg)) ((Blk.new (w.alloc (.cells #[.bool xd, .string xn, .int .i64 gx, .string xw, .string xc, .int .u64 (cx : Int)] 26)) 26 #[.bool yd, .string yn, .int .i64 gy, .string yw, .string yc, .int .u64 (cy : Int)]).alloc (.cells #[.int .i64 fm, .int .u16 (bit : Int)] 49)))
  have Z0 := Lib.hid (Blk.new ((w.alloc (.cells #[.bool xd, .string xn, .int .i64 gx, .string xw, .string xc, .int .u64 (cx : Int)] 26)).alloc (.cells #[.bool yd, .string yn, .int .i64 gy, .string yw, .string yc, .int .u64 (cy : Int)] 26)) 49 #[.int .i64 fm, .int .u16 (bit : Int)])
  have S0 := Lib.hid ((((St.refl ht).alloc (.cells #[.bool xd, .string xn, .int .i64 gx, .string xw, .string xc, .int .u64 (cx : Int)] 26)).alloc (.cells #[.bool yd, .string yn, .int .i64 gy, .string yw, .string yc, .int .u64 (cy : Int)] 26)).alloc (.cells #[.int .i64 fm, .int .u16 (bit : Int)] 49))
  have CX : Hid (∀ W, Calls Tryd.prog 10 #[.agg #[.bool xd, .string xn, .int .i64 gx, .string xw, .string xc, .int .u64 (cx : Int)], .slice none 0 0] W fun e w' => e = .returned (.bool false) ∧ Below W.heap.size W w') := by
    refine Lib.hid fun W => ?_
    have := longN_any (⟨xd, xn, gx, xw, xc, cx⟩ : Stg) sx.n sx.w sx.c W
    rw [hlx] at this
    exact this
  have CY : Hid (∀ W, Calls Tryd.prog 10 #[.agg #[.bool yd, .string yn, .int .i64 gy, .string yw, .string yc, .int .u64 (cy : Int)], .slice none 0 0] W fun e w' => e = .returned (.bool false) ∧ Below W.heap.size W w') := by
    refine Lib.hid fun W => ?_
    have := longN_any (⟨yd, yn, gy, yw, yc, cy⟩ : Stg) sy.n sy.w sy.c W
    rw [hly] at this
    exact this
  have AW := Lib.hid (fun W (t : Tabs W) => awakeS_any W t)
  have hkz : (kk : Int) ≤ 3 := by omega
  have hkw : wrap64 (kk : Int) = kk := by unfold wrap64; omega
  have lx : xw.size + xc.size + xn.size ≤ 6000 := by
    have := of_decide_eq_false hlx
    dsimp only at this
    omega
  have ly : yw.size + yc.size + yn.size ≤ 6000 := by
    have := of_decide_eq_false hly
    dsimp only at this
    omega
  have RM : Hid (∀ KB FB W, Tabs W → W.cell? ⟨KB, 0, none⟩ = some (.int .i64 kk) → W.cell? ⟨FB, 1, none⟩ = some (.int .u16 bit) → Calls Tryd.prog 18 #[stgV (⟨xd, xn, gx, xw, xc, cx⟩ : Stg), stgV (⟨yd, yn, gy, yw, yc, cy⟩ : Stg), .int .i64 1, .func (.func 19) #[] #[.pointer (some ⟨KB, 0, none⟩), .pointer (some ⟨FB, 0, none⟩)]] W (RunOut W d l)) := by
    refine Lib.hid fun KB FB W t k1 k2 => ?_
    have := runF_made xd yd xn xw xc yn yw yc gx gy cx cy 1 W t kk bit KB FB (mFl_size kk bit) (fun i V b hb hz => change_any i kk bit KB FB hbit b hz V (cell_keep hb k1) (cell_keep hb k2)) ⟨by omega, by omega, by omega⟩ (by omega) hx hy hd hv
    rw [hr] at this
    exact this
  have SP : Hid (∀ W, Tabs W → Calls Tryd.prog 21 #[stgV (⟨xd, xn, gx, xw, xc, cx⟩ : Stg), stgV (⟨yd, yn, gy, yw, yc, cy⟩ : Stg), .int .i64 kk, .int .u16 bit] W fun e W' => e = .returned (.tuple #[.int .i64 d.state, .int .i64 l.state]) ∧ Below W.heap.size W W') := by
    refine Lib.hid fun W t => ?_
    have := spec_made kk hk4 xd yd xn xw xc yn yw yc gx gy cx cy bit hbit W t ⟨by omega, by omega, by omega⟩ (by omega) hx hy hd hv
    rw [hr] at this
    exact this
  unfold stgV at RM SP
  obtain ⟨sd, hsd⟩ : ∃ n : Nat, n = d.state := ⟨_, rfl⟩
  obtain ⟨sl, hsl⟩ : ∃ n : Nat, n = l.state := ⟨_, rfl⟩
  have STd : Hid (∀ W D, Blk W D 46 (sdC d) → Calls Tryd.prog 16 #[.pointer (some ⟨D, 0, none⟩)] W fun e w' => e = .returned (.int .i64 sd) ∧ W = w') := Lib.hid (fun W D h => by rw [hsd]; exact state_any d D W h)
  have STl : Hid (∀ W D, Blk W D 46 (sdC l) → Calls Tryd.prog 16 #[.pointer (some ⟨D, 0, none⟩)] W fun e w' => e = .returned (.int .i64 sl) ∧ W = w') := Lib.hid (fun W D h => by rw [hsl]; exact state_any l D W h)
  rw [← hsd, ← hsl] at SP
  rw [← hsd] at h1
  have t1 : ((sd : Int) == 3) = true := by rw [beq_iff_eq]; omega
  have u1 : ((sd : Int) != 3) = false := by rw [bne_eq_false_iff_eq]; omega
  have t2 : ((kk : Int) == 3) = true := by rw [beq_iff_eq]; omega
  have u2 : ((kk : Int) != 3) = false := by rw [bne_eq_false_iff_eq]; omega
  clear ht sx sy hlx hly hd hv lx ly hx hy hsd hsl hr hbit hk4 h1 h2 
  have stl0 := STl
  clear stl0 STl
  have hmf : ∀ (fn : Fn) (first cap : Array Value) (w : World), (Instr.makeFunc fn first cap).run Tryd.prog w = .ok (.func fn first cap) w := fun _ _ _ _ => rfl
  unfold stgV
  go_enter Tryd.func5, Tryd.ntmps5
  obtain ⟨c0, c1, c2, c3, c4, c5⟩ := X0.out
  obtain ⟨d0, d1, d2, d3, d4, d5⟩ := Y0.out
  dsimp only at c0 c1 c2 c3 c4 c5
  simp only [World.size_alloc] at d0 d1 d2 d3 d4 d5
  have f0 := Z0.out.cell 0
  have f1 := Z0.out.cell 1
  simp only [List.getElem?_toArray, List.getElem?_cons_zero, List.getElem?_cons_succ] at f0 f1
  simp only [World.size_alloc] at f0 f1
  go_wp2_with fail
  refine (CX.out _).mono ?_
  rintro e w1 ⟨rfl, b1⟩
  have S1 := Lib.hid (S0.out.keep b1)
  clear c0 c1 c2 c3 c4 c5 d0 d1 d2 d3 d4 d5 f0 f1
  have X1 := Lib.hid (X0.out.below b1)
  have Y1 := Lib.hid (Y0.out.below b1)
  have Z1 := Lib.hid (Z0.out.below b1 Z0.out.lt)
  obtain ⟨c0, c1, c2, c3, c4, c5⟩ := X1.out
  obtain ⟨d0, d1, d2, d3, d4, d5⟩ := Y1.out
  dsimp only at c0 c1 c2 c3 c4 c5
  simp only [World.size_alloc] at d0 d1 d2 d3 d4 d5
  have f0 := Z1.out.cell 0
  have f1 := Z1.out.cell 1
  simp only [List.getElem?_toArray, List.getElem?_cons_zero, List.getElem?_cons_succ] at f0 f1
  simp only [World.size_alloc] at f0 f1
  clear b1 S0 X0 Y0 Z0
  go_wp2_with fail
  refine (CY.out _).mono ?_
  rintro e w2 ⟨rfl, b2⟩
  have S2 := Lib.hid (S1.out.keep b2)
  clear c0 c1 c2 c3 c4 c5 d0 d1 d2 d3 d4 d5 f0 f1
  have X2 := Lib.hid (X1.out.below b2)
  have Y2 := Lib.hid (Y1.out.below b2)
  have Z2 := Lib.hid (Z1.out.below b2 Z1.out.lt)
  obtain ⟨c0, c1, c2, c3, c4, c5⟩ := X2.out
  obtain ⟨d0, d1, d2, d3, d4, d5⟩ := Y2.out
  dsimp only at c0 c1 c2 c3 c4 c5
  simp only [World.size_alloc] at d0 d1 d2 d3 d4 d5
  have f0 := Z2.out.cell 0
  have f1 := Z2.out.cell 1
  simp only [List.getElem?_toArray, List.getElem?_cons_zero, List.getElem?_cons_succ] at f0 f1
  simp only [World.size_alloc] at f0 f1
  clear b2 S1 X1 Y1 Z1
  have hz2 : w.heap.size + 1 + 1 < w2.heap.size := by have := Z2.out.lt; simpa only [World.size_alloc] using this
  have BA : Below w2.heap.size w2 (w2.alloc (.cells #[.int .i64 (kk : Int)] 3)) := (Below.refl _ _).alloc (Nat.le_refl _) _
  have X3 := Lib.hid (X2.out.below BA)
  have Y3 := Lib.hid (Y2.out.below BA)
  have Z3 := Lib.hid (Z2.out.below BA Z2.out.lt)
  have S3 := Lib.hid (S2.out.keep BA)
  have K3 := Lib.hid (Blk.new w2 3 #[.int .i64 (kk : Int)])
  clear BA
  go_upto_region 6 with (fail)
  generalize w2.alloc (.cells #[.int .i64 (kk : Int)] 3) = w3 at X3 Y3 Z3 S3 K3 ⊢
  generalize w2.heap.size = kb at K3 ⊢
  clear c0 c1 c2 c3 c4 c5 d0 d1 d2 d3 d4 d5 f0 f1
  clear X2 Y2 Z2 S2 hz2
  obtain ⟨c0, c1, c2, c3, c4, c5⟩ := X3.out
  obtain ⟨d0, d1, d2, d3, d4, d5⟩ := Y3.out
  dsimp only at c0 c1 c2 c3 c4 c5
  simp only [World.size_alloc] at d0 d1 d2 d3 d4 d5
  have f0 := Z3.out.cell 0
  have f1 := Z3.out.cell 1
  simp only [List.getElem?_toArray, List.getElem?_cons_zero, List.getElem?_cons_succ] at f0 f1
  simp only [World.size_alloc] at f0 f1
  have g0 := K3.out.cell 0
  simp only [List.getElem?_toArray, List.getElem?_cons_zero] at g0
  go_wp2_with fail
  refine (RM.out kb _ _ S3.out.tabs g0 f1).mono ?_
  rintro e w4 ⟨D, K, rfl, ss⟩
  have SS4 := Lib.hid ss
  have bb4 := ss.st.bel
  have S4 := Lib.hid (S3.out.keep bb4)
  clear c0 c1 c2 c3 c4 c5 d0 d1 d2 d3 d4 d5 f0 f1
  have X4 := Lib.hid (X3.out.below bb4)
  have Y4 := Lib.hid (Y3.out.below bb4)
  have Z4 := Lib.hid (Z3.out.below bb4 Z3.out.lt)
  have K4 := Lib.hid (K3.out.below bb4 K3.out.lt)
  clear ss bb4 X3 Y3 Z3 K3 S3 g0
  obtain ⟨c0, c1, c2, c3, c4, c5⟩ := X4.out
  obtain ⟨d0, d1, d2, d3, d4, d5⟩ := Y4.out
  dsimp only at c0 c1 c2 c3 c4 c5
  simp only [World.size_alloc] at d0 d1 d2 d3 d4 d5
  have f0 := Z4.out.cell 0
  have f1 := Z4.out.cell 1
  simp only [List.getElem?_toArray, List.getElem?_cons_zero, List.getElem?_cons_succ] at f0 f1
  simp only [World.size_alloc] at f0 f1
  have g0 := K4.out.cell 0
  simp only [List.getElem?_toArray, List.getElem?_cons_zero] at g0
  go_wp2_with fail
  refine (SP.out _ S4.out.tabs).mono ?_
  rintro e w5 ⟨rfl, b5⟩
  have SS5 := Lib.hid (SS4.out.below b5)
  have S5 := Lib.hid (S4.out.keep b5)
  have K5 := Lib.hid (K4.out.below b5 K4.out.lt)
  clear c0 c1 c2 c3 c4 c5 d0 d1 d2 d3 d4 d5 f0 f1
  clear b5 X4 Y4 Z4 K4 S4 SS4 g0
  have g0 := K5.out.cell 0
  simp only [List.getElem?_toArray, List.getElem?_cons_zero] at g0
  go_wp2_with fail
  refine (STd.out _ D (SS5.out.get 0 rfl)).mono ?_
  rintro e w' ⟨rfl, rfl⟩
  go_wp2_with fail
  refine (AW.out _ S5.out.tabs).mono ?_
  rintro e w6 ⟨rfl, b6⟩
  have S6 := Lib.hid (S5.out.keep b6)
  clear b6
  go_wp2
  go_ret
  exact ⟨rfl, S6.out.bel⟩
set_option maxRecDepth 100000 in
set_option maxHeartbeats 4000000 in
theorem flips_d4_p (xd yd : Bool) (xn xw xc yn yw yc : ByteArray) (gx gy cx cy : Nat) (fm : Int) (kk bit : Nat) (hbit : bit ≤ 65535) (hk4 : kk < 4) (w : World) (ht : Tabs w) (sx : StgSz (⟨xd, xn, gx, xw, xc, cx⟩ : Stg)) (sy : StgSz (⟨yd, yn, gy, yw, yc, cy⟩ : Stg)) (hlx : longB (⟨xd, xn, gx, xw, xc, cx⟩ : Stg) = false) (hly : longB (⟨yd, yn, gy, yw, yc, cy⟩ : Stg) = false) (htm : Int.tmod fm 4 = (kk : Int)) (hneg : decide ((kk : Int) < 0) = false)
    (hx : cx ≤ 18446744073709551615) (hy : cy ≤ 18446744073709551615) (hd : dialB xn gx xw = true) (hv : (nameF yn && genI gy) = true) (d l : Sd) (said : List ByteArray) (hr : runF (dialS ⟨xn, gx⟩ xw xc cx) (listenS ⟨yn, gy⟩ yc cy) (helloF ⟨xn, gx⟩ xw) 1 (mFl kk bit) = (d, l, said)) (h1 : d.state = 3) (h2 : kk ≠ 3) (h3 : l.state = 3) :
    Calls Tryd.prog 5 #[stgV (⟨xd, xn, gx, xw, xc, cx⟩ : Stg), stgV (⟨yd, yn, gy, yw, yc, cy⟩ : Stg), .agg #[.int .i64 fm, .int .u16 (bit : Int)]] w fun e w' => e = .returned (.bool true) ∧ Below w.heap.size w w' := by
  have X0 := Lib.hid (Bx.of (x := (⟨xd, xn, gx, xw, xc, cx⟩ : Stg)) (((Blk.new w 26 #[.bool xd, .string xn, .int .i64 gx, .string xw, .string xc, .int .u64 (cx : Int)]).alloc (.cells #[.bool yd, .string yn, .int .i64 gy, .string yw, .string yc, .int .u64 (cy : Int)] 26)).alloc (.cells #[.int .i64 fm, .int .u16 (bit : Int)] 49)))
  have Y0 := Lib.hid (Bx.of (x := (⟨yd, yn, gy, yw, yc, cy⟩ : Stg)) ((Blk.new (w.alloc (.cells #[.bool xd, .string xn, .int .i64 gx, .string xw, .string xc, .int .u64 (cx : Int)] 26)) 26 #[.bool yd, .string yn, .int .i64 gy, .string yw, .string yc, .int .u64 (cy : Int)]).alloc (.cells #[.int .i64 fm, .int .u16 (bit : Int)] 49)))
  have Z0 := Lib.hid (Blk.new ((w.alloc (.cells #[.bool xd, .string xn, .int .i64 gx, .string xw, .string xc, .int .u64 (cx : Int)] 26)).alloc (.cells #[.bool yd, .string yn, .int .i64 gy, .string yw, .string yc, .int .u64 (cy : Int)] 26)) 49 #[.int .i64 fm, .int .u16 (bit : Int)])
  have S0 := Lib.hid ((((St.refl ht).alloc (.cells #[.bool xd, .string xn, .int .i64 gx, .string xw, .string xc, .int .u64 (cx : Int)] 26)).alloc (.cells #[.bool yd, .string yn, .int .i64 gy, .string yw, .string yc, .int .u64 (cy : Int)] 26)).alloc (.cells #[.int .i64 fm, .int .u16 (bit : Int)] 49))
  have CX : Hid (∀ W, Calls Tryd.prog 10 #[.agg #[.bool xd, .string xn, .int .i64 gx, .string xw, .string xc, .int .u64 (cx : Int)], .slice none 0 0] W fun e w' => e = .returned (.bool false) ∧ Below W.heap.size W w') := by
    refine Lib.hid fun W => ?_
    have := longN_any (⟨xd, xn, gx, xw, xc, cx⟩ : Stg) sx.n sx.w sx.c W
    rw [hlx] at this
    exact this
  have CY : Hid (∀ W, Calls Tryd.prog 10 #[.agg #[.bool yd, .string yn, .int .i64 gy, .string yw, .string yc, .int .u64 (cy : Int)], .slice none 0 0] W fun e w' => e = .returned (.bool false) ∧ Below W.heap.size W w') := by
    refine Lib.hid fun W => ?_
    have := longN_any (⟨yd, yn, gy, yw, yc, cy⟩ : Stg) sy.n sy.w sy.c W
    rw [hly] at this
    exact this
  have AW := Lib.hid (fun W (t : Tabs W) => awakeS_any W t)
  have hkz : (kk : Int) ≤ 3 := by omega
  have hkw : wrap64 (kk : Int) = kk := by unfold wrap64; omega
  have lx : xw.size + xc.size + xn.size ≤ 6000 := by
    have := of_decide_eq_false hlx
    dsimp only at this
    omega
  have ly : yw.size + yc.size + yn.size ≤ 6000 := by
    have := of_decide_eq_false hly
    dsimp only at this
    omega
  have RM : Hid (∀ KB FB W, Tabs W → W.cell? ⟨KB, 0, none⟩ = some (.int .i64 kk) → W.cell? ⟨FB, 1, none⟩ = some (.int .u16 bit) → Calls Tryd.prog 18 #[stgV (⟨xd, xn, gx, xw, xc, cx⟩ : Stg), stgV (⟨yd, yn, gy, yw, yc, cy⟩ : Stg), .int .i64 1, .func (.func 19) #[] #[.pointer (some ⟨KB, 0, none⟩), .pointer (some ⟨FB, 0, none⟩)]] W (RunOut W d l)) := by
    refine Lib.hid fun KB FB W t k1 k2 => ?_
    have := runF_made xd yd xn xw xc yn yw yc gx gy cx cy 1 W t kk bit KB FB (mFl_size kk bit) (fun i V b hb hz => change_any i kk bit KB FB hbit b hz V (cell_keep hb k1) (cell_keep hb k2)) ⟨by omega, by omega, by omega⟩ (by omega) hx hy hd hv
    rw [hr] at this
    exact this
  have SP : Hid (∀ W, Tabs W → Calls Tryd.prog 21 #[stgV (⟨xd, xn, gx, xw, xc, cx⟩ : Stg), stgV (⟨yd, yn, gy, yw, yc, cy⟩ : Stg), .int .i64 kk, .int .u16 bit] W fun e W' => e = .returned (.tuple #[.int .i64 d.state, .int .i64 l.state]) ∧ Below W.heap.size W W') := by
    refine Lib.hid fun W t => ?_
    have := spec_made kk hk4 xd yd xn xw xc yn yw yc gx gy cx cy bit hbit W t ⟨by omega, by omega, by omega⟩ (by omega) hx hy hd hv
    rw [hr] at this
    exact this
  unfold stgV at RM SP
  obtain ⟨sd, hsd⟩ : ∃ n : Nat, n = d.state := ⟨_, rfl⟩
  obtain ⟨sl, hsl⟩ : ∃ n : Nat, n = l.state := ⟨_, rfl⟩
  have STd : Hid (∀ W D, Blk W D 46 (sdC d) → Calls Tryd.prog 16 #[.pointer (some ⟨D, 0, none⟩)] W fun e w' => e = .returned (.int .i64 sd) ∧ W = w') := Lib.hid (fun W D h => by rw [hsd]; exact state_any d D W h)
  have STl : Hid (∀ W D, Blk W D 46 (sdC l) → Calls Tryd.prog 16 #[.pointer (some ⟨D, 0, none⟩)] W fun e w' => e = .returned (.int .i64 sl) ∧ W = w') := Lib.hid (fun W D h => by rw [hsl]; exact state_any l D W h)
  rw [← hsd, ← hsl] at SP
  rw [← hsd] at h1
  rw [← hsl] at h3
  have t1 : ((sd : Int) == 3) = true := by rw [beq_iff_eq]; omega
  have u1 : ((sd : Int) != 3) = false := by rw [bne_eq_false_iff_eq]; omega
  have t2 : ((kk : Int) == 3) = false := beq_eq_false_iff_ne.2 (by omega)
  have u2 : ((kk : Int) != 3) = true := by rw [bne_iff_ne]; omega
  have t3 : ((sl : Int) == 3) = true := by rw [beq_iff_eq]; omega
  have u3 : ((sl : Int) != 3) = false := by rw [bne_eq_false_iff_eq]; omega
  clear ht sx sy hlx hly hd hv lx ly hx hy hsd hsl hr hbit hk4 h1 h2 h3
  have hmf : ∀ (fn : Fn) (first cap : Array Value) (w : World), (Instr.makeFunc fn first cap).run Tryd.prog w = .ok (.func fn first cap) w := fun _ _ _ _ => rfl
  unfold stgV
  go_enter Tryd.func5, Tryd.ntmps5
  obtain ⟨c0, c1, c2, c3, c4, c5⟩ := X0.out
  obtain ⟨d0, d1, d2, d3, d4, d5⟩ := Y0.out
  dsimp only at c0 c1 c2 c3 c4 c5
  simp only [World.size_alloc] at d0 d1 d2 d3 d4 d5
  have f0 := Z0.out.cell 0
  have f1 := Z0.out.cell 1
  simp only [List.getElem?_toArray, List.getElem?_cons_zero, List.getElem?_cons_succ] at f0 f1
  simp only [World.size_alloc] at f0 f1
  go_wp2_with fail
  refine (CX.out _).mono ?_
  rintro e w1 ⟨rfl, b1⟩
  have S1 := Lib.hid (S0.out.keep b1)
  clear c0 c1 c2 c3 c4 c5 d0 d1 d2 d3 d4 d5 f0 f1
  have X1 := Lib.hid (X0.out.below b1)
  have Y1 := Lib.hid (Y0.out.below b1)
  have Z1 := Lib.hid (Z0.out.below b1 Z0.out.lt)
  obtain ⟨c0, c1, c2, c3, c4, c5⟩ := X1.out
  obtain ⟨d0, d1, d2, d3, d4, d5⟩ := Y1.out
  dsimp only at c0 c1 c2 c3 c4 c5
  simp only [World.size_alloc] at d0 d1 d2 d3 d4 d5
  have f0 := Z1.out.cell 0
  have f1 := Z1.out.cell 1
  simp only [List.getElem?_toArray, List.getElem?_cons_zero, List.getElem?_cons_succ] at f0 f1
  simp only [World.size_alloc] at f0 f1
  clear b1 S0 X0 Y0 Z0
  go_wp2_with fail
  refine (CY.out _).mono ?_
  rintro e w2 ⟨rfl, b2⟩
  have S2 := Lib.hid (S1.out.keep b2)
  clear c0 c1 c2 c3 c4 c5 d0 d1 d2 d3 d4 d5 f0 f1
  have X2 := Lib.hid (X1.out.below b2)
  have Y2 := Lib.hid (Y1.out.below b2)
  have Z2 := Lib.hid (Z1.out.below b2 Z1.out.lt)
  obtain ⟨c0, c1, c2, c3, c4, c5⟩ := X2.out
  obtain ⟨d0, d1, d2, d3, d4, d5⟩ := Y2.out
  dsimp only at c0 c1 c2 c3 c4 c5
  simp only [World.size_alloc] at d0 d1 d2 d3 d4 d5
  have f0 := Z2.out.cell 0
  have f1 := Z2.out.cell 1
  simp only [List.getElem?_toArray, List.getElem?_cons_zero, List.getElem?_cons_succ] at f0 f1
  simp only [World.size_alloc] at f0 f1
  clear b2 S1 X1 Y1 Z1
  have hz2 : w.heap.size + 1 + 1 < w2.heap.size := by have := Z2.out.lt; simpa only [World.size_alloc] using this
  have BA : Below w2.heap.size w2 (w2.alloc (.cells #[.int .i64 (kk : Int)] 3)) := (Below.refl _ _).alloc (Nat.le_refl _) _
  have X3 := Lib.hid (X2.out.below BA)
  have Y3 := Lib.hid (Y2.out.below BA)
  have Z3 := Lib.hid (Z2.out.below BA Z2.out.lt)
  have S3 := Lib.hid (S2.out.keep BA)
  have K3 := Lib.hid (Blk.new w2 3 #[.int .i64 (kk : Int)])
  clear BA
  go_upto_region 6 with (fail)
  generalize w2.alloc (.cells #[.int .i64 (kk : Int)] 3) = w3 at X3 Y3 Z3 S3 K3 ⊢
  generalize w2.heap.size = kb at K3 ⊢
  clear c0 c1 c2 c3 c4 c5 d0 d1 d2 d3 d4 d5 f0 f1
  clear X2 Y2 Z2 S2 hz2
  obtain ⟨c0, c1, c2, c3, c4, c5⟩ := X3.out
  obtain ⟨d0, d1, d2, d3, d4, d5⟩ := Y3.out
  dsimp only at c0 c1 c2 c3 c4 c5
  simp only [World.size_alloc] at d0 d1 d2 d3 d4 d5
  have f0 := Z3.out.cell 0
  have f1 := Z3.out.cell 1
  simp only [List.getElem?_toArray, List.getElem?_cons_zero, List.getElem?_cons_succ] at f0 f1
  simp only [World.size_alloc] at f0 f1
  have g0 := K3.out.cell 0
  simp only [List.getElem?_toArray, List.getElem?_cons_zero] at g0
  go_wp2_with fail
  refine (RM.out kb _ _ S3.out.tabs g0 f1).mono ?_
  rintro e w4 ⟨D, K, rfl, ss⟩
  have SS4 := Lib.hid ss
  have bb4 := ss.st.bel
  have S4 := Lib.hid (S3.out.keep bb4)
  clear c0 c1 c2 c3 c4 c5 d0 d1 d2 d3 d4 d5 f0 f1
  have X4 := Lib.hid (X3.out.below bb4)
  have Y4 := Lib.hid (Y3.out.below bb4)
  have Z4 := Lib.hid (Z3.out.below bb4 Z3.out.lt)
  have K4 := Lib.hid (K3.out.below bb4 K3.out.lt)
  clear ss bb4 X3 Y3 Z3 K3 S3 g0
  obtain ⟨c0, c1, c2, c3, c4, c5⟩ := X4.out
  obtain ⟨d0, d1, d2, d3, d4, d5⟩ := Y4.out
  dsimp only at c0 c1 c2 c3 c4 c5
  simp only [World.size_alloc] at d0 d1 d2 d3 d4 d5
  have f0 := Z4.out.cell 0
  have f1 := Z4.out.cell 1
  simp only [List.getElem?_toArray, List.getElem?_cons_zero, List.getElem?_cons_succ] at f0 f1
  simp only [World.size_alloc] at f0 f1
  have g0 := K4.out.cell 0
  simp only [List.getElem?_toArray, List.getElem?_cons_zero] at g0
  go_wp2_with fail
  refine (SP.out _ S4.out.tabs).mono ?_
  rintro e w5 ⟨rfl, b5⟩
  have SS5 := Lib.hid (SS4.out.below b5)
  have S5 := Lib.hid (S4.out.keep b5)
  have K5 := Lib.hid (K4.out.below b5 K4.out.lt)
  clear c0 c1 c2 c3 c4 c5 d0 d1 d2 d3 d4 d5 f0 f1
  clear b5 X4 Y4 Z4 K4 S4 SS4 g0
  have g0 := K5.out.cell 0
  simp only [List.getElem?_toArray, List.getElem?_cons_zero] at g0
  go_wp2_with fail
  refine (STd.out _ D (SS5.out.get 0 rfl)).mono ?_
  rintro e w' ⟨rfl, rfl⟩
  go_wp2_with fail
  refine (STl.out _ K (SS5.out.get 1 rfl)).mono ?_
  rintro e w' ⟨rfl, rfl⟩
  go_wp2_with fail
  refine (AW.out _ S5.out.tabs).mono ?_
  rintro e w6 ⟨rfl, b6⟩
  have S6 := Lib.hid (S5.out.keep b6)
  clear b6
  go_wp2
  go_ret
  exact ⟨rfl, S6.out.bel⟩
set_option maxRecDepth 100000 in
set_option maxHeartbeats 4000000 in
theorem flips_d5_p (xd yd : Bool) (xn xw xc yn yw yc : ByteArray) (gx gy cx cy : Nat) (fm : Int) (kk bit : Nat) (hbit : bit ≤ 65535) (hk4 : kk < 4) (w : World) (ht : Tabs w) (sx : StgSz (⟨xd, xn, gx, xw, xc, cx⟩ : Stg)) (sy : StgSz (⟨yd, yn, gy, yw, yc, cy⟩ : Stg)) (hlx : longB (⟨xd, xn, gx, xw, xc, cx⟩ : Stg) = false) (hly : longB (⟨yd, yn, gy, yw, yc, cy⟩ : Stg) = false) (htm : Int.tmod fm 4 = (kk : Int)) (hneg : decide ((kk : Int) < 0) = false)
    (hx : cx ≤ 18446744073709551615) (hy : cy ≤ 18446744073709551615) (hd : dialB xn gx xw = true) (hv : (nameF yn && genI gy) = true) (d l : Sd) (said : List ByteArray) (hr : runF (dialS ⟨xn, gx⟩ xw xc cx) (listenS ⟨yn, gy⟩ yc cy) (helloF ⟨xn, gx⟩ xw) 1 (mFl kk bit) = (d, l, said)) (h1 : d.state = 3) (h2 : kk ≠ 3) (h3 : l.state ≠ 3) :
    Calls Tryd.prog 5 #[stgV (⟨xd, xn, gx, xw, xc, cx⟩ : Stg), stgV (⟨yd, yn, gy, yw, yc, cy⟩ : Stg), .agg #[.int .i64 fm, .int .u16 (bit : Int)]] w fun e w' => e = .returned (.bool true) ∧ Below w.heap.size w w' := by
  have X0 := Lib.hid (Bx.of (x := (⟨xd, xn, gx, xw, xc, cx⟩ : Stg)) (((Blk.new w 26 #[.bool xd, .string xn, .int .i64 gx, .string xw, .string xc, .int .u64 (cx : Int)]).alloc (.cells #[.bool yd, .string yn, .int .i64 gy, .string yw, .string yc, .int .u64 (cy : Int)] 26)).alloc (.cells #[.int .i64 fm, .int .u16 (bit : Int)] 49)))
  have Y0 := Lib.hid (Bx.of (x := (⟨yd, yn, gy, yw, yc, cy⟩ : Stg)) ((Blk.new (w.alloc (.cells #[.bool xd, .string xn, .int .i64 gx, .string xw, .string xc, .int .u64 (cx : Int)] 26)) 26 #[.bool yd, .string yn, .int .i64 gy, .string yw, .string yc, .int .u64 (cy : Int)]).alloc (.cells #[.int .i64 fm, .int .u16 (bit : Int)] 49)))
  have Z0 := Lib.hid (Blk.new ((w.alloc (.cells #[.bool xd, .string xn, .int .i64 gx, .string xw, .string xc, .int .u64 (cx : Int)] 26)).alloc (.cells #[.bool yd, .string yn, .int .i64 gy, .string yw, .string yc, .int .u64 (cy : Int)] 26)) 49 #[.int .i64 fm, .int .u16 (bit : Int)])
  have S0 := Lib.hid ((((St.refl ht).alloc (.cells #[.bool xd, .string xn, .int .i64 gx, .string xw, .string xc, .int .u64 (cx : Int)] 26)).alloc (.cells #[.bool yd, .string yn, .int .i64 gy, .string yw, .string yc, .int .u64 (cy : Int)] 26)).alloc (.cells #[.int .i64 fm, .int .u16 (bit : Int)] 49))
  have CX : Hid (∀ W, Calls Tryd.prog 10 #[.agg #[.bool xd, .string xn, .int .i64 gx, .string xw, .string xc, .int .u64 (cx : Int)], .slice none 0 0] W fun e w' => e = .returned (.bool false) ∧ Below W.heap.size W w') := by
    refine Lib.hid fun W => ?_
    have := longN_any (⟨xd, xn, gx, xw, xc, cx⟩ : Stg) sx.n sx.w sx.c W
    rw [hlx] at this
    exact this
  have CY : Hid (∀ W, Calls Tryd.prog 10 #[.agg #[.bool yd, .string yn, .int .i64 gy, .string yw, .string yc, .int .u64 (cy : Int)], .slice none 0 0] W fun e w' => e = .returned (.bool false) ∧ Below W.heap.size W w') := by
    refine Lib.hid fun W => ?_
    have := longN_any (⟨yd, yn, gy, yw, yc, cy⟩ : Stg) sy.n sy.w sy.c W
    rw [hly] at this
    exact this
  have AW := Lib.hid (fun W (t : Tabs W) => awakeS_any W t)
  have hkz : (kk : Int) ≤ 3 := by omega
  have hkw : wrap64 (kk : Int) = kk := by unfold wrap64; omega
  have lx : xw.size + xc.size + xn.size ≤ 6000 := by
    have := of_decide_eq_false hlx
    dsimp only at this
    omega
  have ly : yw.size + yc.size + yn.size ≤ 6000 := by
    have := of_decide_eq_false hly
    dsimp only at this
    omega
  have RM : Hid (∀ KB FB W, Tabs W → W.cell? ⟨KB, 0, none⟩ = some (.int .i64 kk) → W.cell? ⟨FB, 1, none⟩ = some (.int .u16 bit) → Calls Tryd.prog 18 #[stgV (⟨xd, xn, gx, xw, xc, cx⟩ : Stg), stgV (⟨yd, yn, gy, yw, yc, cy⟩ : Stg), .int .i64 1, .func (.func 19) #[] #[.pointer (some ⟨KB, 0, none⟩), .pointer (some ⟨FB, 0, none⟩)]] W (RunOut W d l)) := by
    refine Lib.hid fun KB FB W t k1 k2 => ?_
    have := runF_made xd yd xn xw xc yn yw yc gx gy cx cy 1 W t kk bit KB FB (mFl_size kk bit) (fun i V b hb hz => change_any i kk bit KB FB hbit b hz V (cell_keep hb k1) (cell_keep hb k2)) ⟨by omega, by omega, by omega⟩ (by omega) hx hy hd hv
    rw [hr] at this
    exact this
  have SP : Hid (∀ W, Tabs W → Calls Tryd.prog 21 #[stgV (⟨xd, xn, gx, xw, xc, cx⟩ : Stg), stgV (⟨yd, yn, gy, yw, yc, cy⟩ : Stg), .int .i64 kk, .int .u16 bit] W fun e W' => e = .returned (.tuple #[.int .i64 d.state, .int .i64 l.state]) ∧ Below W.heap.size W W') := by
    refine Lib.hid fun W t => ?_
    have := spec_made kk hk4 xd yd xn xw xc yn yw yc gx gy cx cy bit hbit W t ⟨by omega, by omega, by omega⟩ (by omega) hx hy hd hv
    rw [hr] at this
    exact this
  unfold stgV at RM SP
  obtain ⟨sd, hsd⟩ : ∃ n : Nat, n = d.state := ⟨_, rfl⟩
  obtain ⟨sl, hsl⟩ : ∃ n : Nat, n = l.state := ⟨_, rfl⟩
  have STd : Hid (∀ W D, Blk W D 46 (sdC d) → Calls Tryd.prog 16 #[.pointer (some ⟨D, 0, none⟩)] W fun e w' => e = .returned (.int .i64 sd) ∧ W = w') := Lib.hid (fun W D h => by rw [hsd]; exact state_any d D W h)
  have STl : Hid (∀ W D, Blk W D 46 (sdC l) → Calls Tryd.prog 16 #[.pointer (some ⟨D, 0, none⟩)] W fun e w' => e = .returned (.int .i64 sl) ∧ W = w') := Lib.hid (fun W D h => by rw [hsl]; exact state_any l D W h)
  rw [← hsd, ← hsl] at SP
  rw [← hsd] at h1
  rw [← hsl] at h3
  have t1 : ((sd : Int) == 3) = true := by rw [beq_iff_eq]; omega
  have u1 : ((sd : Int) != 3) = false := by rw [bne_eq_false_iff_eq]; omega
  have t2 : ((kk : Int) == 3) = false := beq_eq_false_iff_ne.2 (by omega)
  have u2 : ((kk : Int) != 3) = true := by rw [bne_iff_ne]; omega
  have t3 : ((sl : Int) == 3) = false := beq_eq_false_iff_ne.2 (by omega)
  have u3 : ((sl : Int) != 3) = true := by rw [bne_iff_ne]; omega
  clear ht sx sy hlx hly hd hv lx ly hx hy hsd hsl hr hbit hk4 h1 h2 h3
  have hmf : ∀ (fn : Fn) (first cap : Array Value) (w : World), (Instr.makeFunc fn first cap).run Tryd.prog w = .ok (.func fn first cap) w := fun _ _ _ _ => rfl
  unfold stgV
  go_enter Tryd.func5, Tryd.ntmps5
  obtain ⟨c0, c1, c2, c3, c4, c5⟩ := X0.out
  obtain ⟨d0, d1, d2, d3, d4, d5⟩ := Y0.out
  dsimp only at c0 c1 c2 c3 c4 c5
  simp only [World.size_alloc] at d0 d1 d2 d3 d4 d5
  have f0 := Z0.out.cell 0
  have f1 := Z0.out.cell 1
  simp only [List.getElem?_toArray, List.getElem?_cons_zero, List.getElem?_cons_succ] at f0 f1
  simp only [World.size_alloc] at f0 f1
  go_wp2_with fail
  refine (CX.out _).mono ?_
  rintro e w1 ⟨rfl, b1⟩
  have S1 := Lib.hid (S0.out.keep b1)
  clear c0 c1 c2 c3 c4 c5 d0 d1 d2 d3 d4 d5 f0 f1
  have X1 := Lib.hid (X0.out.below b1)
  have Y1 := Lib.hid (Y0.out.below b1)
  have Z1 := Lib.hid (Z0.out.below b1 Z0.out.lt)
  obtain ⟨c0, c1, c2, c3, c4, c5⟩ := X1.out
  obtain ⟨d0, d1, d2, d3, d4, d5⟩ := Y1.out
  dsimp only at c0 c1 c2 c3 c4 c5
  simp only [World.size_alloc] at d0 d1 d2 d3 d4 d5
  have f0 := Z1.out.cell 0
  have f1 := Z1.out.cell 1
  simp only [List.getElem?_toArray, List.getElem?_cons_zero, List.getElem?_cons_succ] at f0 f1
  simp only [World.size_alloc] at f0 f1
  clear b1 S0 X0 Y0 Z0
  go_wp2_with fail
  refine (CY.out _).mono ?_
  rintro e w2 ⟨rfl, b2⟩
  have S2 := Lib.hid (S1.out.keep b2)
  clear c0 c1 c2 c3 c4 c5 d0 d1 d2 d3 d4 d5 f0 f1
  have X2 := Lib.hid (X1.out.below b2)
  have Y2 := Lib.hid (Y1.out.below b2)
  have Z2 := Lib.hid (Z1.out.below b2 Z1.out.lt)
  obtain ⟨c0, c1, c2, c3, c4, c5⟩ := X2.out
  obtain ⟨d0, d1, d2, d3, d4, d5⟩ := Y2.out
  dsimp only at c0 c1 c2 c3 c4 c5
  simp only [World.size_alloc] at d0 d1 d2 d3 d4 d5
  have f0 := Z2.out.cell 0
  have f1 := Z2.out.cell 1
  simp only [List.getElem?_toArray, List.getElem?_cons_zero, List.getElem?_cons_succ] at f0 f1
  simp only [World.size_alloc] at f0 f1
  clear b2 S1 X1 Y1 Z1
  have hz2 : w.heap.size + 1 + 1 < w2.heap.size := by have := Z2.out.lt; simpa only [World.size_alloc] using this
  have BA : Below w2.heap.size w2 (w2.alloc (.cells #[.int .i64 (kk : Int)] 3)) := (Below.refl _ _).alloc (Nat.le_refl _) _
  have X3 := Lib.hid (X2.out.below BA)
  have Y3 := Lib.hid (Y2.out.below BA)
  have Z3 := Lib.hid (Z2.out.below BA Z2.out.lt)
  have S3 := Lib.hid (S2.out.keep BA)
  have K3 := Lib.hid (Blk.new w2 3 #[.int .i64 (kk : Int)])
  clear BA
  go_upto_region 6 with (fail)
  generalize w2.alloc (.cells #[.int .i64 (kk : Int)] 3) = w3 at X3 Y3 Z3 S3 K3 ⊢
  generalize w2.heap.size = kb at K3 ⊢
  clear c0 c1 c2 c3 c4 c5 d0 d1 d2 d3 d4 d5 f0 f1
  clear X2 Y2 Z2 S2 hz2
  obtain ⟨c0, c1, c2, c3, c4, c5⟩ := X3.out
  obtain ⟨d0, d1, d2, d3, d4, d5⟩ := Y3.out
  dsimp only at c0 c1 c2 c3 c4 c5
  simp only [World.size_alloc] at d0 d1 d2 d3 d4 d5
  have f0 := Z3.out.cell 0
  have f1 := Z3.out.cell 1
  simp only [List.getElem?_toArray, List.getElem?_cons_zero, List.getElem?_cons_succ] at f0 f1
  simp only [World.size_alloc] at f0 f1
  have g0 := K3.out.cell 0
  simp only [List.getElem?_toArray, List.getElem?_cons_zero] at g0
  go_wp2_with fail
  refine (RM.out kb _ _ S3.out.tabs g0 f1).mono ?_
  rintro e w4 ⟨D, K, rfl, ss⟩
  have SS4 := Lib.hid ss
  have bb4 := ss.st.bel
  have S4 := Lib.hid (S3.out.keep bb4)
  clear c0 c1 c2 c3 c4 c5 d0 d1 d2 d3 d4 d5 f0 f1
  have X4 := Lib.hid (X3.out.below bb4)
  have Y4 := Lib.hid (Y3.out.below bb4)
  have Z4 := Lib.hid (Z3.out.below bb4 Z3.out.lt)
  have K4 := Lib.hid (K3.out.below bb4 K3.out.lt)
  clear ss bb4 X3 Y3 Z3 K3 S3 g0
  obtain ⟨c0, c1, c2, c3, c4, c5⟩ := X4.out
  obtain ⟨d0, d1, d2, d3, d4, d5⟩ := Y4.out
  dsimp only at c0 c1 c2 c3 c4 c5
  simp only [World.size_alloc] at d0 d1 d2 d3 d4 d5
  have f0 := Z4.out.cell 0
  have f1 := Z4.out.cell 1
  simp only [List.getElem?_toArray, List.getElem?_cons_zero, List.getElem?_cons_succ] at f0 f1
  simp only [World.size_alloc] at f0 f1
  have g0 := K4.out.cell 0
  simp only [List.getElem?_toArray, List.getElem?_cons_zero] at g0
  go_wp2_with fail
  refine (SP.out _ S4.out.tabs).mono ?_
  rintro e w5 ⟨rfl, b5⟩
  have SS5 := Lib.hid (SS4.out.below b5)
  have S5 := Lib.hid (S4.out.keep b5)
  have K5 := Lib.hid (K4.out.below b5 K4.out.lt)
  clear c0 c1 c2 c3 c4 c5 d0 d1 d2 d3 d4 d5 f0 f1
  clear b5 X4 Y4 Z4 K4 S4 SS4 g0
  have g0 := K5.out.cell 0
  simp only [List.getElem?_toArray, List.getElem?_cons_zero] at g0
  go_wp2_with fail
  refine (STd.out _ D (SS5.out.get 0 rfl)).mono ?_
  rintro e w' ⟨rfl, rfl⟩
  go_wp2_with fail
  refine (STl.out _ K (SS5.out.get 1 rfl)).mono ?_
  rintro e w' ⟨rfl, rfl⟩
  go_wp2_with fail
  refine (AW.out _ S5.out.tabs).mono ?_
  rintro e w6 ⟨rfl, b6⟩
  have S6 := Lib.hid (S5.out.keep b6)
  clear b6
  go_wp2
  go_ret
  exact ⟨rfl, S6.out.bel⟩
set_option maxRecDepth 100000 in
set_option maxHeartbeats 4000000 in
theorem flips_e3_p (xd yd : Bool) (xn xw xc yn yw yc : ByteArray) (gx gy cx cy : Nat) (fm : Int) (kk bit : Nat) (hbit : bit ≤ 65535) (hk4 : kk < 4) (w : World) (ht : Tabs w) (sx : StgSz (⟨xd, xn, gx, xw, xc, cx⟩ : Stg)) (sy : StgSz (⟨yd, yn, gy, yw, yc, cy⟩ : Stg)) (hlx : longB (⟨xd, xn, gx, xw, xc, cx⟩ : Stg) = false) (hly : longB (⟨yd, yn, gy, yw, yc, cy⟩ : Stg) = false) (htm : Int.tmod fm 4 = (kk : Int)) (hneg : decide ((kk : Int) < 0) = false)
    (hx : cx ≤ 18446744073709551615) (hy : cy ≤ 18446744073709551615) (hd : dialB xn gx xw = true) (hv : (nameF yn && genI gy) = true) (d l : Sd) (said : List ByteArray) (hr : runF (dialS ⟨xn, gx⟩ xw xc cx) (listenS ⟨yn, gy⟩ yc cy) (helloF ⟨xn, gx⟩ xw) 1 (mFl kk bit) = (d, l, said)) (h1 : d.state ≠ 3) (h2 : kk = 3) :
    Calls Tryd.prog 5 #[stgV (⟨xd, xn, gx, xw, xc, cx⟩ : Stg), stgV (⟨yd, yn, gy, yw, yc, cy⟩ : Stg), .agg #[.int .i64 fm, .int .u16 (bit : Int)]] w fun e w' => e = .returned (.bool true) ∧ Below w.heap.size w w' := by
  have X0 := Lib.hid (Bx.of (x := (⟨xd, xn, gx, xw, xc, cx⟩ : Stg)) (((Blk.new w 26 #[.bool xd, .string xn, .int .i64 gx, .string xw, .string xc, .int .u64 (cx : Int)]).alloc (.cells #[.bool yd, .string yn, .int .i64 gy, .string yw, .string yc, .int .u64 (cy : Int)] 26)).alloc (.cells #[.int .i64 fm, .int .u16 (bit : Int)] 49)))
  have Y0 := Lib.hid (Bx.of (x := (⟨yd, yn, gy, yw, yc, cy⟩ : Stg)) ((Blk.new (w.alloc (.cells #[.bool xd, .string xn, .int .i64 gx, .string xw, .string xc, .int .u64 (cx : Int)] 26)) 26 #[.bool yd, .string yn, .int .i64 gy, .string yw, .string yc, .int .u64 (cy : Int)]).alloc (.cells #[.int .i64 fm, .int .u16 (bit : Int)] 49)))
  have Z0 := Lib.hid (Blk.new ((w.alloc (.cells #[.bool xd, .string xn, .int .i64 gx, .string xw, .string xc, .int .u64 (cx : Int)] 26)).alloc (.cells #[.bool yd, .string yn, .int .i64 gy, .string yw, .string yc, .int .u64 (cy : Int)] 26)) 49 #[.int .i64 fm, .int .u16 (bit : Int)])
  have S0 := Lib.hid ((((St.refl ht).alloc (.cells #[.bool xd, .string xn, .int .i64 gx, .string xw, .string xc, .int .u64 (cx : Int)] 26)).alloc (.cells #[.bool yd, .string yn, .int .i64 gy, .string yw, .string yc, .int .u64 (cy : Int)] 26)).alloc (.cells #[.int .i64 fm, .int .u16 (bit : Int)] 49))
  have CX : Hid (∀ W, Calls Tryd.prog 10 #[.agg #[.bool xd, .string xn, .int .i64 gx, .string xw, .string xc, .int .u64 (cx : Int)], .slice none 0 0] W fun e w' => e = .returned (.bool false) ∧ Below W.heap.size W w') := by
    refine Lib.hid fun W => ?_
    have := longN_any (⟨xd, xn, gx, xw, xc, cx⟩ : Stg) sx.n sx.w sx.c W
    rw [hlx] at this
    exact this
  have CY : Hid (∀ W, Calls Tryd.prog 10 #[.agg #[.bool yd, .string yn, .int .i64 gy, .string yw, .string yc, .int .u64 (cy : Int)], .slice none 0 0] W fun e w' => e = .returned (.bool false) ∧ Below W.heap.size W w') := by
    refine Lib.hid fun W => ?_
    have := longN_any (⟨yd, yn, gy, yw, yc, cy⟩ : Stg) sy.n sy.w sy.c W
    rw [hly] at this
    exact this
  have AW := Lib.hid (fun W (t : Tabs W) => awakeS_any W t)
  have hkz : (kk : Int) ≤ 3 := by omega
  have hkw : wrap64 (kk : Int) = kk := by unfold wrap64; omega
  have lx : xw.size + xc.size + xn.size ≤ 6000 := by
    have := of_decide_eq_false hlx
    dsimp only at this
    omega
  have ly : yw.size + yc.size + yn.size ≤ 6000 := by
    have := of_decide_eq_false hly
    dsimp only at this
    omega
  have RM : Hid (∀ KB FB W, Tabs W → W.cell? ⟨KB, 0, none⟩ = some (.int .i64 kk) → W.cell? ⟨FB, 1, none⟩ = some (.int .u16 bit) → Calls Tryd.prog 18 #[stgV (⟨xd, xn, gx, xw, xc, cx⟩ : Stg), stgV (⟨yd, yn, gy, yw, yc, cy⟩ : Stg), .int .i64 1, .func (.func 19) #[] #[.pointer (some ⟨KB, 0, none⟩), .pointer (some ⟨FB, 0, none⟩)]] W (RunOut W d l)) := by
    refine Lib.hid fun KB FB W t k1 k2 => ?_
    have := runF_made xd yd xn xw xc yn yw yc gx gy cx cy 1 W t kk bit KB FB (mFl_size kk bit) (fun i V b hb hz => change_any i kk bit KB FB hbit b hz V (cell_keep hb k1) (cell_keep hb k2)) ⟨by omega, by omega, by omega⟩ (by omega) hx hy hd hv
    rw [hr] at this
    exact this
  have SP : Hid (∀ W, Tabs W → Calls Tryd.prog 21 #[stgV (⟨xd, xn, gx, xw, xc, cx⟩ : Stg), stgV (⟨yd, yn, gy, yw, yc, cy⟩ : Stg), .int .i64 kk, .int .u16 bit] W fun e W' => e = .returned (.tuple #[.int .i64 d.state, .int .i64 l.state]) ∧ Below W.heap.size W W') := by
    refine Lib.hid fun W t => ?_
    have := spec_made kk hk4 xd yd xn xw xc yn yw yc gx gy cx cy bit hbit W t ⟨by omega, by omega, by omega⟩ (by omega) hx hy hd hv
    rw [hr] at this
    exact this
  unfold stgV at RM SP
  obtain ⟨sd, hsd⟩ : ∃ n : Nat, n = d.state := ⟨_, rfl⟩
  obtain ⟨sl, hsl⟩ : ∃ n : Nat, n = l.state := ⟨_, rfl⟩
  have STd : Hid (∀ W D, Blk W D 46 (sdC d) → Calls Tryd.prog 16 #[.pointer (some ⟨D, 0, none⟩)] W fun e w' => e = .returned (.int .i64 sd) ∧ W = w') := Lib.hid (fun W D h => by rw [hsd]; exact state_any d D W h)
  have STl : Hid (∀ W D, Blk W D 46 (sdC l) → Calls Tryd.prog 16 #[.pointer (some ⟨D, 0, none⟩)] W fun e w' => e = .returned (.int .i64 sl) ∧ W = w') := Lib.hid (fun W D h => by rw [hsl]; exact state_any l D W h)
  rw [← hsd, ← hsl] at SP
  rw [← hsd] at h1
  have t1 : ((sd : Int) == 3) = false := beq_eq_false_iff_ne.2 (by omega)
  have u1 : ((sd : Int) != 3) = true := by rw [bne_iff_ne]; omega
  have t2 : ((kk : Int) == 3) = true := by rw [beq_iff_eq]; omega
  have u2 : ((kk : Int) != 3) = false := by rw [bne_eq_false_iff_eq]; omega
  clear ht sx sy hlx hly hd hv lx ly hx hy hsd hsl hr hbit hk4 h1 h2 
  have stl0 := STl
  clear stl0 STl
  have hmf : ∀ (fn : Fn) (first cap : Array Value) (w : World), (Instr.makeFunc fn first cap).run Tryd.prog w = .ok (.func fn first cap) w := fun _ _ _ _ => rfl
  unfold stgV
  go_enter Tryd.func5, Tryd.ntmps5
  obtain ⟨c0, c1, c2, c3, c4, c5⟩ := X0.out
  obtain ⟨d0, d1, d2, d3, d4, d5⟩ := Y0.out
  dsimp only at c0 c1 c2 c3 c4 c5
  simp only [World.size_alloc] at d0 d1 d2 d3 d4 d5
  have f0 := Z0.out.cell 0
  have f1 := Z0.out.cell 1
  simp only [List.getElem?_toArray, List.getElem?_cons_zero, List.getElem?_cons_succ] at f0 f1
  simp only [World.size_alloc] at f0 f1
  go_wp2_with fail
  refine (CX.out _).mono ?_
  rintro e w1 ⟨rfl, b1⟩
  have S1 := Lib.hid (S0.out.keep b1)
  clear c0 c1 c2 c3 c4 c5 d0 d1 d2 d3 d4 d5 f0 f1
  have X1 := Lib.hid (X0.out.below b1)
  have Y1 := Lib.hid (Y0.out.below b1)
  have Z1 := Lib.hid (Z0.out.below b1 Z0.out.lt)
  obtain ⟨c0, c1, c2, c3, c4, c5⟩ := X1.out
  obtain ⟨d0, d1, d2, d3, d4, d5⟩ := Y1.out
  dsimp only at c0 c1 c2 c3 c4 c5
  simp only [World.size_alloc] at d0 d1 d2 d3 d4 d5
  have f0 := Z1.out.cell 0
  have f1 := Z1.out.cell 1
  simp only [List.getElem?_toArray, List.getElem?_cons_zero, List.getElem?_cons_succ] at f0 f1
  simp only [World.size_alloc] at f0 f1
  clear b1 S0 X0 Y0 Z0
  go_wp2_with fail
  refine (CY.out _).mono ?_
  rintro e w2 ⟨rfl, b2⟩
  have S2 := Lib.hid (S1.out.keep b2)
  clear c0 c1 c2 c3 c4 c5 d0 d1 d2 d3 d4 d5 f0 f1
  have X2 := Lib.hid (X1.out.below b2)
  have Y2 := Lib.hid (Y1.out.below b2)
  have Z2 := Lib.hid (Z1.out.below b2 Z1.out.lt)
  obtain ⟨c0, c1, c2, c3, c4, c5⟩ := X2.out
  obtain ⟨d0, d1, d2, d3, d4, d5⟩ := Y2.out
  dsimp only at c0 c1 c2 c3 c4 c5
  simp only [World.size_alloc] at d0 d1 d2 d3 d4 d5
  have f0 := Z2.out.cell 0
  have f1 := Z2.out.cell 1
  simp only [List.getElem?_toArray, List.getElem?_cons_zero, List.getElem?_cons_succ] at f0 f1
  simp only [World.size_alloc] at f0 f1
  clear b2 S1 X1 Y1 Z1
  have hz2 : w.heap.size + 1 + 1 < w2.heap.size := by have := Z2.out.lt; simpa only [World.size_alloc] using this
  have BA : Below w2.heap.size w2 (w2.alloc (.cells #[.int .i64 (kk : Int)] 3)) := (Below.refl _ _).alloc (Nat.le_refl _) _
  have X3 := Lib.hid (X2.out.below BA)
  have Y3 := Lib.hid (Y2.out.below BA)
  have Z3 := Lib.hid (Z2.out.below BA Z2.out.lt)
  have S3 := Lib.hid (S2.out.keep BA)
  have K3 := Lib.hid (Blk.new w2 3 #[.int .i64 (kk : Int)])
  clear BA
  go_upto_region 6 with (fail)
  generalize w2.alloc (.cells #[.int .i64 (kk : Int)] 3) = w3 at X3 Y3 Z3 S3 K3 ⊢
  generalize w2.heap.size = kb at K3 ⊢
  clear c0 c1 c2 c3 c4 c5 d0 d1 d2 d3 d4 d5 f0 f1
  clear X2 Y2 Z2 S2 hz2
  obtain ⟨c0, c1, c2, c3, c4, c5⟩ := X3.out
  obtain ⟨d0, d1, d2, d3, d4, d5⟩ := Y3.out
  dsimp only at c0 c1 c2 c3 c4 c5
  simp only [World.size_alloc] at d0 d1 d2 d3 d4 d5
  have f0 := Z3.out.cell 0
  have f1 := Z3.out.cell 1
  simp only [List.getElem?_toArray, List.getElem?_cons_zero, List.getElem?_cons_succ] at f0 f1
  simp only [World.size_alloc] at f0 f1
  have g0 := K3.out.cell 0
  simp only [List.getElem?_toArray, List.getElem?_cons_zero] at g0
  go_wp2_with fail
  refine (RM.out kb _ _ S3.out.tabs g0 f1).mono ?_
  rintro e w4 ⟨D, K, rfl, ss⟩
  have SS4 := Lib.hid ss
  have bb4 := ss.st.bel
  have S4 := Lib.hid (S3.out.keep bb4)
  clear c0 c1 c2 c3 c4 c5 d0 d1 d2 d3 d4 d5 f0 f1
  have X4 := Lib.hid (X3.out.below bb4)
  have Y4 := Lib.hid (Y3.out.below bb4)
  have Z4 := Lib.hid (Z3.out.below bb4 Z3.out.lt)
  have K4 := Lib.hid (K3.out.below bb4 K3.out.lt)
  clear ss bb4 X3 Y3 Z3 K3 S3 g0
  obtain ⟨c0, c1, c2, c3, c4, c5⟩ := X4.out
  obtain ⟨d0, d1, d2, d3, d4, d5⟩ := Y4.out
  dsimp only at c0 c1 c2 c3 c4 c5
  simp only [World.size_alloc] at d0 d1 d2 d3 d4 d5
  have f0 := Z4.out.cell 0
  have f1 := Z4.out.cell 1
  simp only [List.getElem?_toArray, List.getElem?_cons_zero, List.getElem?_cons_succ] at f0 f1
  simp only [World.size_alloc] at f0 f1
  have g0 := K4.out.cell 0
  simp only [List.getElem?_toArray, List.getElem?_cons_zero] at g0
  go_wp2_with fail
  refine (SP.out _ S4.out.tabs).mono ?_
  rintro e w5 ⟨rfl, b5⟩
  have SS5 := Lib.hid (SS4.out.below b5)
  have S5 := Lib.hid (S4.out.keep b5)
  have K5 := Lib.hid (K4.out.below b5 K4.out.lt)
  clear c0 c1 c2 c3 c4 c5 d0 d1 d2 d3 d4 d5 f0 f1
  clear b5 X4 Y4 Z4 K4 S4 SS4 g0
  have g0 := K5.out.cell 0
  simp only [List.getElem?_toArray, List.getElem?_cons_zero] at g0
  go_wp2_with fail
  refine (STd.out _ D (SS5.out.get 0 rfl)).mono ?_
  rintro e w' ⟨rfl, rfl⟩
  go_wp2_with fail
  refine (AW.out _ S5.out.tabs).mono ?_
  rintro e w6 ⟨rfl, b6⟩
  have S6 := Lib.hid (S5.out.keep b6)
  clear b6
  go_wp2
  go_ret
  exact ⟨rfl, S6.out.bel⟩
set_option maxRecDepth 100000 in
set_option maxHeartbeats 4000000 in
theorem flips_e4_p (xd yd : Bool) (xn xw xc yn yw yc : ByteArray) (gx gy cx cy : Nat) (fm : Int) (kk bit : Nat) (hbit : bit ≤ 65535) (hk4 : kk < 4) (w : World) (ht : Tabs w) (sx : StgSz (⟨xd, xn, gx, xw, xc, cx⟩ : Stg)) (sy : StgSz (⟨yd, yn, gy, yw, yc, cy⟩ : Stg)) (hlx : longB (⟨xd, xn, gx, xw, xc, cx⟩ : Stg) = false) (hly : longB (⟨yd, yn, gy, yw, yc, cy⟩ : Stg) = false) (htm : Int.tmod fm 4 = (kk : Int)) (hneg : decide ((kk : Int) < 0) = false)
    (hx : cx ≤ 18446744073709551615) (hy : cy ≤ 18446744073709551615) (hd : dialB xn gx xw = true) (hv : (nameF yn && genI gy) = true) (d l : Sd) (said : List ByteArray) (hr : runF (dialS ⟨xn, gx⟩ xw xc cx) (listenS ⟨yn, gy⟩ yc cy) (helloF ⟨xn, gx⟩ xw) 1 (mFl kk bit) = (d, l, said)) (h1 : d.state ≠ 3) (h2 : kk ≠ 3) (h3 : l.state = 3) :
    Calls Tryd.prog 5 #[stgV (⟨xd, xn, gx, xw, xc, cx⟩ : Stg), stgV (⟨yd, yn, gy, yw, yc, cy⟩ : Stg), .agg #[.int .i64 fm, .int .u16 (bit : Int)]] w fun e w' => e = .returned (.bool true) ∧ Below w.heap.size w w' := by
  have X0 := Lib.hid (Bx.of (x := (⟨xd, xn, gx, xw, xc, cx⟩ : Stg)) (((Blk.new w 26 #[.bool xd, .string xn, .int .i64 gx, .string xw, .string xc, .int .u64 (cx : Int)]).alloc (.cells #[.bool yd, .string yn, .int .i64 gy, .string yw, .string yc, .int .u64 (cy : Int)] 26)).alloc (.cells #[.int .i64 fm, .int .u16 (bit : Int)] 49)))
  have Y0 := Lib.hid (Bx.of (x := (⟨yd, yn, gy, yw, yc, cy⟩ : Stg)) ((Blk.new (w.alloc (.cells #[.bool xd, .string xn, .int .i64 gx, .string xw, .string xc, .int .u64 (cx : Int)] 26)) 26 #[.bool yd, .string yn, .int .i64 gy, .string yw, .string yc, .int .u64 (cy : Int)]).alloc (.cells #[.int .i64 fm, .int .u16 (bit : Int)] 49)))
  have Z0 := Lib.hid (Blk.new ((w.alloc (.cells #[.bool xd, .string xn, .int .i64 gx, .string xw, .string xc, .int .u64 (cx : Int)] 26)).alloc (.cells #[.bool yd, .string yn, .int .i64 gy, .string yw, .string yc, .int .u64 (cy : Int)] 26)) 49 #[.int .i64 fm, .int .u16 (bit : Int)])
  have S0 := Lib.hid ((((St.refl ht).alloc (.cells #[.bool xd, .string xn, .int .i64 gx, .string xw, .string xc, .int .u64 (cx : Int)] 26)).alloc (.cells #[.bool yd, .string yn, .int .i64 gy, .string yw, .string yc, .int .u64 (cy : Int)] 26)).alloc (.cells #[.int .i64 fm, .int .u16 (bit : Int)] 49))
  have CX : Hid (∀ W, Calls Tryd.prog 10 #[.agg #[.bool xd, .string xn, .int .i64 gx, .string xw, .string xc, .int .u64 (cx : Int)], .slice none 0 0] W fun e w' => e = .returned (.bool false) ∧ Below W.heap.size W w') := by
    refine Lib.hid fun W => ?_
    have := longN_any (⟨xd, xn, gx, xw, xc, cx⟩ : Stg) sx.n sx.w sx.c W
    rw [hlx] at this
    exact this
  have CY : Hid (∀ W, Calls Tryd.prog 10 #[.agg #[.bool yd, .string yn, .int .i64 gy, .string yw, .string yc, .int .u64 (cy : Int)], .slice none 0 0] W fun e w' => e = .returned (.bool false) ∧ Below W.heap.size W w') := by
    refine Lib.hid fun W => ?_
    have := longN_any (⟨yd, yn, gy, yw, yc, cy⟩ : Stg) sy.n sy.w sy.c W
    rw [hly] at this
    exact this
  have AW := Lib.hid (fun W (t : Tabs W) => awakeS_any W t)
  have hkz : (kk : Int) ≤ 3 := by omega
  have hkw : wrap64 (kk : Int) = kk := by unfold wrap64; omega
  have lx : xw.size + xc.size + xn.size ≤ 6000 := by
    have := of_decide_eq_false hlx
    dsimp only at this
    omega
  have ly : yw.size + yc.size + yn.size ≤ 6000 := by
    have := of_decide_eq_false hly
    dsimp only at this
    omega
  have RM : Hid (∀ KB FB W, Tabs W → W.cell? ⟨KB, 0, none⟩ = some (.int .i64 kk) → W.cell? ⟨FB, 1, none⟩ = some (.int .u16 bit) → Calls Tryd.prog 18 #[stgV (⟨xd, xn, gx, xw, xc, cx⟩ : Stg), stgV (⟨yd, yn, gy, yw, yc, cy⟩ : Stg), .int .i64 1, .func (.func 19) #[] #[.pointer (some ⟨KB, 0, none⟩), .pointer (some ⟨FB, 0, none⟩)]] W (RunOut W d l)) := by
    refine Lib.hid fun KB FB W t k1 k2 => ?_
    have := runF_made xd yd xn xw xc yn yw yc gx gy cx cy 1 W t kk bit KB FB (mFl_size kk bit) (fun i V b hb hz => change_any i kk bit KB FB hbit b hz V (cell_keep hb k1) (cell_keep hb k2)) ⟨by omega, by omega, by omega⟩ (by omega) hx hy hd hv
    rw [hr] at this
    exact this
  have SP : Hid (∀ W, Tabs W → Calls Tryd.prog 21 #[stgV (⟨xd, xn, gx, xw, xc, cx⟩ : Stg), stgV (⟨yd, yn, gy, yw, yc, cy⟩ : Stg), .int .i64 kk, .int .u16 bit] W fun e W' => e = .returned (.tuple #[.int .i64 d.state, .int .i64 l.state]) ∧ Below W.heap.size W W') := by
    refine Lib.hid fun W t => ?_
    have := spec_made kk hk4 xd yd xn xw xc yn yw yc gx gy cx cy bit hbit W t ⟨by omega, by omega, by omega⟩ (by omega) hx hy hd hv
    rw [hr] at this
    exact this
  unfold stgV at RM SP
  obtain ⟨sd, hsd⟩ : ∃ n : Nat, n = d.state := ⟨_, rfl⟩
  obtain ⟨sl, hsl⟩ : ∃ n : Nat, n = l.state := ⟨_, rfl⟩
  have STd : Hid (∀ W D, Blk W D 46 (sdC d) → Calls Tryd.prog 16 #[.pointer (some ⟨D, 0, none⟩)] W fun e w' => e = .returned (.int .i64 sd) ∧ W = w') := Lib.hid (fun W D h => by rw [hsd]; exact state_any d D W h)
  have STl : Hid (∀ W D, Blk W D 46 (sdC l) → Calls Tryd.prog 16 #[.pointer (some ⟨D, 0, none⟩)] W fun e w' => e = .returned (.int .i64 sl) ∧ W = w') := Lib.hid (fun W D h => by rw [hsl]; exact state_any l D W h)
  rw [← hsd, ← hsl] at SP
  rw [← hsd] at h1
  rw [← hsl] at h3
  have t1 : ((sd : Int) == 3) = false := beq_eq_false_iff_ne.2 (by omega)
  have u1 : ((sd : Int) != 3) = true := by rw [bne_iff_ne]; omega
  have t2 : ((kk : Int) == 3) = false := beq_eq_false_iff_ne.2 (by omega)
  have u2 : ((kk : Int) != 3) = true := by rw [bne_iff_ne]; omega
  have t3 : ((sl : Int) == 3) = true := by rw [beq_iff_eq]; omega
  have u3 : ((sl : Int) != 3) = false := by rw [bne_eq_false_iff_eq]; omega
  clear ht sx sy hlx hly hd hv lx ly hx hy hsd hsl hr hbit hk4 h1 h2 h3
  have hmf : ∀ (fn : Fn) (first cap : Array Value) (w : World), (Instr.makeFunc fn first cap).run Tryd.prog w = .ok (.func fn first cap) w := fun _ _ _ _ => rfl
  unfold stgV
  go_enter Tryd.func5, Tryd.ntmps5
  obtain ⟨c0, c1, c2, c3, c4, c5⟩ := X0.out
  obtain ⟨d0, d1, d2, d3, d4, d5⟩ := Y0.out
  dsimp only at c0 c1 c2 c3 c4 c5
  simp only [World.size_alloc] at d0 d1 d2 d3 d4 d5
  have f0 := Z0.out.cell 0
  have f1 := Z0.out.cell 1
  simp only [List.getElem?_toArray, List.getElem?_cons_zero, List.getElem?_cons_succ] at f0 f1
  simp only [World.size_alloc] at f0 f1
  go_wp2_with fail
  refine (CX.out _).mono ?_
  rintro e w1 ⟨rfl, b1⟩
  have S1 := Lib.hid (S0.out.keep b1)
  clear c0 c1 c2 c3 c4 c5 d0 d1 d2 d3 d4 d5 f0 f1
  have X1 := Lib.hid (X0.out.below b1)
  have Y1 := Lib.hid (Y0.out.below b1)
  have Z1 := Lib.hid (Z0.out.below b1 Z0.out.lt)
  obtain ⟨c0, c1, c2, c3, c4, c5⟩ := X1.out
  obtain ⟨d0, d1, d2, d3, d4, d5⟩ := Y1.out
  dsimp only at c0 c1 c2 c3 c4 c5
  simp only [World.size_alloc] at d0 d1 d2 d3 d4 d5
  have f0 := Z1.out.cell 0
  have f1 := Z1.out.cell 1
  simp only [List.getElem?_toArray, List.getElem?_cons_zero, List.getElem?_cons_succ] at f0 f1
  simp only [World.size_alloc] at f0 f1
  clear b1 S0 X0 Y0 Z0
  go_wp2_with fail
  refine (CY.out _).mono ?_
  rintro e w2 ⟨rfl, b2⟩
  have S2 := Lib.hid (S1.out.keep b2)
  clear c0 c1 c2 c3 c4 c5 d0 d1 d2 d3 d4 d5 f0 f1
  have X2 := Lib.hid (X1.out.below b2)
  have Y2 := Lib.hid (Y1.out.below b2)
  have Z2 := Lib.hid (Z1.out.below b2 Z1.out.lt)
  obtain ⟨c0, c1, c2, c3, c4, c5⟩ := X2.out
  obtain ⟨d0, d1, d2, d3, d4, d5⟩ := Y2.out
  dsimp only at c0 c1 c2 c3 c4 c5
  simp only [World.size_alloc] at d0 d1 d2 d3 d4 d5
  have f0 := Z2.out.cell 0
  have f1 := Z2.out.cell 1
  simp only [List.getElem?_toArray, List.getElem?_cons_zero, List.getElem?_cons_succ] at f0 f1
  simp only [World.size_alloc] at f0 f1
  clear b2 S1 X1 Y1 Z1
  have hz2 : w.heap.size + 1 + 1 < w2.heap.size := by have := Z2.out.lt; simpa only [World.size_alloc] using this
  have BA : Below w2.heap.size w2 (w2.alloc (.cells #[.int .i64 (kk : Int)] 3)) := (Below.refl _ _).alloc (Nat.le_refl _) _
  have X3 := Lib.hid (X2.out.below BA)
  have Y3 := Lib.hid (Y2.out.below BA)
  have Z3 := Lib.hid (Z2.out.below BA Z2.out.lt)
  have S3 := Lib.hid (S2.out.keep BA)
  have K3 := Lib.hid (Blk.new w2 3 #[.int .i64 (kk : Int)])
  clear BA
  go_upto_region 6 with (fail)
  generalize w2.alloc (.cells #[.int .i64 (kk : Int)] 3) = w3 at X3 Y3 Z3 S3 K3 ⊢
  generalize w2.heap.size = kb at K3 ⊢
  clear c0 c1 c2 c3 c4 c5 d0 d1 d2 d3 d4 d5 f0 f1
  clear X2 Y2 Z2 S2 hz2
  obtain ⟨c0, c1, c2, c3, c4, c5⟩ := X3.out
  obtain ⟨d0, d1, d2, d3, d4, d5⟩ := Y3.out
  dsimp only at c0 c1 c2 c3 c4 c5
  simp only [World.size_alloc] at d0 d1 d2 d3 d4 d5
  have f0 := Z3.out.cell 0
  have f1 := Z3.out.cell 1
  simp only [List.getElem?_toArray, List.getElem?_cons_zero, List.getElem?_cons_succ] at f0 f1
  simp only [World.size_alloc] at f0 f1
  have g0 := K3.out.cell 0
  simp only [List.getElem?_toArray, List.getElem?_cons_zero] at g0
  go_wp2_with fail
  refine (RM.out kb _ _ S3.out.tabs g0 f1).mono ?_
  rintro e w4 ⟨D, K, rfl, ss⟩
  have SS4 := Lib.hid ss
  have bb4 := ss.st.bel
  have S4 := Lib.hid (S3.out.keep bb4)
  clear c0 c1 c2 c3 c4 c5 d0 d1 d2 d3 d4 d5 f0 f1
  have X4 := Lib.hid (X3.out.below bb4)
  have Y4 := Lib.hid (Y3.out.below bb4)
  have Z4 := Lib.hid (Z3.out.below bb4 Z3.out.lt)
  have K4 := Lib.hid (K3.out.below bb4 K3.out.lt)
  clear ss bb4 X3 Y3 Z3 K3 S3 g0
  obtain ⟨c0, c1, c2, c3, c4, c5⟩ := X4.out
  obtain ⟨d0, d1, d2, d3, d4, d5⟩ := Y4.out
  dsimp only at c0 c1 c2 c3 c4 c5
  simp only [World.size_alloc] at d0 d1 d2 d3 d4 d5
  have f0 := Z4.out.cell 0
  have f1 := Z4.out.cell 1
  simp only [List.getElem?_toArray, List.getElem?_cons_zero, List.getElem?_cons_succ] at f0 f1
  simp only [World.size_alloc] at f0 f1
  have g0 := K4.out.cell 0
  simp only [List.getElem?_toArray, List.getElem?_cons_zero] at g0
  go_wp2_with fail
  refine (SP.out _ S4.out.tabs).mono ?_
  rintro e w5 ⟨rfl, b5⟩
  have SS5 := Lib.hid (SS4.out.below b5)
  have S5 := Lib.hid (S4.out.keep b5)
  have K5 := Lib.hid (K4.out.below b5 K4.out.lt)
  clear c0 c1 c2 c3 c4 c5 d0 d1 d2 d3 d4 d5 f0 f1
  clear b5 X4 Y4 Z4 K4 S4 SS4 g0
  have g0 := K5.out.cell 0
  simp only [List.getElem?_toArray, List.getElem?_cons_zero] at g0
  go_wp2_with fail
  refine (STd.out _ D (SS5.out.get 0 rfl)).mono ?_
  rintro e w' ⟨rfl, rfl⟩
  go_wp2_with fail
  refine (STl.out _ K (SS5.out.get 1 rfl)).mono ?_
  rintro e w' ⟨rfl, rfl⟩
  go_wp2_with fail
  refine (AW.out _ S5.out.tabs).mono ?_
  rintro e w6 ⟨rfl, b6⟩
  have S6 := Lib.hid (S5.out.keep b6)
  clear b6
  go_wp2
  go_ret
  exact ⟨rfl, S6.out.bel⟩
set_option maxRecDepth 100000 in
set_option maxHeartbeats 4000000 in
theorem flips_e5_p (xd yd : Bool) (xn xw xc yn yw yc : ByteArray) (gx gy cx cy : Nat) (fm : Int) (kk bit : Nat) (hbit : bit ≤ 65535) (hk4 : kk < 4) (w : World) (ht : Tabs w) (sx : StgSz (⟨xd, xn, gx, xw, xc, cx⟩ : Stg)) (sy : StgSz (⟨yd, yn, gy, yw, yc, cy⟩ : Stg)) (hlx : longB (⟨xd, xn, gx, xw, xc, cx⟩ : Stg) = false) (hly : longB (⟨yd, yn, gy, yw, yc, cy⟩ : Stg) = false) (htm : Int.tmod fm 4 = (kk : Int)) (hneg : decide ((kk : Int) < 0) = false)
    (hx : cx ≤ 18446744073709551615) (hy : cy ≤ 18446744073709551615) (hd : dialB xn gx xw = true) (hv : (nameF yn && genI gy) = true) (d l : Sd) (said : List ByteArray) (hr : runF (dialS ⟨xn, gx⟩ xw xc cx) (listenS ⟨yn, gy⟩ yc cy) (helloF ⟨xn, gx⟩ xw) 1 (mFl kk bit) = (d, l, said)) (h1 : d.state ≠ 3) (h2 : kk ≠ 3) (h3 : l.state ≠ 3) :
    Calls Tryd.prog 5 #[stgV (⟨xd, xn, gx, xw, xc, cx⟩ : Stg), stgV (⟨yd, yn, gy, yw, yc, cy⟩ : Stg), .agg #[.int .i64 fm, .int .u16 (bit : Int)]] w fun e w' => e = .returned (.bool true) ∧ Below w.heap.size w w' := by
  have X0 := Lib.hid (Bx.of (x := (⟨xd, xn, gx, xw, xc, cx⟩ : Stg)) (((Blk.new w 26 #[.bool xd, .string xn, .int .i64 gx, .string xw, .string xc, .int .u64 (cx : Int)]).alloc (.cells #[.bool yd, .string yn, .int .i64 gy, .string yw, .string yc, .int .u64 (cy : Int)] 26)).alloc (.cells #[.int .i64 fm, .int .u16 (bit : Int)] 49)))
  have Y0 := Lib.hid (Bx.of (x := (⟨yd, yn, gy, yw, yc, cy⟩ : Stg)) ((Blk.new (w.alloc (.cells #[.bool xd, .string xn, .int .i64 gx, .string xw, .string xc, .int .u64 (cx : Int)] 26)) 26 #[.bool yd, .string yn, .int .i64 gy, .string yw, .string yc, .int .u64 (cy : Int)]).alloc (.cells #[.int .i64 fm, .int .u16 (bit : Int)] 49)))
  have Z0 := Lib.hid (Blk.new ((w.alloc (.cells #[.bool xd, .string xn, .int .i64 gx, .string xw, .string xc, .int .u64 (cx : Int)] 26)).alloc (.cells #[.bool yd, .string yn, .int .i64 gy, .string yw, .string yc, .int .u64 (cy : Int)] 26)) 49 #[.int .i64 fm, .int .u16 (bit : Int)])
  have S0 := Lib.hid ((((St.refl ht).alloc (.cells #[.bool xd, .string xn, .int .i64 gx, .string xw, .string xc, .int .u64 (cx : Int)] 26)).alloc (.cells #[.bool yd, .string yn, .int .i64 gy, .string yw, .string yc, .int .u64 (cy : Int)] 26)).alloc (.cells #[.int .i64 fm, .int .u16 (bit : Int)] 49))
  have CX : Hid (∀ W, Calls Tryd.prog 10 #[.agg #[.bool xd, .string xn, .int .i64 gx, .string xw, .string xc, .int .u64 (cx : Int)], .slice none 0 0] W fun e w' => e = .returned (.bool false) ∧ Below W.heap.size W w') := by
    refine Lib.hid fun W => ?_
    have := longN_any (⟨xd, xn, gx, xw, xc, cx⟩ : Stg) sx.n sx.w sx.c W
    rw [hlx] at this
    exact this
  have CY : Hid (∀ W, Calls Tryd.prog 10 #[.agg #[.bool yd, .string yn, .int .i64 gy, .string yw, .string yc, .int .u64 (cy : Int)], .slice none 0 0] W fun e w' => e = .returned (.bool false) ∧ Below W.heap.size W w') := by
    refine Lib.hid fun W => ?_
    have := longN_any (⟨yd, yn, gy, yw, yc, cy⟩ : Stg) sy.n sy.w sy.c W
    rw [hly] at this
    exact this
  have AW := Lib.hid (fun W (t : Tabs W) => awakeS_any W t)
  have hkz : (kk : Int) ≤ 3 := by omega
  have hkw : wrap64 (kk : Int) = kk := by unfold wrap64; omega
  have lx : xw.size + xc.size + xn.size ≤ 6000 := by
    have := of_decide_eq_false hlx
    dsimp only at this
    omega
  have ly : yw.size + yc.size + yn.size ≤ 6000 := by
    have := of_decide_eq_false hly
    dsimp only at this
    omega
  have RM : Hid (∀ KB FB W, Tabs W → W.cell? ⟨KB, 0, none⟩ = some (.int .i64 kk) → W.cell? ⟨FB, 1, none⟩ = some (.int .u16 bit) → Calls Tryd.prog 18 #[stgV (⟨xd, xn, gx, xw, xc, cx⟩ : Stg), stgV (⟨yd, yn, gy, yw, yc, cy⟩ : Stg), .int .i64 1, .func (.func 19) #[] #[.pointer (some ⟨KB, 0, none⟩), .pointer (some ⟨FB, 0, none⟩)]] W (RunOut W d l)) := by
    refine Lib.hid fun KB FB W t k1 k2 => ?_
    have := runF_made xd yd xn xw xc yn yw yc gx gy cx cy 1 W t kk bit KB FB (mFl_size kk bit) (fun i V b hb hz => change_any i kk bit KB FB hbit b hz V (cell_keep hb k1) (cell_keep hb k2)) ⟨by omega, by omega, by omega⟩ (by omega) hx hy hd hv
    rw [hr] at this
    exact this
  have SP : Hid (∀ W, Tabs W → Calls Tryd.prog 21 #[stgV (⟨xd, xn, gx, xw, xc, cx⟩ : Stg), stgV (⟨yd, yn, gy, yw, yc, cy⟩ : Stg), .int .i64 kk, .int .u16 bit] W fun e W' => e = .returned (.tuple #[.int .i64 d.state, .int .i64 l.state]) ∧ Below W.heap.size W W') := by
    refine Lib.hid fun W t => ?_
    have := spec_made kk hk4 xd yd xn xw xc yn yw yc gx gy cx cy bit hbit W t ⟨by omega, by omega, by omega⟩ (by omega) hx hy hd hv
    rw [hr] at this
    exact this
  unfold stgV at RM SP
  obtain ⟨sd, hsd⟩ : ∃ n : Nat, n = d.state := ⟨_, rfl⟩
  obtain ⟨sl, hsl⟩ : ∃ n : Nat, n = l.state := ⟨_, rfl⟩
  have STd : Hid (∀ W D, Blk W D 46 (sdC d) → Calls Tryd.prog 16 #[.pointer (some ⟨D, 0, none⟩)] W fun e w' => e = .returned (.int .i64 sd) ∧ W = w') := Lib.hid (fun W D h => by rw [hsd]; exact state_any d D W h)
  have STl : Hid (∀ W D, Blk W D 46 (sdC l) → Calls Tryd.prog 16 #[.pointer (some ⟨D, 0, none⟩)] W fun e w' => e = .returned (.int .i64 sl) ∧ W = w') := Lib.hid (fun W D h => by rw [hsl]; exact state_any l D W h)
  rw [← hsd, ← hsl] at SP
  rw [← hsd] at h1
  rw [← hsl] at h3
  have t1 : ((sd : Int) == 3) = false := beq_eq_false_iff_ne.2 (by omega)
  have u1 : ((sd : Int) != 3) = true := by rw [bne_iff_ne]; omega
  have t2 : ((kk : Int) == 3) = false := beq_eq_false_iff_ne.2 (by omega)
  have u2 : ((kk : Int) != 3) = true := by rw [bne_iff_ne]; omega
  have t3 : ((sl : Int) == 3) = false := beq_eq_false_iff_ne.2 (by omega)
  have u3 : ((sl : Int) != 3) = true := by rw [bne_iff_ne]; omega
  clear ht sx sy hlx hly hd hv lx ly hx hy hsd hsl hr hbit hk4 h1 h2 h3
  have hmf : ∀ (fn : Fn) (first cap : Array Value) (w : World), (Instr.makeFunc fn first cap).run Tryd.prog w = .ok (.func fn first cap) w := fun _ _ _ _ => rfl
  unfold stgV
  go_enter Tryd.func5, Tryd.ntmps5
  obtain ⟨c0, c1, c2, c3, c4, c5⟩ := X0.out
  obtain ⟨d0, d1, d2, d3, d4, d5⟩ := Y0.out
  dsimp only at c0 c1 c2 c3 c4 c5
  simp only [World.size_alloc] at d0 d1 d2 d3 d4 d5
  have f0 := Z0.out.cell 0
  have f1 := Z0.out.cell 1
  simp only [List.getElem?_toArray, List.getElem?_cons_zero, List.getElem?_cons_succ] at f0 f1
  simp only [World.size_alloc] at f0 f1
  go_wp2_with fail
  refine (CX.out _).mono ?_
  rintro e w1 ⟨rfl, b1⟩
  have S1 := Lib.hid (S0.out.keep b1)
  clear c0 c1 c2 c3 c4 c5 d0 d1 d2 d3 d4 d5 f0 f1
  have X1 := Lib.hid (X0.out.below b1)
  have Y1 := Lib.hid (Y0.out.below b1)
  have Z1 := Lib.hid (Z0.out.below b1 Z0.out.lt)
  obtain ⟨c0, c1, c2, c3, c4, c5⟩ := X1.out
  obtain ⟨d0, d1, d2, d3, d4, d5⟩ := Y1.out
  dsimp only at c0 c1 c2 c3 c4 c5
  simp only [World.size_alloc] at d0 d1 d2 d3 d4 d5
  have f0 := Z1.out.cell 0
  have f1 := Z1.out.cell 1
  simp only [List.getElem?_toArray, List.getElem?_cons_zero, List.getElem?_cons_succ] at f0 f1
  simp only [World.size_alloc] at f0 f1
  clear b1 S0 X0 Y0 Z0
  go_wp2_with fail
  refine (CY.out _).mono ?_
  rintro e w2 ⟨rfl, b2⟩
  have S2 := Lib.hid (S1.out.keep b2)
  clear c0 c1 c2 c3 c4 c5 d0 d1 d2 d3 d4 d5 f0 f1
  have X2 := Lib.hid (X1.out.below b2)
  have Y2 := Lib.hid (Y1.out.below b2)
  have Z2 := Lib.hid (Z1.out.below b2 Z1.out.lt)
  obtain ⟨c0, c1, c2, c3, c4, c5⟩ := X2.out
  obtain ⟨d0, d1, d2, d3, d4, d5⟩ := Y2.out
  dsimp only at c0 c1 c2 c3 c4 c5
  simp only [World.size_alloc] at d0 d1 d2 d3 d4 d5
  have f0 := Z2.out.cell 0
  have f1 := Z2.out.cell 1
  simp only [List.getElem?_toArray, List.getElem?_cons_zero, List.getElem?_cons_succ] at f0 f1
  simp only [World.size_alloc] at f0 f1
  clear b2 S1 X1 Y1 Z1
  have hz2 : w.heap.size + 1 + 1 < w2.heap.size := by have := Z2.out.lt; simpa only [World.size_alloc] using this
  have BA : Below w2.heap.size w2 (w2.alloc (.cells #[.int .i64 (kk : Int)] 3)) := (Below.refl _ _).alloc (Nat.le_refl _) _
  have X3 := Lib.hid (X2.out.below BA)
  have Y3 := Lib.hid (Y2.out.below BA)
  have Z3 := Lib.hid (Z2.out.below BA Z2.out.lt)
  have S3 := Lib.hid (S2.out.keep BA)
  have K3 := Lib.hid (Blk.new w2 3 #[.int .i64 (kk : Int)])
  clear BA
  go_upto_region 6 with (fail)
  generalize w2.alloc (.cells #[.int .i64 (kk : Int)] 3) = w3 at X3 Y3 Z3 S3 K3 ⊢
  generalize w2.heap.size = kb at K3 ⊢
  clear c0 c1 c2 c3 c4 c5 d0 d1 d2 d3 d4 d5 f0 f1
  clear X2 Y2 Z2 S2 hz2
  obtain ⟨c0, c1, c2, c3, c4, c5⟩ := X3.out
  obtain ⟨d0, d1, d2, d3, d4, d5⟩ := Y3.out
  dsimp only at c0 c1 c2 c3 c4 c5
  simp only [World.size_alloc] at d0 d1 d2 d3 d4 d5
  have f0 := Z3.out.cell 0
  have f1 := Z3.out.cell 1
  simp only [List.getElem?_toArray, List.getElem?_cons_zero, List.getElem?_cons_succ] at f0 f1
  simp only [World.size_alloc] at f0 f1
  have g0 := K3.out.cell 0
  simp only [List.getElem?_toArray, List.getElem?_cons_zero] at g0
  go_wp2_with fail
  refine (RM.out kb _ _ S3.out.tabs g0 f1).mono ?_
  rintro e w4 ⟨D, K, rfl, ss⟩
  have SS4 := Lib.hid ss
  have bb4 := ss.st.bel
  have S4 := Lib.hid (S3.out.keep bb4)
  clear c0 c1 c2 c3 c4 c5 d0 d1 d2 d3 d4 d5 f0 f1
  have X4 := Lib.hid (X3.out.below bb4)
  have Y4 := Lib.hid (Y3.out.below bb4)
  have Z4 := Lib.hid (Z3.out.below bb4 Z3.out.lt)
  have K4 := Lib.hid (K3.out.below bb4 K3.out.lt)
  clear ss bb4 X3 Y3 Z3 K3 S3 g0
  obtain ⟨c0, c1, c2, c3, c4, c5⟩ := X4.out
  obtain ⟨d0, d1, d2, d3, d4, d5⟩ := Y4.out
  dsimp only at c0 c1 c2 c3 c4 c5
  simp only [World.size_alloc] at d0 d1 d2 d3 d4 d5
  have f0 := Z4.out.cell 0
  have f1 := Z4.out.cell 1
  simp only [List.getElem?_toArray, List.getElem?_cons_zero, List.getElem?_cons_succ] at f0 f1
  simp only [World.size_alloc] at f0 f1
  have g0 := K4.out.cell 0
  simp only [List.getElem?_toArray, List.getElem?_cons_zero] at g0
  go_wp2_with fail
  refine (SP.out _ S4.out.tabs).mono ?_
  rintro e w5 ⟨rfl, b5⟩
  have SS5 := Lib.hid (SS4.out.below b5)
  have S5 := Lib.hid (S4.out.keep b5)
  have K5 := Lib.hid (K4.out.below b5 K4.out.lt)
  clear c0 c1 c2 c3 c4 c5 d0 d1 d2 d3 d4 d5 f0 f1
  clear b5 X4 Y4 Z4 K4 S4 SS4 g0
  have g0 := K5.out.cell 0
  simp only [List.getElem?_toArray, List.getElem?_cons_zero] at g0
  go_wp2_with fail
  refine (STd.out _ D (SS5.out.get 0 rfl)).mono ?_
  rintro e w' ⟨rfl, rfl⟩
  go_wp2_with fail
  refine (STl.out _ K (SS5.out.get 1 rfl)).mono ?_
  rintro e w' ⟨rfl, rfl⟩
  go_wp2_with fail
  refine (AW.out _ S5.out.tabs).mono ?_
  rintro e w6 ⟨rfl, b6⟩
  have S6 := Lib.hid (S5.out.keep b6)
  clear b6
  go_wp2
  go_ret
  exact ⟨rfl, S6.out.bel⟩
/-- Every case. -/
theorem flips_walk (x y : Stg) (ox : StgOk x) (oy : StgOk y) (fm : Int) (bit : Nat) (hbit : bit ≤ 65535) (w : World) (ht : Tabs w) (sx : StgSz x) (sy : StgSz y) :
    Calls Tryd.prog 5 #[stgV x, stgV y, .agg #[.int .i64 fm, .int .u16 (bit : Int)]] w fun e w' => e = .returned (.bool true) ∧ Below w.heap.size w w' := by
  cases hl : (longB x || longB y) with
  | true => exact flips_long x y fm bit w ht sx sy hl
  | false =>
    rw [Bool.or_eq_false_iff] at hl
    obtain ⟨xd, xn, gx, xw, xc, cx⟩ := x
    obtain ⟨yd, yn, gy, yw, yc, cy⟩ := y
    obtain ⟨cx, rfl, hx⟩ := u64_nat ox.c
    obtain ⟨cy, rfl, hy⟩ := u64_nat oy.c
    have hm1 : Int.tmod fm 4 < 4 := Int.tmod_lt_of_pos fm (by decide)
    have hm2 : -4 < Int.tmod fm 4 := by
      have := Int.tmod_lt_of_pos (-fm) (b := 4) (by decide)
      rw [Int.neg_tmod] at this
      omega
    by_cases hneg : Int.tmod fm 4 < 0
    · obtain ⟨kk, hkk⟩ : ∃ kk : Nat, Int.tmod fm 4 + 4 = kk := ⟨(Int.tmod fm 4 + 4).toNat, by omega⟩
      have hk : kk < 4 := by omega
      cases hd : dialB xn gx xw with
      | false => exact flips_nodial_n xd yd xn xw xc yn yw yc gx gy cx cy fm kk bit hbit hk w ht sx sy hl.1 hl.2 _ rfl (decide_eq_true hneg) hm2 hkk hd
      | true =>
        obtain ⟨gx, rfl, _⟩ := dialB_nat hd
        cases hv : (nameF yn && genI gy) with
        | false => exact flips_nolisten_n xd yd xn xw xc yn yw yc gx gy cx cy fm kk bit hbit hk w ht sx sy hl.1 hl.2 _ rfl (decide_eq_true hneg) hm2 hkk hd hv
        | true =>
          obtain ⟨gy, rfl, _⟩ := genI_nat (by rw [Bool.and_eq_true] at hv; exact hv.2)
          obtain ⟨⟨d, l, said⟩, hr⟩ : ∃ r, runF (dialS ⟨xn, gx⟩ xw xc cx) (listenS ⟨yn, gy⟩ yc cy) (helloF ⟨xn, gx⟩ xw) 1 (mFl kk bit) = r := ⟨_, rfl⟩
          by_cases h1 : d.state = 3 <;> by_cases h2 : kk = 3
          · exact flips_d3_n xd yd xn xw xc yn yw yc gx gy cx cy fm kk bit hbit hk w ht sx sy hl.1 hl.2 _ rfl (decide_eq_true hneg) hm2 hkk hx hy hd hv d l said hr h1 h2
          · by_cases h3 : l.state = 3
            · exact flips_d4_n xd yd xn xw xc yn yw yc gx gy cx cy fm kk bit hbit hk w ht sx sy hl.1 hl.2 _ rfl (decide_eq_true hneg) hm2 hkk hx hy hd hv d l said hr h1 h2 h3
            · exact flips_d5_n xd yd xn xw xc yn yw yc gx gy cx cy fm kk bit hbit hk w ht sx sy hl.1 hl.2 _ rfl (decide_eq_true hneg) hm2 hkk hx hy hd hv d l said hr h1 h2 h3
          · exact flips_e3_n xd yd xn xw xc yn yw yc gx gy cx cy fm kk bit hbit hk w ht sx sy hl.1 hl.2 _ rfl (decide_eq_true hneg) hm2 hkk hx hy hd hv d l said hr h1 h2
          · by_cases h3 : l.state = 3
            · exact flips_e4_n xd yd xn xw xc yn yw yc gx gy cx cy fm kk bit hbit hk w ht sx sy hl.1 hl.2 _ rfl (decide_eq_true hneg) hm2 hkk hx hy hd hv d l said hr h1 h2 h3
            · exact flips_e5_n xd yd xn xw xc yn yw yc gx gy cx cy fm kk bit hbit hk w ht sx sy hl.1 hl.2 _ rfl (decide_eq_true hneg) hm2 hkk hx hy hd hv d l said hr h1 h2 h3
    · obtain ⟨kk, hkk⟩ : ∃ kk : Nat, Int.tmod fm 4 = kk := ⟨(Int.tmod fm 4).toNat, by omega⟩
      have hk : kk < 4 := by omega
      cases hd : dialB xn gx xw with
      | false => exact flips_nodial_p xd yd xn xw xc yn yw yc gx gy cx cy fm kk bit hbit hk w ht sx sy hl.1 hl.2 hkk (decide_eq_false (by omega)) hd
      | true =>
        obtain ⟨gx, rfl, _⟩ := dialB_nat hd
        cases hv : (nameF yn && genI gy) with
        | false => exact flips_nolisten_p xd yd xn xw xc yn yw yc gx gy cx cy fm kk bit hbit hk w ht sx sy hl.1 hl.2 hkk (decide_eq_false (by omega)) hd hv
        | true =>
          obtain ⟨gy, rfl, _⟩ := genI_nat (by rw [Bool.and_eq_true] at hv; exact hv.2)
          obtain ⟨⟨d, l, said⟩, hr⟩ : ∃ r, runF (dialS ⟨xn, gx⟩ xw xc cx) (listenS ⟨yn, gy⟩ yc cy) (helloF ⟨xn, gx⟩ xw) 1 (mFl kk bit) = r := ⟨_, rfl⟩
          by_cases h1 : d.state = 3 <;> by_cases h2 : kk = 3
          · exact flips_d3_p xd yd xn xw xc yn yw yc gx gy cx cy fm kk bit hbit hk w ht sx sy hl.1 hl.2 hkk (decide_eq_false (by omega)) hx hy hd hv d l said hr h1 h2
          · by_cases h3 : l.state = 3
            · exact flips_d4_p xd yd xn xw xc yn yw yc gx gy cx cy fm kk bit hbit hk w ht sx sy hl.1 hl.2 hkk (decide_eq_false (by omega)) hx hy hd hv d l said hr h1 h2 h3
            · exact flips_d5_p xd yd xn xw xc yn yw yc gx gy cx cy fm kk bit hbit hk w ht sx sy hl.1 hl.2 hkk (decide_eq_false (by omega)) hx hy hd hv d l said hr h1 h2 h3
          · exact flips_e3_p xd yd xn xw xc yn yw yc gx gy cx cy fm kk bit hbit hk w ht sx sy hl.1 hl.2 hkk (decide_eq_false (by omega)) hx hy hd hv d l said hr h1 h2
          · by_cases h3 : l.state = 3
            · exact flips_e4_p xd yd xn xw xc yn yw yc gx gy cx cy fm kk bit hbit hk w ht sx sy hl.1 hl.2 hkk (decide_eq_false (by omega)) hx hy hd hv d l said hr h1 h2 h3
            · exact flips_e5_p xd yd xn xw xc yn yw yc gx gy cx cy fm kk bit hbit hk w ht sx sy hl.1 hl.2 hkk (decide_eq_false (by omega)) hx hy hd hv d l said hr h1 h2 h3
end Go.Proofs.YtnkkbkceapcahaaDoor
