/- ShakeReplays: the walk. -/
import Derived.Test.YtnkkbkceapcahaaDoorReplay
namespace Go.Proofs.YtnkkbkceapcahaaDoor
open Go.RowKit Go.Rt Go.Rw

theorem cell_only {bs : List Nat} {W W' : World} {p : Addr} {v : Value} (h : Only bs W W') (hc : W.cell? p = some v) (hb : p.block ∉ bs) : W'.cell? p = some v := by
  have hlt := World.block_lt_of_cell? W p hc
  have := h.block p.block hlt hb
  unfold World.cell? at hc ⊢
  rw [this]
  exact hc
set_option maxRecDepth 100000 in
set_option maxHeartbeats 4000000 in
theorem replays_long (x y : Stg) (o : Nat) (w : World) (ht : Tabs w) (sx : StgSz x) (sy : StgSz y) (h : (longB x || longB y) = true) :
    Calls Tryd.prog 6 #[stgV x, stgV y, .int .u64 (o : Int)] w fun e w' => e = .returned (.bool true) ∧ Below w.heap.size w w' := by
  have X0 := Bx.of (x := x) ((Blk.new w 26 #[.bool x.dials, .string x.name, .int .i64 x.gen, .string x.want, .string x.cookie, .int .u64 x.chal]).alloc (.cells #[.bool y.dials, .string y.name, .int .i64 y.gen, .string y.want, .string y.cookie, .int .u64 y.chal] 26))
  have CX := Lib.hid (fun W => longN_any x sx.n sx.w sx.c W)
  have CY := Lib.hid (fun W => longN_any y sy.n sy.w sy.c W)
  have S0 := Lib.hid (((St.refl ht).alloc (.cells #[.bool x.dials, .string x.name, .int .i64 x.gen, .string x.want, .string x.cookie, .int .u64 x.chal] 26)).alloc (.cells #[.bool y.dials, .string y.name, .int .i64 y.gen, .string y.want, .string y.cookie, .int .u64 y.chal] 26))
  have AW := Lib.hid (fun W (t : Tabs W) => awakeS_any W t)
  clear ht sx sy X0
  cases hx : longB x with
  | true =>
    rw [hx] at CX
    clear h hx CY
    unfold stgV
    go_enter Tryd.func6, Tryd.ntmps6
    go_wp2_with fail
    refine (CX.out _).mono ?_
    rintro e w1 ⟨rfl, b1⟩
    have S1 := Lib.hid (S0.out.keep b1)
    clear b1 S0
    go_wp2_with fail
    refine (AW.out _ S1.out.tabs).mono ?_
    rintro e w2 ⟨rfl, b2⟩
    have S2 := Lib.hid (S1.out.keep b2)
    clear b2
    go_wp2
    go_ret
    exact ⟨rfl, S2.out.bel⟩
  | false =>
    rw [hx, Bool.false_or] at h
    rw [hx] at CX
    rw [h] at CY
    clear h hx
    have Y0 := Lib.hid (Bx.of (x := y) (Blk.new (w.alloc (.cells #[.bool x.dials, .string x.name, .int .i64 x.gen, .string x.want, .string x.cookie, .int .u64 x.chal] 26)) 26 #[.bool y.dials, .string y.name, .int .i64 y.gen, .string y.want, .string y.cookie, .int .u64 y.chal]))
    unfold stgV
    go_enter Tryd.func6, Tryd.ntmps6
    go_wp2_with fail
    refine (CX.out _).mono ?_
    rintro e w1 ⟨rfl, b1⟩
    have S1 := Lib.hid (S0.out.keep b1)
    obtain ⟨d0, d1, d2, d3, d4, d5⟩ := Y0.out.below b1
    simp only [World.size_alloc] at d0 d1 d2 d3 d4 d5
    clear b1 S0 Y0
    go_wp2_with fail
    refine (CY.out _).mono ?_
    rintro e w2 ⟨rfl, b2⟩
    have S2 := Lib.hid (S1.out.keep b2)
    clear b2 S1
    go_wp2_with fail
    refine (AW.out _ S2.out.tabs).mono ?_
    rintro e w3 ⟨rfl, b3⟩
    have S3 := Lib.hid (S2.out.keep b3)
    clear b3
    go_wp2
    go_ret
    exact ⟨rfl, S3.out.bel⟩
set_option maxRecDepth 100000 in
set_option maxHeartbeats 4000000 in
theorem replays_nodial (xd yd : Bool) (xn xw xc yn yw yc : ByteArray) (gx gy : Int) (cx cy : Nat) (o : Nat) (w : World) (ht : Tabs w) (sx : StgSz (⟨xd, xn, gx, xw, xc, cx⟩ : Stg)) (sy : StgSz (⟨yd, yn, gy, yw, yc, cy⟩ : Stg)) (hlx : longB (⟨xd, xn, gx, xw, xc, cx⟩ : Stg) = false) (hly : longB (⟨yd, yn, gy, yw, yc, cy⟩ : Stg) = false) (hd : dialB xn gx xw = false) :
    Calls Tryd.prog 6 #[stgV (⟨xd, xn, gx, xw, xc, cx⟩ : Stg), stgV (⟨yd, yn, gy, yw, yc, cy⟩ : Stg), .int .u64 (o : Int)] w fun e w' => e = .returned (.bool true) ∧ Below w.heap.size w w' := by
  have X0 := Lib.hid (Bx.of (x := (⟨xd, xn, gx, xw, xc, cx⟩ : Stg)) ((Blk.new w 26 #[.bool xd, .string xn, .int .i64 gx, .string xw, .string xc, .int .u64 (cx : Int)]).alloc (.cells #[.bool yd, .string yn, .int .i64 gy, .string yw, .string yc, .int .u64 (cy : Int)] 26)))
  have Y0 := Lib.hid (Bx.of (x := (⟨yd, yn, gy, yw, yc, cy⟩ : Stg)) (Blk.new (w.alloc (.cells #[.bool xd, .string xn, .int .i64 gx, .string xw, .string xc, .int .u64 (cx : Int)] 26)) 26 #[.bool yd, .string yn, .int .i64 gy, .string yw, .string yc, .int .u64 (cy : Int)]))
  have S0 := Lib.hid (((St.refl ht).alloc (.cells #[.bool xd, .string xn, .int .i64 gx, .string xw, .string xc, .int .u64 (cx : Int)] 26)).alloc (.cells #[.bool yd, .string yn, .int .i64 gy, .string yw, .string yc, .int .u64 (cy : Int)] 26))
  have CX : Hid (∀ W, Calls Tryd.prog 10 #[.agg #[.bool xd, .string xn, .int .i64 gx, .string xw, .string xc, .int .u64 (cx : Int)], .slice none 0 0] W fun e w' => e = .returned (.bool false) ∧ Below W.heap.size W w') := by
    refine Lib.hid fun W => ?_
    have := longN_any (⟨xd, xn, gx, xw, xc, cx⟩ : Stg) sx.n sx.w sx.c W
    rw [hlx] at this
    exact this
  have CY : Hid (∀ W, Calls Tryd.prog 10 #[.agg #[.bool yd, .string yn, .int .i64 gy, .string yw, .string yc, .int .u64 (cy : Int)], .slice none 0 0] W fun e w' => e = .returned (.bool false) ∧ Below W.heap.size W w') := by
    refine Lib.hid fun W => ?_
    have := longN_any (⟨yd, yn, gy, yw, yc, cy⟩ : Stg) sy.n sy.w sy.c W
    rw [hly] at this
    exact this
  have AW := Lib.hid (fun W (t : Tabs W) => awakeS_any W t)
  have RN := Lib.hid (fun N W (t : Tabs W) => runR_nodial N xd yd xn xw xc yn yw yc gx gy cx cy 1 W t hd)
  unfold stgV at RN
  clear ht sx sy hlx hly hd
  have hmf : ∀ (fn : Fn) (first cap : Array Value) (w : World), (Instr.makeFunc fn first cap).run Tryd.prog w = .ok (.func fn first cap) w := fun _ _ _ _ => rfl
  unfold stgV
  go_enter Tryd.func6, Tryd.ntmps6
  obtain ⟨c0, c1, c2, c3, c4, c5⟩ := X0.out
  obtain ⟨d0, d1, d2, d3, d4, d5⟩ := Y0.out
  dsimp only at c0 c1 c2 c3 c4 c5
  simp only [World.size_alloc] at d0 d1 d2 d3 d4 d5
  go_wp2_with fail
  refine (CX.out _).mono ?_
  rintro e w1 ⟨rfl, b1⟩
  have S1 := Lib.hid (S0.out.keep b1)
  clear c0 c1 c2 c3 c4 c5 d0 d1 d2 d3 d4 d5
  have X1 := Lib.hid (X0.out.below b1)
  have Y1 := Lib.hid (Y0.out.below b1)
  obtain ⟨c0, c1, c2, c3, c4, c5⟩ := X1.out
  obtain ⟨d0, d1, d2, d3, d4, d5⟩ := Y1.out
  dsimp only at c0 c1 c2 c3 c4 c5
  simp only [World.size_alloc] at d0 d1 d2 d3 d4 d5
  clear b1 S0 X0 Y0
  go_wp2_with fail
  refine (CY.out _).mono ?_
  rintro e w2 ⟨rfl, b2⟩
  have S2 := Lib.hid (S1.out.keep b2)
  clear c0 c1 c2 c3 c4 c5 d0 d1 d2 d3 d4 d5
  have X2 := Lib.hid (X1.out.below b2)
  have Y2 := Lib.hid (Y1.out.below b2)
  obtain ⟨c0, c1, c2, c3, c4, c5⟩ := X2.out
  obtain ⟨d0, d1, d2, d3, d4, d5⟩ := Y2.out
  dsimp only at c0 c1 c2 c3 c4 c5
  simp only [World.size_alloc] at d0 d1 d2 d3 d4 d5
  clear b2 S1 X1 Y1
  have BA : Below w2.heap.size w2 (w2.alloc (.cells #[.slice none 0 0] 57)) := (Below.refl _ _).alloc (Nat.le_refl _) _
  have X3 := Lib.hid (X2.out.below BA)
  have Y3 := Lib.hid (Y2.out.below BA)
  have S3 := Lib.hid (S2.out.keep BA)
  have Q3 := Lib.hid ((St.refl S2.out.tabs).keep BA)
  have N3 := Lib.hid (Boxed.new w2 57 (.slice none 0 0))
  have T2 := Lib.hid S2.out.tabs
  have hxy : Hid (w.heap.size < w2.heap.size ∧ w.heap.size + 1 < w2.heap.size) := Lib.hid ⟨World.block_lt_of_cell? w2 _ c0, World.block_lt_of_cell? w2 _ d0⟩
  clear BA
  go_upto_region 4 with (fail)
  generalize w2.alloc (.cells #[.slice none 0 0] 57) = w3 at X3 Y3 S3 Q3 N3 ⊢
  clear c0 c1 c2 c3 c4 c5 d0 d1 d2 d3 d4 d5
  clear X2 Y2
  obtain ⟨c0, c1, c2, c3, c4, c5⟩ := X3.out
  obtain ⟨d0, d1, d2, d3, d4, d5⟩ := Y3.out
  dsimp only at c0 c1 c2 c3 c4 c5
  simp only [World.size_alloc] at d0 d1 d2 d3 d4 d5
  go_wp2_with fail
  refine (RN.out _ _ S3.out.tabs).mono ?_
  rintro e w4 ⟨rfl, b4⟩
  have S4 := Lib.hid (S3.out.keep b4)
  clear c0 c1 c2 c3 c4 c5 d0 d1 d2 d3 d4 d5
  clear b4 X3 Y3 N3 Q3 T2
  go_wp2_with fail
  refine (AW.out _ S4.out.tabs).mono ?_
  rintro e wl ⟨rfl, bl⟩
  have SL := Lib.hid (S4.out.keep bl)
  clear bl
  go_wp2
  go_ret
  exact ⟨rfl, SL.out.bel⟩
set_option maxRecDepth 100000 in
set_option maxHeartbeats 4000000 in
theorem replays_nolisten (xd yd : Bool) (xn xw xc yn yw yc : ByteArray) (gx : Nat) (gy : Int) (cx cy : Nat) (o : Nat) (w : World) (ht : Tabs w) (sx : StgSz (⟨xd, xn, gx, xw, xc, cx⟩ : Stg)) (sy : StgSz (⟨yd, yn, gy, yw, yc, cy⟩ : Stg)) (hlx : longB (⟨xd, xn, gx, xw, xc, cx⟩ : Stg) = false) (hly : longB (⟨yd, yn, gy, yw, yc, cy⟩ : Stg) = false) (hd : dialB xn gx xw = true) (hv : (nameF yn && genI gy) = false) :
    Calls Tryd.prog 6 #[stgV (⟨xd, xn, gx, xw, xc, cx⟩ : Stg), stgV (⟨yd, yn, gy, yw, yc, cy⟩ : Stg), .int .u64 (o : Int)] w fun e w' => e = .returned (.bool true) ∧ Below w.heap.size w w' := by
  have X0 := Lib.hid (Bx.of (x := (⟨xd, xn, gx, xw, xc, cx⟩ : Stg)) ((Blk.new w 26 #[.bool xd, .string xn, .int .i64 gx, .string xw, .string xc, .int .u64 (cx : Int)]).alloc (.cells #[.bool yd, .string yn, .int .i64 gy, .string yw, .string yc, .int .u64 (cy : Int)] 26)))
  have Y0 := Lib.hid (Bx.of (x := (⟨yd, yn, gy, yw, yc, cy⟩ : Stg)) (Blk.new (w.alloc (.cells #[.bool xd, .string xn, .int .i64 gx, .string xw, .string xc, .int .u64 (cx : Int)] 26)) 26 #[.bool yd, .string yn, .int .i64 gy, .string yw, .string yc, .int .u64 (cy : Int)]))
  have S0 := Lib.hid (((St.refl ht).alloc (.cells #[.bool xd, .string xn, .int .i64 gx, .string xw, .string xc, .int .u64 (cx : Int)] 26)).alloc (.cells #[.bool yd, .string yn, .int .i64 gy, .string yw, .string yc, .int .u64 (cy : Int)] 26))
  have CX : Hid (∀ W, Calls Tryd.prog 10 #[.agg #[.bool xd, .string xn, .int .i64 gx, .string xw, .string xc, .int .u64 (cx : Int)], .slice none 0 0] W fun e w' => e = .returned (.bool false) ∧ Below W.heap.size W w') := by
    refine Lib.hid fun W => ?_
    have := longN_any (⟨xd, xn, gx, xw, xc, cx⟩ : Stg) sx.n sx.w sx.c W
    rw [hlx] at this
    exact this
  have CY : Hid (∀ W, Calls Tryd.prog 10 #[.agg #[.bool yd, .string yn, .int .i64 gy, .string yw, .string yc, .int .u64 (cy : Int)], .slice none 0 0] W fun e w' => e = .returned (.bool false) ∧ Below W.heap.size W w') := by
    refine Lib.hid fun W => ?_
    have := longN_any (⟨yd, yn, gy, yw, yc, cy⟩ : Stg) sy.n sy.w sy.c W
    rw [hly] at this
    exact this
  have AW := Lib.hid (fun W (t : Tabs W) => awakeS_any W t)
  have RN := Lib.hid (fun N W (t : Tabs W) => runR_nolisten N xd yd xn xw xc yn yw yc gx gy cx cy 1 W t hd hv)
  unfold stgV at RN
  clear ht sx sy hlx hly hd
  have hmf : ∀ (fn : Fn) (first cap : Array Value) (w : World), (Instr.makeFunc fn first cap).run Tryd.prog w = .ok (.func fn first cap) w := fun _ _ _ _ => rfl
  unfold stgV
  go_enter Tryd.func6, Tryd.ntmps6
  obtain ⟨c0, c1, c2, c3, c4, c5⟩ := X0.out
  obtain ⟨d0, d1, d2, d3, d4, d5⟩ := Y0.out
  dsimp only at c0 c1 c2 c3 c4 c5
  simp only [World.size_alloc] at d0 d1 d2 d3 d4 d5
  go_wp2_with fail
  refine (CX.out _).mono ?_
  rintro e w1 ⟨rfl, b1⟩
  have S1 := Lib.hid (S0.out.keep b1)
  clear c0 c1 c2 c3 c4 c5 d0 d1 d2 d3 d4 d5
  have X1 := Lib.hid (X0.out.below b1)
  have Y1 := Lib.hid (Y0.out.below b1)
  obtain ⟨c0, c1, c2, c3, c4, c5⟩ := X1.out
  obtain ⟨d0, d1, d2, d3, d4, d5⟩ := Y1.out
  dsimp only at c0 c1 c2 c3 c4 c5
  simp only [World.size_alloc] at d0 d1 d2 d3 d4 d5
  clear b1 S0 X0 Y0
  go_wp2_with fail
  refine (CY.out _).mono ?_
  rintro e w2 ⟨rfl, b2⟩
  have S2 := Lib.hid (S1.out.keep b2)
  clear c0 c1 c2 c3 c4 c5 d0 d1 d2 d3 d4 d5
  have X2 := Lib.hid (X1.out.below b2)
  have Y2 := Lib.hid (Y1.out.below b2)
  obtain ⟨c0, c1, c2, c3, c4, c5⟩ := X2.out
  obtain ⟨d0, d1, d2, d3, d4, d5⟩ := Y2.out
  dsimp only at c0 c1 c2 c3 c4 c5
  simp only [World.size_alloc] at d0 d1 d2 d3 d4 d5
  clear b2 S1 X1 Y1
  have BA : Below w2.heap.size w2 (w2.alloc (.cells #[.slice none 0 0] 57)) := (Below.refl _ _).alloc (Nat.le_refl _) _
  have X3 := Lib.hid (X2.out.below BA)
  have Y3 := Lib.hid (Y2.out.below BA)
  have S3 := Lib.hid (S2.out.keep BA)
  have Q3 := Lib.hid ((St.refl S2.out.tabs).keep BA)
  have N3 := Lib.hid (Boxed.new w2 57 (.slice none 0 0))
  have T2 := Lib.hid S2.out.tabs
  have hxy : Hid (w.heap.size < w2.heap.size ∧ w.heap.size + 1 < w2.heap.size) := Lib.hid ⟨World.block_lt_of_cell? w2 _ c0, World.block_lt_of_cell? w2 _ d0⟩
  clear BA
  go_upto_region 4 with (fail)
  generalize w2.alloc (.cells #[.slice none 0 0] 57) = w3 at X3 Y3 S3 Q3 N3 ⊢
  clear c0 c1 c2 c3 c4 c5 d0 d1 d2 d3 d4 d5
  clear X2 Y2
  obtain ⟨c0, c1, c2, c3, c4, c5⟩ := X3.out
  obtain ⟨d0, d1, d2, d3, d4, d5⟩ := Y3.out
  dsimp only at c0 c1 c2 c3 c4 c5
  simp only [World.size_alloc] at d0 d1 d2 d3 d4 d5
  go_wp2_with fail
  refine (RN.out _ _ S3.out.tabs).mono ?_
  rintro e w4 ⟨rfl, b4⟩
  have S4 := Lib.hid (S3.out.keep b4)
  clear c0 c1 c2 c3 c4 c5 d0 d1 d2 d3 d4 d5
  clear b4 X3 Y3 N3 Q3 T2
  go_wp2_with fail
  refine (AW.out _ S4.out.tabs).mono ?_
  rintro e wl ⟨rfl, bl⟩
  have SL := Lib.hid (S4.out.keep bl)
  clear bl
  go_wp2
  go_ret
  exact ⟨rfl, SL.out.bel⟩
set_option maxRecDepth 100000 in
set_option maxHeartbeats 4000000 in
theorem replays_undone (xd yd : Bool) (xn xw xc yn yw yc : ByteArray) (gx gy cx cy : Nat) (o : Nat) (w : World) (ht : Tabs w) (sx : StgSz (⟨xd, xn, gx, xw, xc, cx⟩ : Stg)) (sy : StgSz (⟨yd, yn, gy, yw, yc, cy⟩ : Stg)) (hlx : longB (⟨xd, xn, gx, xw, xc, cx⟩ : Stg) = false) (hly : longB (⟨yd, yn, gy, yw, yc, cy⟩ : Stg) = false)
    (hx : cx ≤ 18446744073709551615) (hy : cy ≤ 18446744073709551615) (ho : o ≤ 18446744073709551615) (hd : dialB xn gx xw = true) (hv : (nameF yn && genI gy) = true) (h1 : bothB ⟨xn, gx⟩ ⟨yn, gy⟩ xw xc yc cx cy 1 = false) :
    Calls Tryd.prog 6 #[stgV (⟨xd, xn, gx, xw, xc, cx⟩ : Stg), stgV (⟨yd, yn, gy, yw, yc, cy⟩ : Stg), .int .u64 (o : Int)] w fun e w' => e = .returned (.bool true) ∧ Below w.heap.size w w' := by
  have X0 := Lib.hid (Bx.of (x := (⟨xd, xn, gx, xw, xc, cx⟩ : Stg)) ((Blk.new w 26 #[.bool xd, .string xn, .int .i64 gx, .string xw, .string xc, .int .u64 (cx : Int)]).alloc (.cells #[.bool yd, .string yn, .int .i64 gy, .string yw, .string yc, .int .u64 (cy : Int)] 26)))
  have Y0 := Lib.hid (Bx.of (x := (⟨yd, yn, gy, yw, yc, cy⟩ : Stg)) (Blk.new (w.alloc (.cells #[.bool xd, .string xn, .int .i64 gx, .string xw, .string xc, .int .u64 (cx : Int)] 26)) 26 #[.bool yd, .string yn, .int .i64 gy, .string yw, .string yc, .int .u64 (cy : Int)]))
  have S0 := Lib.hid (((St.refl ht).alloc (.cells #[.bool xd, .string xn, .int .i64 gx, .string xw, .string xc, .int .u64 (cx : Int)] 26)).alloc (.cells #[.bool yd, .string yn, .int .i64 gy, .string yw, .string yc, .int .u64 (cy : Int)] 26))
  have CX : Hid (∀ W, Calls Tryd.prog 10 #[.agg #[.bool xd, .string xn, .int .i64 gx, .string xw, .string xc, .int .u64 (cx : Int)], .slice none 0 0] W fun e w' => e = .returned (.bool false) ∧ Below W.heap.size W w') := by
    refine Lib.hid fun W => ?_
    have := longN_any (⟨xd, xn, gx, xw, xc, cx⟩ : Stg) sx.n sx.w sx.c W
    rw [hlx] at this
    exact this
  have CY : Hid (∀ W, Calls Tryd.prog 10 #[.agg #[.bool yd, .string yn, .int .i64 gy, .string yw, .string yc, .int .u64 (cy : Int)], .slice none 0 0] W fun e w' => e = .returned (.bool false) ∧ Below W.heap.size W w') := by
    refine Lib.hid fun W => ?_
    have := longN_any (⟨yd, yn, gy, yw, yc, cy⟩ : Stg) sy.n sy.w sy.c W
    rw [hly] at this
    exact this
  have AW := Lib.hid (fun W (t : Tabs W) => awakeS_any W t)
  have lx : xw.size + xc.size + xn.size ≤ 6000 := by
    have := of_decide_eq_false hlx
    dsimp only at this
    omega
  have ly : yw.size + yc.size + yn.size ≤ 6000 := by
    have := of_decide_eq_false hly
    dsimp only at this
    omega
  obtain ⟨p1, p2, p3⟩ := dialB_parts hd
  have okx := prOk_of p1
  have oky := prOk_of hv
  have RM : Hid (∀ w0 W N, Tabs w0 → St w0 W → Boxed W N 57 (.slice none 0 0) → w0.heap.size ≤ N → Calls Tryd.prog 18 #[stgV (⟨xd, xn, gx, xw, xc, cx⟩ : Stg), stgV (⟨yd, yn, gy, yw, yc, cy⟩ : Stg), .int .i64 1, .func (.func 22) #[] #[.pointer (some ⟨N, 0, none⟩)]] W (RunOutR w0 N (runF (dialS ⟨xn, gx⟩ xw xc cx) (listenS ⟨yn, gy⟩ yc cy) (helloF ⟨xn, gx⟩ xw) 1 mId))) :=
    Lib.hid (fun w0 W N t st hb lo => runR_made xd yd xn xw xc yn yw yc gx gy cx cy 1 w0 W t st N hb lo ⟨by omega, by omega, by omega⟩ (by omega) hx hy hd hv)
  unfold stgV at RM
  have PL := run_plain ⟨xn, gx⟩ ⟨yn, gy⟩ okx oky xw xc yc cx cy hx hy p2 1
  obtain ⟨⟨d, l, said⟩, hr⟩ : ∃ r, r = runF (dialS ⟨xn, gx⟩ xw xc cx) (listenS ⟨yn, gy⟩ yc cy) (helloF ⟨xn, gx⟩ xw) 1 mId := ⟨_, rfl⟩
  rw [← hr] at PL RM
  obtain ⟨sd, hsd⟩ : ∃ n : Nat, n = d.state := ⟨_, rfl⟩
  have e1 : ((sd : Int) != 3) = true := by
    rw [bne_iff_ne]
    intro q
    have := PL.1.1 (by show d.state = 3; omega)
    rw [h1] at this
    cases this
  have STd : Hid (∀ W D, Blk W D 46 (sdC d) → Calls Tryd.prog 16 #[.pointer (some ⟨D, 0, none⟩)] W fun e w' => e = .returned (.int .i64 sd) ∧ W = w') := Lib.hid (fun W D h => by rw [hsd]; exact state_any d D W h)
  have ho0 := ho
  clear ho0
  clear ht sx sy hlx hly hd hv lx ly p1 p2 p3 okx oky PL hr hx hy ho hsd h1
  have hmf : ∀ (fn : Fn) (first cap : Array Value) (w : World), (Instr.makeFunc fn first cap).run Tryd.prog w = .ok (.func fn first cap) w := fun _ _ _ _ => rfl
  unfold stgV
  go_enter Tryd.func6, Tryd.ntmps6
  obtain ⟨c0, c1, c2, c3, c4, c5⟩ := X0.out
  obtain ⟨d0, d1, d2, d3, d4, d5⟩ := Y0.out
  dsimp only at c0 c1 c2 c3 c4 c5
  simp only [World.size_alloc] at d0 d1 d2 d3 d4 d5
  go_wp2_with fail
  refine (CX.out _).mono ?_
  rintro e w1 ⟨rfl, b1⟩
  have S1 := Lib.hid (S0.out.keep b1)
  clear c0 c1 c2 c3 c4 c5 d0 d1 d2 d3 d4 d5
  have X1 := Lib.hid (X0.out.below b1)
  have Y1 := Lib.hid (Y0.out.below b1)
  obtain ⟨c0, c1, c2, c3, c4, c5⟩ := X1.out
  obtain ⟨d0, d1, d2, d3, d4, d5⟩ := Y1.out
  dsimp only at c0 c1 c2 c3 c4 c5
  simp only [World.size_alloc] at d0 d1 d2 d3 d4 d5
  clear b1 S0 X0 Y0
  go_wp2_with fail
  refine (CY.out _).mono ?_
  rintro e w2 ⟨rfl, b2⟩
  have S2 := Lib.hid (S1.out.keep b2)
  clear c0 c1 c2 c3 c4 c5 d0 d1 d2 d3 d4 d5
  have X2 := Lib.hid (X1.out.below b2)
  have Y2 := Lib.hid (Y1.out.below b2)
  obtain ⟨c0, c1, c2, c3, c4, c5⟩ := X2.out
  obtain ⟨d0, d1, d2, d3, d4, d5⟩ := Y2.out
  dsimp only at c0 c1 c2 c3 c4 c5
  simp only [World.size_alloc] at d0 d1 d2 d3 d4 d5
  clear b2 S1 X1 Y1
  have BA : Below w2.heap.size w2 (w2.alloc (.cells #[.slice none 0 0] 57)) := (Below.refl _ _).alloc (Nat.le_refl _) _
  have X3 := Lib.hid (X2.out.below BA)
  have Y3 := Lib.hid (Y2.out.below BA)
  have S3 := Lib.hid (S2.out.keep BA)
  have Q3 := Lib.hid ((St.refl S2.out.tabs).keep BA)
  have N3 := Lib.hid (Boxed.new w2 57 (.slice none 0 0))
  have T2 := Lib.hid S2.out.tabs
  have hxy : Hid (w.heap.size < w2.heap.size ∧ w.heap.size + 1 < w2.heap.size) := Lib.hid ⟨World.block_lt_of_cell? w2 _ c0, World.block_lt_of_cell? w2 _ d0⟩
  clear BA
  go_upto_region 4 with (fail)
  generalize w2.alloc (.cells #[.slice none 0 0] 57) = w3 at X3 Y3 S3 Q3 N3 ⊢
  clear c0 c1 c2 c3 c4 c5 d0 d1 d2 d3 d4 d5
  have X2' := X2
  have Y2' := Y2
  clear X2 Y2
  obtain ⟨c0, c1, c2, c3, c4, c5⟩ := X3.out
  obtain ⟨d0, d1, d2, d3, d4, d5⟩ := Y3.out
  dsimp only at c0 c1 c2 c3 c4 c5
  simp only [World.size_alloc] at d0 d1 d2 d3 d4 d5
  go_wp2_with fail
  refine (RM.out w2 _ _ T2.out Q3.out N3.out (Nat.le_refl _)).mono ?_
  rintro e w4 ⟨D, K, rfl, ss, sd⟩
  have SS4 := Lib.hid ss
  have SD4 := Lib.hid sd
  clear ss sd
  clear c0 c1 c2 c3 c4 c5 d0 d1 d2 d3 d4 d5
  have S4 := Lib.hid (S2.out.keep SS4.out.st.bel)
  have X4 := Lib.hid (X2'.out.below SS4.out.st.bel)
  have Y4 := Lib.hid (Y2'.out.below SS4.out.st.bel)
  clear X3 Y3 S3 Q3 N3 T2
  obtain ⟨c0, c1, c2, c3, c4, c5⟩ := X4.out
  obtain ⟨d0, d1, d2, d3, d4, d5⟩ := Y4.out
  dsimp only at c0 c1 c2 c3 c4 c5
  simp only [World.size_alloc] at d0 d1 d2 d3 d4 d5
  go_wp2_with fail
  refine (STd.out _ D (SS4.out.get 0 rfl)).mono ?_
  rintro e w' ⟨rfl, rfl⟩
  go_wp2_with fail
  refine (AW.out _ S4.out.tabs).mono ?_
  rintro e wl ⟨rfl, bl⟩
  have SL := Lib.hid (S4.out.keep bl)
  clear bl
  go_wp2
  go_ret
  exact ⟨rfl, SL.out.bel⟩
set_option maxRecDepth 100000 in
set_option maxHeartbeats 4000000 in
theorem replays_oy (xd yd : Bool) (xn xw xc yn yw yc : ByteArray) (gx gy cx cy : Nat) (o : Nat) (w : World) (ht : Tabs w) (sx : StgSz (⟨xd, xn, gx, xw, xc, cx⟩ : Stg)) (sy : StgSz (⟨yd, yn, gy, yw, yc, cy⟩ : Stg)) (hlx : longB (⟨xd, xn, gx, xw, xc, cx⟩ : Stg) = false) (hly : longB (⟨yd, yn, gy, yw, yc, cy⟩ : Stg) = false)
    (hx : cx ≤ 18446744073709551615) (hy : cy ≤ 18446744073709551615) (ho : o ≤ 18446744073709551615) (hd : dialB xn gx xw = true) (hv : (nameF yn && genI gy) = true) (h1 : bothB ⟨xn, gx⟩ ⟨yn, gy⟩ xw xc yc cx cy 1 = true) (h2 : o = cy) :
    Calls Tryd.prog 6 #[stgV (⟨xd, xn, gx, xw, xc, cx⟩ : Stg), stgV (⟨yd, yn, gy, yw, yc, cy⟩ : Stg), .int .u64 (o : Int)] w fun e w' => e = .returned (.bool true) ∧ Below w.heap.size w w' := by
  have X0 := Lib.hid (Bx.of (x := (⟨xd, xn, gx, xw, xc, cx⟩ : Stg)) ((Blk.new w 26 #[.bool xd, .string xn, .int .i64 gx, .string xw, .string xc, .int .u64 (cx : Int)]).alloc (.cells #[.bool yd, .string yn, .int .i64 gy, .string yw, .string yc, .int .u64 (cy : Int)] 26)))
  have Y0 := Lib.hid (Bx.of (x := (⟨yd, yn, gy, yw, yc, cy⟩ : Stg)) (Blk.new (w.alloc (.cells #[.bool xd, .string xn, .int .i64 gx, .string xw, .string xc, .int .u64 (cx : Int)] 26)) 26 #[.bool yd, .string yn, .int .i64 gy, .string yw, .string yc, .int .u64 (cy : Int)]))
  have S0 := Lib.hid (((St.refl ht).alloc (.cells #[.bool xd, .string xn, .int .i64 gx, .string xw, .string xc, .int .u64 (cx : Int)] 26)).alloc (.cells #[.bool yd, .string yn, .int .i64 gy, .string yw, .string yc, .int .u64 (cy : Int)] 26))
  have CX : Hid (∀ W, Calls Tryd.prog 10 #[.agg #[.bool xd, .string xn, .int .i64 gx, .string xw, .string xc, .int .u64 (cx : Int)], .slice none 0 0] W fun e w' => e = .returned (.bool false) ∧ Below W.heap.size W w') := by
    refine Lib.hid fun W => ?_
    have := longN_any (⟨xd, xn, gx, xw, xc, cx⟩ : Stg) sx.n sx.w sx.c W
    rw [hlx] at this
    exact this
  have CY : Hid (∀ W, Calls Tryd.prog 10 #[.agg #[.bool yd, .string yn, .int .i64 gy, .string yw, .string yc, .int .u64 (cy : Int)], .slice none 0 0] W fun e w' => e = .returned (.bool false) ∧ Below W.heap.size W w') := by
    refine Lib.hid fun W => ?_
    have := longN_any (⟨yd, yn, gy, yw, yc, cy⟩ : Stg) sy.n sy.w sy.c W
    rw [hly] at this
    exact this
  have AW := Lib.hid (fun W (t : Tabs W) => awakeS_any W t)
  have lx : xw.size + xc.size + xn.size ≤ 6000 := by
    have := of_decide_eq_false hlx
    dsimp only at this
    omega
  have ly : yw.size + yc.size + yn.size ≤ 6000 := by
    have := of_decide_eq_false hly
    dsimp only at this
    omega
  obtain ⟨p1, p2, p3⟩ := dialB_parts hd
  have okx := prOk_of p1
  have oky := prOk_of hv
  have RM : Hid (∀ w0 W N, Tabs w0 → St w0 W → Boxed W N 57 (.slice none 0 0) → w0.heap.size ≤ N → Calls Tryd.prog 18 #[stgV (⟨xd, xn, gx, xw, xc, cx⟩ : Stg), stgV (⟨yd, yn, gy, yw, yc, cy⟩ : Stg), .int .i64 1, .func (.func 22) #[] #[.pointer (some ⟨N, 0, none⟩)]] W (RunOutR w0 N (runF (dialS ⟨xn, gx⟩ xw xc cx) (listenS ⟨yn, gy⟩ yc cy) (helloF ⟨xn, gx⟩ xw) 1 mId))) :=
    Lib.hid (fun w0 W N t st hb lo => runR_made xd yd xn xw xc yn yw yc gx gy cx cy 1 w0 W t st N hb lo ⟨by omega, by omega, by omega⟩ (by omega) hx hy hd hv)
  unfold stgV at RM
  have RD := run_done ⟨xn, gx⟩ ⟨yn, gy⟩ okx oky xw xc yc cx cy hx hy p2 h1
  rw [RD] at RM
  obtain ⟨d, hdd⟩ : ∃ s, s = dia2 ⟨xn, gx⟩ xw xc cx ⟨yn, gy⟩ cy := ⟨_, rfl⟩
  obtain ⟨l, hll⟩ : ∃ s, s = lis3 ⟨yn, gy⟩ yc cy ⟨xn, gx⟩ cx := ⟨_, rfl⟩
  obtain ⟨m0, hm0⟩ : ∃ s, s = helloF ⟨xn, gx⟩ xw := ⟨_, rfl⟩
  obtain ⟨m1, hm1⟩ : ∃ s, s = offerM ⟨yn, gy⟩ cy := ⟨_, rfl⟩
  obtain ⟨pD, hpD⟩ : ∃ s, s = proofD ⟨xn, gx⟩ ⟨yn, gy⟩ xc cx cy := ⟨_, rfl⟩
  obtain ⟨pL, hpL⟩ : ∃ s, s = proofL ⟨xn, gx⟩ ⟨yn, gy⟩ yc cx cy := ⟨_, rfl⟩
  have zD : pD.size = 32 := by rw [hpD]; exact proofD_size _ _ _ _ _
  have zL : pL.size = 32 := by rw [hpL]; exact proofL_size _ _ _ _ _
  have r2t := reply_tail cx pD
  have r3t := ack_tail pL
  have r2z := replyM_size cx pD zD
  have r3z : (ackC ++ pL).size = 33 := by rw [ByteArray.size_append, zL]; rfl
  rw [← hpD, ← hpL, ← hdd, ← hll, ← hm0, ← hm1] at RM
  obtain ⟨m2, hm2⟩ : ∃ s, s = replyM cx pD := ⟨_, rfl⟩
  obtain ⟨m3, hm3⟩ : ∃ s, s = ackC ++ pL := ⟨_, rfl⟩
  rw [← hm2] at RM r2t r2z
  rw [← hm3] at RM r3t r3z
  have STd : Hid (∀ W D, Blk W D 46 (sdC d) → Calls Tryd.prog 16 #[.pointer (some ⟨D, 0, none⟩)] W fun e w' => e = .returned (.int .i64 3) ∧ W = w') := Lib.hid (fun W D h => by have := state_any d D W h; rw [hdd] at this; exact this)
  have STl : Hid (∀ W D, Blk W D 46 (sdC l) → Calls Tryd.prog 16 #[.pointer (some ⟨D, 0, none⟩)] W fun e w' => e = .returned (.int .i64 3) ∧ W = w') := Lib.hid (fun W D h => by have := state_any l D W h; rw [hll] at this; exact this)
  have g2 : decide ((m2.size : Int) < 9) = false := decide_eq_false (by omega)
  have g3 : decide ((m3.size : Int) < 1) = false := decide_eq_false (by omega)
  have t1 : ((o : Int) == cy) = true := by rw [beq_iff_eq]; omega
  have ho0 := ho
  clear ho0
  clear ht sx sy hlx hly hd hv lx ly p1 p2 p3 okx oky hx hy ho RD hdd hll hm0 hm1 hpD hpL zD zL r2t r3t r2z r3z hm2 hm3 h1 h2 
  have hmf : ∀ (fn : Fn) (first cap : Array Value) (w : World), (Instr.makeFunc fn first cap).run Tryd.prog w = .ok (.func fn first cap) w := fun _ _ _ _ => rfl
  unfold stgV
  go_enter Tryd.func6, Tryd.ntmps6
  obtain ⟨c0, c1, c2, c3, c4, c5⟩ := X0.out
  obtain ⟨d0, d1, d2, d3, d4, d5⟩ := Y0.out
  dsimp only at c0 c1 c2 c3 c4 c5
  simp only [World.size_alloc] at d0 d1 d2 d3 d4 d5
  go_wp2_with fail
  refine (CX.out _).mono ?_
  rintro e w1 ⟨rfl, b1⟩
  have S1 := Lib.hid (S0.out.keep b1)
  clear c0 c1 c2 c3 c4 c5 d0 d1 d2 d3 d4 d5
  have X1 := Lib.hid (X0.out.below b1)
  have Y1 := Lib.hid (Y0.out.below b1)
  obtain ⟨c0, c1, c2, c3, c4, c5⟩ := X1.out
  obtain ⟨d0, d1, d2, d3, d4, d5⟩ := Y1.out
  dsimp only at c0 c1 c2 c3 c4 c5
  simp only [World.size_alloc] at d0 d1 d2 d3 d4 d5
  clear b1 S0 X0 Y0
  go_wp2_with fail
  refine (CY.out _).mono ?_
  rintro e w2 ⟨rfl, b2⟩
  have S2 := Lib.hid (S1.out.keep b2)
  clear c0 c1 c2 c3 c4 c5 d0 d1 d2 d3 d4 d5
  have X2 := Lib.hid (X1.out.below b2)
  have Y2 := Lib.hid (Y1.out.below b2)
  obtain ⟨c0, c1, c2, c3, c4, c5⟩ := X2.out
  obtain ⟨d0, d1, d2, d3, d4, d5⟩ := Y2.out
  dsimp only at c0 c1 c2 c3 c4 c5
  simp only [World.size_alloc] at d0 d1 d2 d3 d4 d5
  clear b2 S1 X1 Y1
  have BA : Below w2.heap.size w2 (w2.alloc (.cells #[.slice none 0 0] 57)) := (Below.refl _ _).alloc (Nat.le_refl _) _
  have X3 := Lib.hid (X2.out.below BA)
  have Y3 := Lib.hid (Y2.out.below BA)
  have S3 := Lib.hid (S2.out.keep BA)
  have Q3 := Lib.hid ((St.refl S2.out.tabs).keep BA)
  have N3 := Lib.hid (Boxed.new w2 57 (.slice none 0 0))
  have T2 := Lib.hid S2.out.tabs
  have hxy : Hid (w.heap.size < w2.heap.size ∧ w.heap.size + 1 < w2.heap.size) := Lib.hid ⟨World.block_lt_of_cell? w2 _ c0, World.block_lt_of_cell? w2 _ d0⟩
  clear BA
  go_upto_region 4 with (fail)
  generalize w2.alloc (.cells #[.slice none 0 0] 57) = w3 at X3 Y3 S3 Q3 N3 ⊢
  clear c0 c1 c2 c3 c4 c5 d0 d1 d2 d3 d4 d5
  have X2' := X2
  have Y2' := Y2
  clear X2 Y2
  obtain ⟨c0, c1, c2, c3, c4, c5⟩ := X3.out
  obtain ⟨d0, d1, d2, d3, d4, d5⟩ := Y3.out
  dsimp only at c0 c1 c2 c3 c4 c5
  simp only [World.size_alloc] at d0 d1 d2 d3 d4 d5
  go_wp2_with fail
  refine (RM.out w2 _ _ T2.out Q3.out N3.out (Nat.le_refl _)).mono ?_
  rintro e w4 ⟨D, K, rfl, ss, sd⟩
  have SS4 := Lib.hid ss
  have SD4 := Lib.hid sd
  clear ss sd
  clear c0 c1 c2 c3 c4 c5 d0 d1 d2 d3 d4 d5
  have S4 := Lib.hid (S2.out.keep SS4.out.st.bel)
  have X4 := Lib.hid (X2'.out.below SS4.out.st.bel)
  have Y4 := Lib.hid (Y2'.out.below SS4.out.st.bel)
  clear X3 Y3 S3 Q3 N3 T2
  obtain ⟨c0, c1, c2, c3, c4, c5⟩ := X4.out
  obtain ⟨d0, d1, d2, d3, d4, d5⟩ := Y4.out
  dsimp only at c0 c1 c2 c3 c4 c5
  simp only [World.size_alloc] at d0 d1 d2 d3 d4 d5
  obtain ⟨g, cap, cN, cg0, cg1, cg2, cg3, lg, ltg, lN, ltN⟩ := said_cells SD4.out
  have LTG := Lib.hid ltg
  have LTN := Lib.hid ltN
  have LG := Lib.hid lg
  clear lg lN ltg ltN
  go_wp2_with fail
  refine (STd.out _ D (SS4.out.get 0 rfl)).mono ?_
  rintro e w' ⟨rfl, rfl⟩
  go_wp2_with fail
  refine (STl.out _ K (SS4.out.get 1 rfl)).mono ?_
  rintro e w' ⟨rfl, rfl⟩
  go_wp2_with fail
  refine (AW.out _ S4.out.tabs).mono ?_
  rintro e wl ⟨rfl, bl⟩
  have SL := Lib.hid (S4.out.keep bl)
  clear bl
  go_wp2
  go_ret
  exact ⟨rfl, SL.out.bel⟩
set_option maxRecDepth 100000 in
set_option maxHeartbeats 4000000 in
theorem replays_ox (xd yd : Bool) (xn xw xc yn yw yc : ByteArray) (gx gy cx cy : Nat) (o : Nat) (w : World) (ht : Tabs w) (sx : StgSz (⟨xd, xn, gx, xw, xc, cx⟩ : Stg)) (sy : StgSz (⟨yd, yn, gy, yw, yc, cy⟩ : Stg)) (hlx : longB (⟨xd, xn, gx, xw, xc, cx⟩ : Stg) = false) (hly : longB (⟨yd, yn, gy, yw, yc, cy⟩ : Stg) = false)
    (hx : cx ≤ 18446744073709551615) (hy : cy ≤ 18446744073709551615) (ho : o ≤ 18446744073709551615) (hd : dialB xn gx xw = true) (hv : (nameF yn && genI gy) = true) (h1 : bothB ⟨xn, gx⟩ ⟨yn, gy⟩ xw xc yc cx cy 1 = true) (h2 : o ≠ cy) (h3 : o = cx) :
    Calls Tryd.prog 6 #[stgV (⟨xd, xn, gx, xw, xc, cx⟩ : Stg), stgV (⟨yd, yn, gy, yw, yc, cy⟩ : Stg), .int .u64 (o : Int)] w fun e w' => e = .returned (.bool true) ∧ Below w.heap.size w w' := by
  have X0 := Lib.hid (Bx.of (x := (⟨xd, xn, gx, xw, xc, cx⟩ : Stg)) ((Blk.new w 26 #[.bool xd, .string xn, .int .i64 gx, .string xw, .string xc, .int .u64 (cx : Int)]).alloc (.cells #[.bool yd, .string yn, .int .i64 gy, .string yw, .string yc, .int .u64 (cy : Int)] 26)))
  have Y0 := Lib.hid (Bx.of (x := (⟨yd, yn, gy, yw, yc, cy⟩ : Stg)) (Blk.new (w.alloc (.cells #[.bool xd, .string xn, .int .i64 gx, .string xw, .string xc, .int .u64 (cx : Int)] 26)) 26 #[.bool yd, .string yn, .int .i64 gy, .string yw, .string yc, .int .u64 (cy : Int)]))
  have S0 := Lib.hid (((St.refl ht).alloc (.cells #[.bool xd, .string xn, .int .i64 gx, .string xw, .string xc, .int .u64 (cx : Int)] 26)).alloc (.cells #[.bool yd, .string yn, .int .i64 gy, .string yw, .string yc, .int .u64 (cy : Int)] 26))
  have CX : Hid (∀ W, Calls Tryd.prog 10 #[.agg #[.bool xd, .string xn, .int .i64 gx, .string xw, .string xc, .int .u64 (cx : Int)], .slice none 0 0] W fun e w' => e = .returned (.bool false) ∧ Below W.heap.size W w') := by
    refine Lib.hid fun W => ?_
    have := longN_any (⟨xd, xn, gx, xw, xc, cx⟩ : Stg) sx.n sx.w sx.c W
    rw [hlx] at this
    exact this
  have CY : Hid (∀ W, Calls Tryd.prog 10 #[.agg #[.bool yd, .string yn, .int .i64 gy, .string yw, .string yc, .int .u64 (cy : Int)], .slice none 0 0] W fun e w' => e = .returned (.bool false) ∧ Below W.heap.size W w') := by
    refine Lib.hid fun W => ?_
    have := longN_any (⟨yd, yn, gy, yw, yc, cy⟩ : Stg) sy.n sy.w sy.c W
    rw [hly] at this
    exact this
  have AW := Lib.hid (fun W (t : Tabs W) => awakeS_any W t)
  have lx : xw.size + xc.size + xn.size ≤ 6000 := by
    have := of_decide_eq_false hlx
    dsimp only at this
    omega
  have ly : yw.size + yc.size + yn.size ≤ 6000 := by
    have := of_decide_eq_false hly
    dsimp only at this
    omega
  obtain ⟨p1, p2, p3⟩ := dialB_parts hd
  have okx := prOk_of p1
  have oky := prOk_of hv
  have RM : Hid (∀ w0 W N, Tabs w0 → St w0 W → Boxed W N 57 (.slice none 0 0) → w0.heap.size ≤ N → Calls Tryd.prog 18 #[stgV (⟨xd, xn, gx, xw, xc, cx⟩ : Stg), stgV (⟨yd, yn, gy, yw, yc, cy⟩ : Stg), .int .i64 1, .func (.func 22) #[] #[.pointer (some ⟨N, 0, none⟩)]] W (RunOutR w0 N (runF (dialS ⟨xn, gx⟩ xw xc cx) (listenS ⟨yn, gy⟩ yc cy) (helloF ⟨xn, gx⟩ xw) 1 mId))) :=
    Lib.hid (fun w0 W N t st hb lo => runR_made xd yd xn xw xc yn yw yc gx gy cx cy 1 w0 W t st N hb lo ⟨by omega, by omega, by omega⟩ (by omega) hx hy hd hv)
  unfold stgV at RM
  have RD := run_done ⟨xn, gx⟩ ⟨yn, gy⟩ okx oky xw xc yc cx cy hx hy p2 h1
  rw [RD] at RM
  obtain ⟨d, hdd⟩ : ∃ s, s = dia2 ⟨xn, gx⟩ xw xc cx ⟨yn, gy⟩ cy := ⟨_, rfl⟩
  obtain ⟨l, hll⟩ : ∃ s, s = lis3 ⟨yn, gy⟩ yc cy ⟨xn, gx⟩ cx := ⟨_, rfl⟩
  obtain ⟨m0, hm0⟩ : ∃ s, s = helloF ⟨xn, gx⟩ xw := ⟨_, rfl⟩
  obtain ⟨m1, hm1⟩ : ∃ s, s = offerM ⟨yn, gy⟩ cy := ⟨_, rfl⟩
  obtain ⟨pD, hpD⟩ : ∃ s, s = proofD ⟨xn, gx⟩ ⟨yn, gy⟩ xc cx cy := ⟨_, rfl⟩
  obtain ⟨pL, hpL⟩ : ∃ s, s = proofL ⟨xn, gx⟩ ⟨yn, gy⟩ yc cx cy := ⟨_, rfl⟩
  have zD : pD.size = 32 := by rw [hpD]; exact proofD_size _ _ _ _ _
  have zL : pL.size = 32 := by rw [hpL]; exact proofL_size _ _ _ _ _
  have r2t := reply_tail cx pD
  have r3t := ack_tail pL
  have r2z := replyM_size cx pD zD
  have r3z : (ackC ++ pL).size = 33 := by rw [ByteArray.size_append, zL]; rfl
  rw [← hpD, ← hpL, ← hdd, ← hll, ← hm0, ← hm1] at RM
  obtain ⟨m2, hm2⟩ : ∃ s, s = replyM cx pD := ⟨_, rfl⟩
  obtain ⟨m3, hm3⟩ : ∃ s, s = ackC ++ pL := ⟨_, rfl⟩
  rw [← hm2] at RM r2t r2z
  rw [← hm3] at RM r3t r3z
  have STd : Hid (∀ W D, Blk W D 46 (sdC d) → Calls Tryd.prog 16 #[.pointer (some ⟨D, 0, none⟩)] W fun e w' => e = .returned (.int .i64 3) ∧ W = w') := Lib.hid (fun W D h => by have := state_any d D W h; rw [hdd] at this; exact this)
  have STl : Hid (∀ W D, Blk W D 46 (sdC l) → Calls Tryd.prog 16 #[.pointer (some ⟨D, 0, none⟩)] W fun e w' => e = .returned (.int .i64 3) ∧ W = w') := Lib.hid (fun W D h => by have := state_any l D W h; rw [hll] at this; exact this)
  have g2 : decide ((m2.size : Int) < 9) = false := decide_eq_false (by omega)
  have g3 : decide ((m3.size : Int) < 1) = false := decide_eq_false (by omega)
  have t1 : ((o : Int) == cy) = false := beq_eq_false_iff_ne.2 (by omega)
  have t2 : ((o : Int) == cx) = true := by rw [beq_iff_eq]; omega
  have ho0 := ho
  clear ho0
  clear ht sx sy hlx hly hd hv lx ly p1 p2 p3 okx oky hx hy ho RD hdd hll hm0 hm1 hpD hpL zD zL r2t r3t r2z r3z hm2 hm3 h1 h2 h3
  have hmf : ∀ (fn : Fn) (first cap : Array Value) (w : World), (Instr.makeFunc fn first cap).run Tryd.prog w = .ok (.func fn first cap) w := fun _ _ _ _ => rfl
  unfold stgV
  go_enter Tryd.func6, Tryd.ntmps6
  obtain ⟨c0, c1, c2, c3, c4, c5⟩ := X0.out
  obtain ⟨d0, d1, d2, d3, d4, d5⟩ := Y0.out
  dsimp only at c0 c1 c2 c3 c4 c5
  simp only [World.size_alloc] at d0 d1 d2 d3 d4 d5
  go_wp2_with fail
  refine (CX.out _).mono ?_
  rintro e w1 ⟨rfl, b1⟩
  have S1 := Lib.hid (S0.out.keep b1)
  clear c0 c1 c2 c3 c4 c5 d0 d1 d2 d3 d4 d5
  have X1 := Lib.hid (X0.out.below b1)
  have Y1 := Lib.hid (Y0.out.below b1)
  obtain ⟨c0, c1, c2, c3, c4, c5⟩ := X1.out
  obtain ⟨d0, d1, d2, d3, d4, d5⟩ := Y1.out
  dsimp only at c0 c1 c2 c3 c4 c5
  simp only [World.size_alloc] at d0 d1 d2 d3 d4 d5
  clear b1 S0 X0 Y0
  go_wp2_with fail
  refine (CY.out _).mono ?_
  rintro e w2 ⟨rfl, b2⟩
  have S2 := Lib.hid (S1.out.keep b2)
  clear c0 c1 c2 c3 c4 c5 d0 d1 d2 d3 d4 d5
  have X2 := Lib.hid (X1.out.below b2)
  have Y2 := Lib.hid (Y1.out.below b2)
  obtain ⟨c0, c1, c2, c3, c4, c5⟩ := X2.out
  obtain ⟨d0, d1, d2, d3, d4, d5⟩ := Y2.out
  dsimp only at c0 c1 c2 c3 c4 c5
  simp only [World.size_alloc] at d0 d1 d2 d3 d4 d5
  clear b2 S1 X1 Y1
  have BA : Below w2.heap.size w2 (w2.alloc (.cells #[.slice none 0 0] 57)) := (Below.refl _ _).alloc (Nat.le_refl _) _
  have X3 := Lib.hid (X2.out.below BA)
  have Y3 := Lib.hid (Y2.out.below BA)
  have S3 := Lib.hid (S2.out.keep BA)
  have Q3 := Lib.hid ((St.refl S2.out.tabs).keep BA)
  have N3 := Lib.hid (Boxed.new w2 57 (.slice none 0 0))
  have T2 := Lib.hid S2.out.tabs
  have hxy : Hid (w.heap.size < w2.heap.size ∧ w.heap.size + 1 < w2.heap.size) := Lib.hid ⟨World.block_lt_of_cell? w2 _ c0, World.block_lt_of_cell? w2 _ d0⟩
  clear BA
  go_upto_region 4 with (fail)
  generalize w2.alloc (.cells #[.slice none 0 0] 57) = w3 at X3 Y3 S3 Q3 N3 ⊢
  clear c0 c1 c2 c3 c4 c5 d0 d1 d2 d3 d4 d5
  have X2' := X2
  have Y2' := Y2
  clear X2 Y2
  obtain ⟨c0, c1, c2, c3, c4, c5⟩ := X3.out
  obtain ⟨d0, d1, d2, d3, d4, d5⟩ := Y3.out
  dsimp only at c0 c1 c2 c3 c4 c5
  simp only [World.size_alloc] at d0 d1 d2 d3 d4 d5
  go_wp2_with fail
  refine (RM.out w2 _ _ T2.out Q3.out N3.out (Nat.le_refl _)).mono ?_
  rintro e w4 ⟨D, K, rfl, ss, sd⟩
  have SS4 := Lib.hid ss
  have SD4 := Lib.hid sd
  clear ss sd
  clear c0 c1 c2 c3 c4 c5 d0 d1 d2 d3 d4 d5
  have S4 := Lib.hid (S2.out.keep SS4.out.st.bel)
  have X4 := Lib.hid (X2'.out.below SS4.out.st.bel)
  have Y4 := Lib.hid (Y2'.out.below SS4.out.st.bel)
  clear X3 Y3 S3 Q3 N3 T2
  obtain ⟨c0, c1, c2, c3, c4, c5⟩ := X4.out
  obtain ⟨d0, d1, d2, d3, d4, d5⟩ := Y4.out
  dsimp only at c0 c1 c2 c3 c4 c5
  simp only [World.size_alloc] at d0 d1 d2 d3 d4 d5
  obtain ⟨g, cap, cN, cg0, cg1, cg2, cg3, lg, ltg, lN, ltN⟩ := said_cells SD4.out
  have LTG := Lib.hid ltg
  have LTN := Lib.hid ltN
  have LG := Lib.hid lg
  clear lg lN ltg ltN
  go_wp2_with fail
  refine (STd.out _ D (SS4.out.get 0 rfl)).mono ?_
  rintro e w' ⟨rfl, rfl⟩
  go_wp2_with fail
  refine (STl.out _ K (SS4.out.get 1 rfl)).mono ?_
  rintro e w' ⟨rfl, rfl⟩
  go_wp2_with fail
  refine (AW.out _ S4.out.tabs).mono ?_
  rintro e wl ⟨rfl, bl⟩
  have SL := Lib.hid (S4.out.keep bl)
  clear bl
  go_wp2
  go_ret
  exact ⟨rfl, SL.out.bel⟩
set_option maxRecDepth 100000 in
set_option maxHeartbeats 4000000 in
theorem replays_r2 (xd yd : Bool) (xn xw xc yn yw yc : ByteArray) (gx gy cx cy : Nat) (o : Nat) (w : World) (ht : Tabs w) (sx : StgSz (⟨xd, xn, gx, xw, xc, cx⟩ : Stg)) (sy : StgSz (⟨yd, yn, gy, yw, yc, cy⟩ : Stg)) (hlx : longB (⟨xd, xn, gx, xw, xc, cx⟩ : Stg) = false) (hly : longB (⟨yd, yn, gy, yw, yc, cy⟩ : Stg) = false)
    (hx : cx ≤ 18446744073709551615) (hy : cy ≤ 18446744073709551615) (ho : o ≤ 18446744073709551615) (hd : dialB xn gx xw = true) (hv : (nameF yn && genI gy) = true) (h1 : bothB ⟨xn, gx⟩ ⟨yn, gy⟩ xw xc yc cx cy 1 = true) (h2 : o ≠ cy) (h3 : o ≠ cx) (h4 : seqB (proofD ⟨xn, gx⟩ ⟨yn, gy⟩ yc cx o) (proofD ⟨xn, gx⟩ ⟨yn, gy⟩ xc cx cy) = false) (h5 : seqB (proofL ⟨xn, gx⟩ ⟨yn, gy⟩ xc o cy) (proofL ⟨xn, gx⟩ ⟨yn, gy⟩ yc cx cy) = true) :
    Calls Tryd.prog 6 #[stgV (⟨xd, xn, gx, xw, xc, cx⟩ : Stg), stgV (⟨yd, yn, gy, yw, yc, cy⟩ : Stg), .int .u64 (o : Int)] w fun e w' => e = .returned (.bool true) ∧ Below w.heap.size w w' := by
  have X0 := Lib.hid (Bx.of (x := (⟨xd, xn, gx, xw, xc, cx⟩ : Stg)) ((Blk.new w 26 #[.bool xd, .string xn, .int .i64 gx, .string xw, .string xc, .int .u64 (cx : Int)]).alloc (.cells #[.bool yd, .string yn, .int .i64 gy, .string yw, .string yc, .int .u64 (cy : Int)] 26)))
  have Y0 := Lib.hid (Bx.of (x := (⟨yd, yn, gy, yw, yc, cy⟩ : Stg)) (Blk.new (w.alloc (.cells #[.bool xd, .string xn, .int .i64 gx, .string xw, .string xc, .int .u64 (cx : Int)] 26)) 26 #[.bool yd, .string yn, .int .i64 gy, .string yw, .string yc, .int .u64 (cy : Int)]))
  have S0 := Lib.hid (((St.refl ht).alloc (.cells #[.bool xd, .string xn, .int .i64 gx, .string xw, .string xc, .int .u64 (cx : Int)] 26)).alloc (.cells #[.bool yd, .string yn, .int .i64 gy, .string yw, .string yc, .int .u64 (cy : Int)] 26))
  have CX : Hid (∀ W, Calls Tryd.prog 10 #[.agg #[.bool xd, .string xn, .int .i64 gx, .string xw, .string xc, .int .u64 (cx : Int)], .slice none 0 0] W fun e w' => e = .returned (.bool false) ∧ Below W.heap.size W w') := by
    refine Lib.hid fun W => ?_
    have := longN_any (⟨xd, xn, gx, xw, xc, cx⟩ : Stg) sx.n sx.w sx.c W
    rw [hlx] at this
    exact this
  have CY : Hid (∀ W, Calls Tryd.prog 10 #[.agg #[.bool yd, .string yn, .int .i64 gy, .string yw, .string yc, .int .u64 (cy : Int)], .slice none 0 0] W fun e w' => e = .returned (.bool false) ∧ Below W.heap.size W w') := by
    refine Lib.hid fun W => ?_
    have := longN_any (⟨yd, yn, gy, yw, yc, cy⟩ : Stg) sy.n sy.w sy.c W
    rw [hly] at this
    exact this
  have AW := Lib.hid (fun W (t : Tabs W) => awakeS_any W t)
  have lx : xw.size + xc.size + xn.size ≤ 6000 := by
    have := of_decide_eq_false hlx
    dsimp only at this
    omega
  have ly : yw.size + yc.size + yn.size ≤ 6000 := by
    have := of_decide_eq_false hly
    dsimp only at this
    omega
  obtain ⟨p1, p2, p3⟩ := dialB_parts hd
  have okx := prOk_of p1
  have oky := prOk_of hv
  have RM : Hid (∀ w0 W N, Tabs w0 → St w0 W → Boxed W N 57 (.slice none 0 0) → w0.heap.size ≤ N → Calls Tryd.prog 18 #[stgV (⟨xd, xn, gx, xw, xc, cx⟩ : Stg), stgV (⟨yd, yn, gy, yw, yc, cy⟩ : Stg), .int .i64 1, .func (.func 22) #[] #[.pointer (some ⟨N, 0, none⟩)]] W (RunOutR w0 N (runF (dialS ⟨xn, gx⟩ xw xc cx) (listenS ⟨yn, gy⟩ yc cy) (helloF ⟨xn, gx⟩ xw) 1 mId))) :=
    Lib.hid (fun w0 W N t st hb lo => runR_made xd yd xn xw xc yn yw yc gx gy cx cy 1 w0 W t st N hb lo ⟨by omega, by omega, by omega⟩ (by omega) hx hy hd hv)
  unfold stgV at RM
  have RD := run_done ⟨xn, gx⟩ ⟨yn, gy⟩ okx oky xw xc yc cx cy hx hy p2 h1
  rw [RD] at RM
  obtain ⟨d, hdd⟩ : ∃ s, s = dia2 ⟨xn, gx⟩ xw xc cx ⟨yn, gy⟩ cy := ⟨_, rfl⟩
  obtain ⟨l, hll⟩ : ∃ s, s = lis3 ⟨yn, gy⟩ yc cy ⟨xn, gx⟩ cx := ⟨_, rfl⟩
  obtain ⟨m0, hm0⟩ : ∃ s, s = helloF ⟨xn, gx⟩ xw := ⟨_, rfl⟩
  obtain ⟨m1, hm1⟩ : ∃ s, s = offerM ⟨yn, gy⟩ cy := ⟨_, rfl⟩
  obtain ⟨pD, hpD⟩ : ∃ s, s = proofD ⟨xn, gx⟩ ⟨yn, gy⟩ xc cx cy := ⟨_, rfl⟩
  obtain ⟨pL, hpL⟩ : ∃ s, s = proofL ⟨xn, gx⟩ ⟨yn, gy⟩ yc cx cy := ⟨_, rfl⟩
  have zD : pD.size = 32 := by rw [hpD]; exact proofD_size _ _ _ _ _
  have zL : pL.size = 32 := by rw [hpL]; exact proofL_size _ _ _ _ _
  have r2t := reply_tail cx pD
  have r3t := ack_tail pL
  have r2z := replyM_size cx pD zD
  have r3z : (ackC ++ pL).size = 33 := by rw [ByteArray.size_append, zL]; rfl
  rw [← hpD, ← hpL, ← hdd, ← hll, ← hm0, ← hm1] at RM
  obtain ⟨m2, hm2⟩ : ∃ s, s = replyM cx pD := ⟨_, rfl⟩
  obtain ⟨m3, hm3⟩ : ∃ s, s = ackC ++ pL := ⟨_, rfl⟩
  rw [← hm2] at RM r2t r2z
  rw [← hm3] at RM r3t r3z
  have STd : Hid (∀ W D, Blk W D 46 (sdC d) → Calls Tryd.prog 16 #[.pointer (some ⟨D, 0, none⟩)] W fun e w' => e = .returned (.int .i64 3) ∧ W = w') := Lib.hid (fun W D h => by have := state_any d D W h; rw [hdd] at this; exact this)
  have STl : Hid (∀ W D, Blk W D 46 (sdC l) → Calls Tryd.prog 16 #[.pointer (some ⟨D, 0, none⟩)] W fun e w' => e = .returned (.int .i64 3) ∧ W = w') := Lib.hid (fun W D h => by have := state_any l D W h; rw [hll] at this; exact this)
  have g2 : decide ((m2.size : Int) < 9) = false := decide_eq_false (by omega)
  have g3 : decide ((m3.size : Int) < 1) = false := decide_eq_false (by omega)
  have t1 : ((o : Int) == cy) = false := beq_eq_false_iff_ne.2 (by omega)
  have t2 : ((o : Int) == cx) = false := beq_eq_false_iff_ne.2 (by omega)
  have v9 : (9 : Int) ≤ (m2.size : Int) := by omega
  have v1 : (1 : Int) ≤ (m3.size : Int) := by omega
  obtain ⟨pa, hpa⟩ : ∃ s, s = proofD ⟨xn, gx⟩ ⟨yn, gy⟩ yc cx o := ⟨_, rfl⟩
  obtain ⟨pb, hpb⟩ : ∃ s, s = proofL ⟨xn, gx⟩ ⟨yn, gy⟩ xc o cy := ⟨_, rfl⟩
  have PA : Hid (∀ W, Tabs W → Calls Tryd.prog 23 #[.bool true, .agg #[.string xn, .int .i64 (gx : Int)], .agg #[.string yn, .int .i64 (gy : Int)], .string yc, .int .u64 (cx : Int), .int .u64 (o : Int)] W fun e w' => e = .returned (.string pa) ∧ Below W.heap.size W w') :=
    Lib.hid (fun W t => by rw [hpa]; exact proofR_D ⟨xn, gx⟩ ⟨yn, gy⟩ yc o cx (nameF_size _ okx.1).2 (nameF_size _ oky.1).2 okx.2.2 oky.2.2 (by omega) ho hx W t)
  have PB : Hid (∀ W, Tabs W → Calls Tryd.prog 23 #[.bool false, .agg #[.string xn, .int .i64 (gx : Int)], .agg #[.string yn, .int .i64 (gy : Int)], .string xc, .int .u64 (o : Int), .int .u64 (cy : Int)] W fun e w' => e = .returned (.string pb) ∧ Below W.heap.size W w') :=
    Lib.hid (fun W t => by rw [hpb]; exact proofR_L ⟨yn, gy⟩ ⟨xn, gx⟩ xc o cy (nameF_size _ oky.1).2 (nameF_size _ okx.1).2 oky.2.2 okx.2.2 (by omega) ho hy W t)
  have u1 : (pa.toList == pD.toList) = false := by rw [hpa, hpD]; exact h4
  have u2 : (pb.toList == pL.toList) = true := by rw [hpb, hpL]; exact h5
  have ho0 := ho
  clear ho0
  clear ht sx sy hlx hly hd hv lx ly p1 p2 p3 okx oky hx hy ho RD hdd hll hm0 hm1 hpD hpL zD zL r2z r3z hm2 hm3 h1 h2 h3 hpa hpb h4 h5
  have hmf : ∀ (fn : Fn) (first cap : Array Value) (w : World), (Instr.makeFunc fn first cap).run Tryd.prog w = .ok (.func fn first cap) w := fun _ _ _ _ => rfl
  unfold stgV
  go_enter Tryd.func6, Tryd.ntmps6
  obtain ⟨c0, c1, c2, c3, c4, c5⟩ := X0.out
  obtain ⟨d0, d1, d2, d3, d4, d5⟩ := Y0.out
  dsimp only at c0 c1 c2 c3 c4 c5
  simp only [World.size_alloc] at d0 d1 d2 d3 d4 d5
  go_wp2_with fail
  refine (CX.out _).mono ?_
  rintro e w1 ⟨rfl, b1⟩
  have S1 := Lib.hid (S0.out.keep b1)
  clear c0 c1 c2 c3 c4 c5 d0 d1 d2 d3 d4 d5
  have X1 := Lib.hid (X0.out.below b1)
  have Y1 := Lib.hid (Y0.out.below b1)
  obtain ⟨c0, c1, c2, c3, c4, c5⟩ := X1.out
  obtain ⟨d0, d1, d2, d3, d4, d5⟩ := Y1.out
  dsimp only at c0 c1 c2 c3 c4 c5
  simp only [World.size_alloc] at d0 d1 d2 d3 d4 d5
  clear b1 S0 X0 Y0
  go_wp2_with fail
  refine (CY.out _).mono ?_
  rintro e w2 ⟨rfl, b2⟩
  have S2 := Lib.hid (S1.out.keep b2)
  clear c0 c1 c2 c3 c4 c5 d0 d1 d2 d3 d4 d5
  have X2 := Lib.hid (X1.out.below b2)
  have Y2 := Lib.hid (Y1.out.below b2)
  obtain ⟨c0, c1, c2, c3, c4, c5⟩ := X2.out
  obtain ⟨d0, d1, d2, d3, d4, d5⟩ := Y2.out
  dsimp only at c0 c1 c2 c3 c4 c5
  simp only [World.size_alloc] at d0 d1 d2 d3 d4 d5
  clear b2 S1 X1 Y1
  have BA : Below w2.heap.size w2 (w2.alloc (.cells #[.slice none 0 0] 57)) := (Below.refl _ _).alloc (Nat.le_refl _) _
  have X3 := Lib.hid (X2.out.below BA)
  have Y3 := Lib.hid (Y2.out.below BA)
  have S3 := Lib.hid (S2.out.keep BA)
  have Q3 := Lib.hid ((St.refl S2.out.tabs).keep BA)
  have N3 := Lib.hid (Boxed.new w2 57 (.slice none 0 0))
  have T2 := Lib.hid S2.out.tabs
  have hxy : Hid (w.heap.size < w2.heap.size ∧ w.heap.size + 1 < w2.heap.size) := Lib.hid ⟨World.block_lt_of_cell? w2 _ c0, World.block_lt_of_cell? w2 _ d0⟩
  clear BA
  go_upto_region 4 with (fail)
  generalize w2.alloc (.cells #[.slice none 0 0] 57) = w3 at X3 Y3 S3 Q3 N3 ⊢
  clear c0 c1 c2 c3 c4 c5 d0 d1 d2 d3 d4 d5
  have X2' := X2
  have Y2' := Y2
  clear X2 Y2
  obtain ⟨c0, c1, c2, c3, c4, c5⟩ := X3.out
  obtain ⟨d0, d1, d2, d3, d4, d5⟩ := Y3.out
  dsimp only at c0 c1 c2 c3 c4 c5
  simp only [World.size_alloc] at d0 d1 d2 d3 d4 d5
  go_wp2_with fail
  refine (RM.out w2 _ _ T2.out Q3.out N3.out (Nat.le_refl _)).mono ?_
  rintro e w4 ⟨D, K, rfl, ss, sd⟩
  have SS4 := Lib.hid ss
  have SD4 := Lib.hid sd
  clear ss sd
  clear c0 c1 c2 c3 c4 c5 d0 d1 d2 d3 d4 d5
  have S4 := Lib.hid (S2.out.keep SS4.out.st.bel)
  have X4 := Lib.hid (X2'.out.below SS4.out.st.bel)
  have Y4 := Lib.hid (Y2'.out.below SS4.out.st.bel)
  clear X3 Y3 S3 Q3 N3 T2
  obtain ⟨c0, c1, c2, c3, c4, c5⟩ := X4.out
  obtain ⟨d0, d1, d2, d3, d4, d5⟩ := Y4.out
  dsimp only at c0 c1 c2 c3 c4 c5
  simp only [World.size_alloc] at d0 d1 d2 d3 d4 d5
  obtain ⟨g, cap, cN, cg0, cg1, cg2, cg3, lg, ltg, lN, ltN⟩ := said_cells SD4.out
  have LTG := Lib.hid ltg
  have LTN := Lib.hid ltN
  have LG := Lib.hid lg
  clear lg lN ltg ltN
  go_wp2_with fail
  refine (STd.out _ D (SS4.out.get 0 rfl)).mono ?_
  rintro e w' ⟨rfl, rfl⟩
  go_wp2_with fail
  refine (STl.out _ K (SS4.out.get 1 rfl)).mono ?_
  rintro e w' ⟨rfl, rfl⟩
  have HS0 : Hid (∀ n, (w4.drewN n).cell? ⟨w.heap.size, 1, none⟩ = some (.string xn) ∧ (w4.drewN n).cell? ⟨w.heap.size, 2, none⟩ = some (.int .i64 (gx : Int)) ∧ (w4.drewN n).cell? ⟨w.heap.size, 3, none⟩ = some (.string xw) ∧ (w4.drewN n).cell? ⟨w.heap.size, 4, none⟩ = some (.string xc) ∧ (w4.drewN n).cell? ⟨w.heap.size, 5, none⟩ = some (.int .u64 (cx : Int)) ∧ (w4.drewN n).cell? ⟨w.heap.size + 1, 0, none⟩ = some (.bool yd) ∧ (w4.drewN n).cell? ⟨w.heap.size + 1, 1, none⟩ = some (.string yn) ∧ (w4.drewN n).cell? ⟨w.heap.size + 1, 2, none⟩ = some (.int .i64 (gy : Int)) ∧ (w4.drewN n).cell? ⟨w.heap.size + 1, 3, none⟩ = some (.string yw) ∧ (w4.drewN n).cell? ⟨w.heap.size + 1, 4, none⟩ = some (.string yc) ∧ (w4.drewN n).cell? ⟨w.heap.size + 1, 5, none⟩ = some (.int .u64 (cy : Int)) ∧ (w4.drewN n).cell? ⟨w2.heap.size, 0, none⟩ = some (.slice (some ⟨g, 0, none⟩) 4 cap) ∧ (w4.drewN n).cell? ⟨g, 0, none⟩ = some (.string m0) ∧ (w4.drewN n).cell? ⟨g, 1, none⟩ = some (.string m1) ∧ (w4.drewN n).cell? ⟨g, 2, none⟩ = some (.string m2) ∧ (w4.drewN n).cell? ⟨g, 3, none⟩ = some (.string m3) ∧ St w4 (w4.drewN n)) := Lib.hid (fun n => ⟨c1, c2, c3, c4, c5, d0, d1, d2, d3, d4, d5, cN, cg0, cg1, cg2, cg3, (St.refl SS4.out.st.tabs).drewN n⟩)
  go_wp2
  go_region_held3 (fun w' => (w').cell? ⟨w.heap.size, 1, none⟩ = some (.string xn) ∧ (w').cell? ⟨w.heap.size, 2, none⟩ = some (.int .i64 (gx : Int)) ∧ (w').cell? ⟨w.heap.size, 3, none⟩ = some (.string xw) ∧ (w').cell? ⟨w.heap.size, 4, none⟩ = some (.string xc) ∧ (w').cell? ⟨w.heap.size, 5, none⟩ = some (.int .u64 (cx : Int)) ∧ (w').cell? ⟨w.heap.size + 1, 0, none⟩ = some (.bool yd) ∧ (w').cell? ⟨w.heap.size + 1, 1, none⟩ = some (.string yn) ∧ (w').cell? ⟨w.heap.size + 1, 2, none⟩ = some (.int .i64 (gy : Int)) ∧ (w').cell? ⟨w.heap.size + 1, 3, none⟩ = some (.string yw) ∧ (w').cell? ⟨w.heap.size + 1, 4, none⟩ = some (.string yc) ∧ (w').cell? ⟨w.heap.size + 1, 5, none⟩ = some (.int .u64 (cy : Int)) ∧ (w').cell? ⟨w2.heap.size, 0, none⟩ = some (.slice (some ⟨g, 0, none⟩) 4 cap) ∧ (w').cell? ⟨g, 0, none⟩ = some (.string m0) ∧ (w').cell? ⟨g, 1, none⟩ = some (.string m1) ∧ (w').cell? ⟨g, 2, none⟩ = some (.string m2) ∧ (w').cell? ⟨g, 3, none⟩ = some (.string m3) ∧ St w4 (w'))
    (first | exact HS0.out 1 | (obtain ⟨s1, s2, s3, s4, s5, s6, s7, s8, s9, s10, s11, s12, s13, s14, s15, s16, s17⟩ := (‹_ ∧ _ ∧ _ ∧ _ ∧ _ ∧ _ ∧ _ ∧ _ ∧ _ ∧ _ ∧ _ ∧ _ ∧ _ ∧ _ ∧ _ ∧ _ ∧ St _ _›); exact ⟨cell_keep (by assumption) s1, cell_keep (by assumption) s2, cell_keep (by assumption) s3, cell_keep (by assumption) s4, cell_keep (by assumption) s5, cell_keep (by assumption) s6, cell_keep (by assumption) s7, cell_keep (by assumption) s8, cell_keep (by assumption) s9, cell_keep (by assumption) s10, cell_keep (by assumption) s11, cell_keep (by assumption) s12, cell_keep (by assumption) s13, cell_keep (by assumption) s14, cell_keep (by assumption) s15, cell_keep (by assumption) s16, s17.keep (by assumption)⟩))
    (first
      | (go_at_call_of 23 (Value.bool true); refine (PA.out _ ((‹_ ∧ _ ∧ _ ∧ _ ∧ _ ∧ _ ∧ _ ∧ _ ∧ _ ∧ _ ∧ _ ∧ _ ∧ _ ∧ _ ∧ _ ∧ _ ∧ St _ _›).2.2.2.2.2.2.2.2.2.2.2.2.2.2.2.2.tabs)).mono ?_; rintro e w5 ⟨rfl, b5⟩)
      | (go_at_call_of 23 (Value.bool false); refine (PB.out _ ((‹_ ∧ _ ∧ _ ∧ _ ∧ _ ∧ _ ∧ _ ∧ _ ∧ _ ∧ _ ∧ _ ∧ _ ∧ _ ∧ _ ∧ _ ∧ _ ∧ St _ _›).2.2.2.2.2.2.2.2.2.2.2.2.2.2.2.2.tabs)).mono ?_; rintro e w5 ⟨rfl, b5⟩))
  have HSZ := Lib.hid (‹_ ∧ _ ∧ _ ∧ _ ∧ _ ∧ _ ∧ _ ∧ _ ∧ _ ∧ _ ∧ _ ∧ _ ∧ _ ∧ _ ∧ _ ∧ _ ∧ St _ _›)
  all_goals
    have S5 := Lib.hid (S4.out.keep (HSZ.out.2.2.2.2.2.2.2.2.2.2.2.2.2.2.2.2.bel))
    go_wp2_with fail
    refine (AW.out _ S5.out.tabs).mono ?_
    rintro e wl ⟨rfl, bl⟩
    have SL := Lib.hid (S5.out.keep bl)
    clear bl
    go_wp2
    go_ret
    exact ⟨rfl, SL.out.bel⟩
set_option maxRecDepth 100000 in
set_option maxHeartbeats 4000000 in
theorem replays_r3 (xd yd : Bool) (xn xw xc yn yw yc : ByteArray) (gx gy cx cy : Nat) (o : Nat) (w : World) (ht : Tabs w) (sx : StgSz (⟨xd, xn, gx, xw, xc, cx⟩ : Stg)) (sy : StgSz (⟨yd, yn, gy, yw, yc, cy⟩ : Stg)) (hlx : longB (⟨xd, xn, gx, xw, xc, cx⟩ : Stg) = false) (hly : longB (⟨yd, yn, gy, yw, yc, cy⟩ : Stg) = false)
    (hx : cx ≤ 18446744073709551615) (hy : cy ≤ 18446744073709551615) (ho : o ≤ 18446744073709551615) (hd : dialB xn gx xw = true) (hv : (nameF yn && genI gy) = true) (h1 : bothB ⟨xn, gx⟩ ⟨yn, gy⟩ xw xc yc cx cy 1 = true) (h2 : o ≠ cy) (h3 : o ≠ cx) (h4 : seqB (proofD ⟨xn, gx⟩ ⟨yn, gy⟩ yc cx o) (proofD ⟨xn, gx⟩ ⟨yn, gy⟩ xc cx cy) = false) (h5 : seqB (proofL ⟨xn, gx⟩ ⟨yn, gy⟩ xc o cy) (proofL ⟨xn, gx⟩ ⟨yn, gy⟩ yc cx cy) = false) :
    Calls Tryd.prog 6 #[stgV (⟨xd, xn, gx, xw, xc, cx⟩ : Stg), stgV (⟨yd, yn, gy, yw, yc, cy⟩ : Stg), .int .u64 (o : Int)] w fun e w' => e = .returned (.bool true) ∧ Below w.heap.size w w' := by
  have X0 := Lib.hid (Bx.of (x := (⟨xd, xn, gx, xw, xc, cx⟩ : Stg)) ((Blk.new w 26 #[.bool xd, .string xn, .int .i64 gx, .string xw, .string xc, .int .u64 (cx : Int)]).alloc (.cells #[.bool yd, .string yn, .int .i64 gy, .string yw, .string yc, .int .u64 (cy : Int)] 26)))
  have Y0 := Lib.hid (Bx.of (x := (⟨yd, yn, gy, yw, yc, cy⟩ : Stg)) (Blk.new (w.alloc (.cells #[.bool xd, .string xn, .int .i64 gx, .string xw, .string xc, .int .u64 (cx : Int)] 26)) 26 #[.bool yd, .string yn, .int .i64 gy, .string yw, .string yc, .int .u64 (cy : Int)]))
  have S0 := Lib.hid (((St.refl ht).alloc (.cells #[.bool xd, .string xn, .int .i64 gx, .string xw, .string xc, .int .u64 (cx : Int)] 26)).alloc (.cells #[.bool yd, .string yn, .int .i64 gy, .string yw, .string yc, .int .u64 (cy : Int)] 26))
  have CX : Hid (∀ W, Calls Tryd.prog 10 #[.agg #[.bool xd, .string xn, .int .i64 gx, .string xw, .string xc, .int .u64 (cx : Int)], .slice none 0 0] W fun e w' => e = .returned (.bool false) ∧ Below W.heap.size W w') := by
    refine Lib.hid fun W => ?_
    have := longN_any (⟨xd, xn, gx, xw, xc, cx⟩ : Stg) sx.n sx.w sx.c W
    rw [hlx] at this
    exact this
  have CY : Hid (∀ W, Calls Tryd.prog 10 #[.agg #[.bool yd, .string yn, .int .i64 gy, .string yw, .string yc, .int .u64 (cy : Int)], .slice none 0 0] W fun e w' => e = .returned (.bool false) ∧ Below W.heap.size W w') := by
    refine Lib.hid fun W => ?_
    have := longN_any (⟨yd, yn, gy, yw, yc, cy⟩ : Stg) sy.n sy.w sy.c W
    rw [hly] at this
    exact this
  have AW := Lib.hid (fun W (t : Tabs W) => awakeS_any W t)
  have lx : xw.size + xc.size + xn.size ≤ 6000 := by
    have := of_decide_eq_false hlx
    dsimp only at this
    omega
  have ly : yw.size + yc.size + yn.size ≤ 6000 := by
    have := of_decide_eq_false hly
    dsimp only at this
    omega
  obtain ⟨p1, p2, p3⟩ := dialB_parts hd
  have okx := prOk_of p1
  have oky := prOk_of hv
  have RM : Hid (∀ w0 W N, Tabs w0 → St w0 W → Boxed W N 57 (.slice none 0 0) → w0.heap.size ≤ N → Calls Tryd.prog 18 #[stgV (⟨xd, xn, gx, xw, xc, cx⟩ : Stg), stgV (⟨yd, yn, gy, yw, yc, cy⟩ : Stg), .int .i64 1, .func (.func 22) #[] #[.pointer (some ⟨N, 0, none⟩)]] W (RunOutR w0 N (runF (dialS ⟨xn, gx⟩ xw xc cx) (listenS ⟨yn, gy⟩ yc cy) (helloF ⟨xn, gx⟩ xw) 1 mId))) :=
    Lib.hid (fun w0 W N t st hb lo => runR_made xd yd xn xw xc yn yw yc gx gy cx cy 1 w0 W t st N hb lo ⟨by omega, by omega, by omega⟩ (by omega) hx hy hd hv)
  unfold stgV at RM
  have RD := run_done ⟨xn, gx⟩ ⟨yn, gy⟩ okx oky xw xc yc cx cy hx hy p2 h1
  rw [RD] at RM
  obtain ⟨d, hdd⟩ : ∃ s, s = dia2 ⟨xn, gx⟩ xw xc cx ⟨yn, gy⟩ cy := ⟨_, rfl⟩
  obtain ⟨l, hll⟩ : ∃ s, s = lis3 ⟨yn, gy⟩ yc cy ⟨xn, gx⟩ cx := ⟨_, rfl⟩
  obtain ⟨m0, hm0⟩ : ∃ s, s = helloF ⟨xn, gx⟩ xw := ⟨_, rfl⟩
  obtain ⟨m1, hm1⟩ : ∃ s, s = offerM ⟨yn, gy⟩ cy := ⟨_, rfl⟩
  obtain ⟨pD, hpD⟩ : ∃ s, s = proofD ⟨xn, gx⟩ ⟨yn, gy⟩ xc cx cy := ⟨_, rfl⟩
  obtain ⟨pL, hpL⟩ : ∃ s, s = proofL ⟨xn, gx⟩ ⟨yn, gy⟩ yc cx cy := ⟨_, rfl⟩
  have zD : pD.size = 32 := by rw [hpD]; exact proofD_size _ _ _ _ _
  have zL : pL.size = 32 := by rw [hpL]; exact proofL_size _ _ _ _ _
  have r2t := reply_tail cx pD
  have r3t := ack_tail pL
  have r2z := replyM_size cx pD zD
  have r3z : (ackC ++ pL).size = 33 := by rw [ByteArray.size_append, zL]; rfl
  rw [← hpD, ← hpL, ← hdd, ← hll, ← hm0, ← hm1] at RM
  obtain ⟨m2, hm2⟩ : ∃ s, s = replyM cx pD := ⟨_, rfl⟩
  obtain ⟨m3, hm3⟩ : ∃ s, s = ackC ++ pL := ⟨_, rfl⟩
  rw [← hm2] at RM r2t r2z
  rw [← hm3] at RM r3t r3z
  have STd : Hid (∀ W D, Blk W D 46 (sdC d) → Calls Tryd.prog 16 #[.pointer (some ⟨D, 0, none⟩)] W fun e w' => e = .returned (.int .i64 3) ∧ W = w') := Lib.hid (fun W D h => by have := state_any d D W h; rw [hdd] at this; exact this)
  have STl : Hid (∀ W D, Blk W D 46 (sdC l) → Calls Tryd.prog 16 #[.pointer (some ⟨D, 0, none⟩)] W fun e w' => e = .returned (.int .i64 3) ∧ W = w') := Lib.hid (fun W D h => by have := state_any l D W h; rw [hll] at this; exact this)
  have g2 : decide ((m2.size : Int) < 9) = false := decide_eq_false (by omega)
  have g3 : decide ((m3.size : Int) < 1) = false := decide_eq_false (by omega)
  have t1 : ((o : Int) == cy) = false := beq_eq_false_iff_ne.2 (by omega)
  have t2 : ((o : Int) == cx) = false := beq_eq_false_iff_ne.2 (by omega)
  have v9 : (9 : Int) ≤ (m2.size : Int) := by omega
  have v1 : (1 : Int) ≤ (m3.size : Int) := by omega
  obtain ⟨pa, hpa⟩ : ∃ s, s = proofD ⟨xn, gx⟩ ⟨yn, gy⟩ yc cx o := ⟨_, rfl⟩
  obtain ⟨pb, hpb⟩ : ∃ s, s = proofL ⟨xn, gx⟩ ⟨yn, gy⟩ xc o cy := ⟨_, rfl⟩
  have PA : Hid (∀ W, Tabs W → Calls Tryd.prog 23 #[.bool true, .agg #[.string xn, .int .i64 (gx : Int)], .agg #[.string yn, .int .i64 (gy : Int)], .string yc, .int .u64 (cx : Int), .int .u64 (o : Int)] W fun e w' => e = .returned (.string pa) ∧ Below W.heap.size W w') :=
    Lib.hid (fun W t => by rw [hpa]; exact proofR_D ⟨xn, gx⟩ ⟨yn, gy⟩ yc o cx (nameF_size _ okx.1).2 (nameF_size _ oky.1).2 okx.2.2 oky.2.2 (by omega) ho hx W t)
  have PB : Hid (∀ W, Tabs W → Calls Tryd.prog 23 #[.bool false, .agg #[.string xn, .int .i64 (gx : Int)], .agg #[.string yn, .int .i64 (gy : Int)], .string xc, .int .u64 (o : Int), .int .u64 (cy : Int)] W fun e w' => e = .returned (.string pb) ∧ Below W.heap.size W w') :=
    Lib.hid (fun W t => by rw [hpb]; exact proofR_L ⟨yn, gy⟩ ⟨xn, gx⟩ xc o cy (nameF_size _ oky.1).2 (nameF_size _ okx.1).2 oky.2.2 okx.2.2 (by omega) ho hy W t)
  have E0 := dial_yes xn gx xw xc o hd
  have E1 := listen_yes yn gy yc o hv
  rw [← hm0] at E0
  have LW := both_met h1
  have F1 : Fine (listenS ⟨yn, gy⟩ yc o) := Fine.listenS oky (by omega) ho
  have F2 : Fine (dialS ⟨xn, gx⟩ xw xc o) := Fine.dialS okx (by omega) (by omega) ho
  have A1 := step_hello ⟨xn, gx⟩ ⟨yn, gy⟩ okx yc o xw p2 LW.1 LW.2
  have A2 := step_offer ⟨xn, gx⟩ ⟨yn, gy⟩ yc o
  have A3 := replay_listen ⟨xn, gx⟩ ⟨yn, gy⟩ xc yc cx cy o hx h4
  have A4 := step_reply ⟨xn, gx⟩ ⟨yn, gy⟩ oky xw xc o cy hy (by rw [seqB_comm]; exact LW.1)
  have A5 := replay_dial ⟨xn, gx⟩ ⟨yn, gy⟩ xw xc yc cx cy o h5
  have z0 : m0.size ≤ 100000 := by
    rw [hm0, helloF_size]
    show xn.size + _ + 8 ≤ _
    omega
  have z1 : m1.size ≤ 100000 := by
    have := (nameF_size _ oky.1).2
    simp only at this
    rw [hm1, offerM_size]
    show yn.size + 15 ≤ _
    omega
  rw [← hm0] at A1
  rw [← hpD, ← hm2] at A3
  rw [← hm1] at A4
  rw [← hpL, ← hm3] at A5
  have G1 := F1.take m0
  rw [A1] at G1
  have G2 := G1.answer 1
  simp only at G1 G2
  rw [A2] at G2
  have G3 := F2.take m1
  rw [A4] at G3
  simp only at G2 G3
  obtain ⟨k0, hk0⟩ : ∃ s, s = listenS ⟨yn, gy⟩ yc o := ⟨_, rfl⟩
  obtain ⟨k1, hk1⟩ : ∃ s, s = lis1 ⟨yn, gy⟩ yc o ⟨xn, gx⟩ := ⟨_, rfl⟩
  obtain ⟨k2, hk2⟩ : ∃ s, s = lis2 ⟨yn, gy⟩ yc o ⟨xn, gx⟩ := ⟨_, rfl⟩
  obtain ⟨k3, hk3⟩ : ∃ s : Sd, s = fail2 k2 cx := ⟨_, rfl⟩
  obtain ⟨n0, hn0⟩ : ∃ s, s = dialS ⟨xn, gx⟩ xw xc o := ⟨_, rfl⟩
  obtain ⟨n1, hn1⟩ : ∃ s, s = dia1 ⟨xn, gx⟩ xw xc o ⟨yn, gy⟩ cy := ⟨_, rfl⟩
  obtain ⟨n2, hn2⟩ : ∃ s : Sd, s = fail1 n1 := ⟨_, rfl⟩
  obtain ⟨ov, hov⟩ : ∃ s, s = offerM ⟨yn, gy⟩ o := ⟨_, rfl⟩
  obtain ⟨rv, hrv⟩ : ∃ s, s = replyM o (proofD ⟨xn, gx⟩ ⟨yn, gy⟩ xc o cy) := ⟨_, rfl⟩
  rw [← hk0] at E1 A1 F1
  rw [← hk1] at A1 A2 G1
  rw [← hk2, ← hov] at A2
  rw [← hk2] at A3 G2
  rw [← hk3] at A3
  rw [← hn0] at E0 A4 F2
  rw [← hn1, ← hrv] at A4
  rw [← hn1] at A5
  rw [← hn2] at A5
  rw [← hn1] at G3
  have DC := Lib.hid E0
  have LC := Lib.hid E1
  have T1 : Hid (∀ wb V B, Ss wb V [(B, 46, k0)] → Calls Tryd.prog 14 #[.pointer (some ⟨B, 0, none⟩), .string m0] V (Saw wb [(B, 46, k1)] (.tuple #[.string ⟨#[]⟩, .int .i64 0]))) :=
    Lib.hid (fun wb V B h => by have := h.take46 0 rfl F1 m0 z0; rw [A1] at this; exact this)
  have T2 : Hid (∀ wb V B, Ss wb V [(B, 46, k1)] → Calls Tryd.prog 15 #[.pointer (some ⟨B, 0, none⟩), .int .i64 1] V (Saw wb [(B, 46, k2)] (.tuple #[.string ov, .int .i64 0]))) :=
    Lib.hid (fun wb V B h => by have := h.answer46 0 rfl G1 1; rw [A2] at this; exact this)
  have T3 : Hid (∀ wb V B, Ss wb V [(B, 46, k2)] → Calls Tryd.prog 14 #[.pointer (some ⟨B, 0, none⟩), .string m2] V (Saw wb [(B, 46, k3)] (.tuple #[.string ⟨#[]⟩, .int .i64 350]))) :=
    Lib.hid (fun wb V B h => by have := h.take46 0 rfl G2 m2 (by omega); rw [A3] at this; exact this)
  have T4 : Hid (∀ wb V B, Ss wb V [(B, 46, n0)] → Calls Tryd.prog 14 #[.pointer (some ⟨B, 0, none⟩), .string m1] V (Saw wb [(B, 46, n1)] (.tuple #[.string rv, .int .i64 0]))) :=
    Lib.hid (fun wb V B h => by have := h.take46 0 rfl F2 m1 z1; rw [A4] at this; exact this)
  have T5 : Hid (∀ wb V B, Ss wb V [(B, 46, n1)] → Calls Tryd.prog 14 #[.pointer (some ⟨B, 0, none⟩), .string m3] V (Saw wb [(B, 46, n2)] (.tuple #[.string ⟨#[]⟩, .int .i64 350]))) :=
    Lib.hid (fun wb V B h => by have := h.take46 0 rfl G3 m3 (by omega); rw [A5] at this; exact this)
  have SK : Hid (∀ W D, Blk W D 46 (sdC k3) → Calls Tryd.prog 16 #[.pointer (some ⟨D, 0, none⟩)] W fun e w' => e = .returned (.int .i64 4) ∧ W = w') := Lib.hid (fun W D h => by have := state_any k3 D W h; rw [hk3] at this; exact this)
  have SN : Hid (∀ W D, Blk W D 46 (sdC n2) → Calls Tryd.prog 16 #[.pointer (some ⟨D, 0, none⟩)] W fun e w' => e = .returned (.int .i64 4) ∧ W = w') := Lib.hid (fun W D h => by have := state_any n2 D W h; rw [hn2] at this; exact this)
  have q0 : (m0.toList != m0.toList) = false := by simp
  have q0b : (m0.toList == m0.toList) = true := by simp
  have HTW := Lib.hid ht.two
  have XB0 := Lib.hid ((Blk.new w 26 #[.bool xd, .string xn, .int .i64 (gx : Int), .string xw, .string xc, .int .u64 (cx : Int)]).alloc (.cells #[.bool yd, .string yn, .int .i64 (gy : Int), .string yw, .string yc, .int .u64 (cy : Int)] 26))
  clear E0 E1 LW F1 F2 A1 A2 A3 A4 A5 z0 z1 G1 G2 G3 hk0 hk1 hk2 hk3 hn0 hn1 hn2 hov hrv
  have u1 : (pa.toList == pD.toList) = false := by rw [hpa, hpD]; exact h4
  have u2 : (pb.toList == pL.toList) = false := by rw [hpb, hpL]; exact h5
  have ho0 := ho
  clear ho0
  clear ht sx sy hlx hly hd hv lx ly p1 p2 p3 okx oky hx hy ho RD hdd hll hm0 hm1 hpD hpL zD zL r2z r3z hm2 hm3 h1 h2 h3 hpa hpb h4 h5
  have hmf : ∀ (fn : Fn) (first cap : Array Value) (w : World), (Instr.makeFunc fn first cap).run Tryd.prog w = .ok (.func fn first cap) w := fun _ _ _ _ => rfl
  unfold stgV
  go_enter Tryd.func6, Tryd.ntmps6
  obtain ⟨c0, c1, c2, c3, c4, c5⟩ := X0.out
  obtain ⟨d0, d1, d2, d3, d4, d5⟩ := Y0.out
  dsimp only at c0 c1 c2 c3 c4 c5
  simp only [World.size_alloc] at d0 d1 d2 d3 d4 d5
  go_wp2_with fail
  refine (CX.out _).mono ?_
  rintro e w1 ⟨rfl, b1⟩
  have S1 := Lib.hid (S0.out.keep b1)
  clear c0 c1 c2 c3 c4 c5 d0 d1 d2 d3 d4 d5
  have X1 := Lib.hid (X0.out.below b1)
  have Y1 := Lib.hid (Y0.out.below b1)
  have XB1 := Lib.hid (XB0.out.below b1 XB0.out.lt)
  obtain ⟨c0, c1, c2, c3, c4, c5⟩ := X1.out
  obtain ⟨d0, d1, d2, d3, d4, d5⟩ := Y1.out
  dsimp only at c0 c1 c2 c3 c4 c5
  simp only [World.size_alloc] at d0 d1 d2 d3 d4 d5
  clear b1 S0 X0 Y0
  go_wp2_with fail
  refine (CY.out _).mono ?_
  rintro e w2 ⟨rfl, b2⟩
  have S2 := Lib.hid (S1.out.keep b2)
  clear c0 c1 c2 c3 c4 c5 d0 d1 d2 d3 d4 d5
  have X2 := Lib.hid (X1.out.below b2)
  have Y2 := Lib.hid (Y1.out.below b2)
  have XB2 := Lib.hid (XB1.out.below b2 XB1.out.lt)
  obtain ⟨c0, c1, c2, c3, c4, c5⟩ := X2.out
  obtain ⟨d0, d1, d2, d3, d4, d5⟩ := Y2.out
  dsimp only at c0 c1 c2 c3 c4 c5
  simp only [World.size_alloc] at d0 d1 d2 d3 d4 d5
  clear b2 S1 X1 Y1
  have BA : Below w2.heap.size w2 (w2.alloc (.cells #[.slice none 0 0] 57)) := (Below.refl _ _).alloc (Nat.le_refl _) _
  have X3 := Lib.hid (X2.out.below BA)
  have Y3 := Lib.hid (Y2.out.below BA)
  have S3 := Lib.hid (S2.out.keep BA)
  have XB2' := XB2
  have Q3 := Lib.hid ((St.refl S2.out.tabs).keep BA)
  have N3 := Lib.hid (Boxed.new w2 57 (.slice none 0 0))
  have T2 := Lib.hid S2.out.tabs
  have hxy : Hid (w.heap.size < w2.heap.size ∧ w.heap.size + 1 < w2.heap.size) := Lib.hid ⟨World.block_lt_of_cell? w2 _ c0, World.block_lt_of_cell? w2 _ d0⟩
  clear BA
  go_upto_region 4 with (fail)
  generalize w2.alloc (.cells #[.slice none 0 0] 57) = w3 at X3 Y3 S3 Q3 N3 ⊢
  clear c0 c1 c2 c3 c4 c5 d0 d1 d2 d3 d4 d5
  have X2' := X2
  have Y2' := Y2
  clear X2 Y2
  obtain ⟨c0, c1, c2, c3, c4, c5⟩ := X3.out
  obtain ⟨d0, d1, d2, d3, d4, d5⟩ := Y3.out
  dsimp only at c0 c1 c2 c3 c4 c5
  simp only [World.size_alloc] at d0 d1 d2 d3 d4 d5
  go_wp2_with fail
  refine (RM.out w2 _ _ T2.out Q3.out N3.out (Nat.le_refl _)).mono ?_
  rintro e w4 ⟨D, K, rfl, ss, sd⟩
  have SS4 := Lib.hid ss
  have SD4 := Lib.hid sd
  clear ss sd
  clear c0 c1 c2 c3 c4 c5 d0 d1 d2 d3 d4 d5
  have S4 := Lib.hid (S2.out.keep SS4.out.st.bel)
  have X4 := Lib.hid (X2'.out.below SS4.out.st.bel)
  have Y4 := Lib.hid (Y2'.out.below SS4.out.st.bel)
  clear X3 Y3 S3 Q3 N3 T2
  obtain ⟨c0, c1, c2, c3, c4, c5⟩ := X4.out
  obtain ⟨d0, d1, d2, d3, d4, d5⟩ := Y4.out
  dsimp only at c0 c1 c2 c3 c4 c5
  simp only [World.size_alloc] at d0 d1 d2 d3 d4 d5
  obtain ⟨g, cap, cN, cg0, cg1, cg2, cg3, lg, ltg, lN, ltN⟩ := said_cells SD4.out
  have LTG := Lib.hid ltg
  have LTN := Lib.hid ltN
  have LG := Lib.hid lg
  clear lg lN ltg ltN
  go_wp2_with fail
  refine (STd.out _ D (SS4.out.get 0 rfl)).mono ?_
  rintro e w' ⟨rfl, rfl⟩
  go_wp2_with fail
  refine (STl.out _ K (SS4.out.get 1 rfl)).mono ?_
  rintro e w' ⟨rfl, rfl⟩
  have HS0 : Hid (∀ n, (w4.drewN n).cell? ⟨w.heap.size, 1, none⟩ = some (.string xn) ∧ (w4.drewN n).cell? ⟨w.heap.size, 2, none⟩ = some (.int .i64 (gx : Int)) ∧ (w4.drewN n).cell? ⟨w.heap.size, 3, none⟩ = some (.string xw) ∧ (w4.drewN n).cell? ⟨w.heap.size, 4, none⟩ = some (.string xc) ∧ (w4.drewN n).cell? ⟨w.heap.size, 5, none⟩ = some (.int .u64 (cx : Int)) ∧ (w4.drewN n).cell? ⟨w.heap.size + 1, 0, none⟩ = some (.bool yd) ∧ (w4.drewN n).cell? ⟨w.heap.size + 1, 1, none⟩ = some (.string yn) ∧ (w4.drewN n).cell? ⟨w.heap.size + 1, 2, none⟩ = some (.int .i64 (gy : Int)) ∧ (w4.drewN n).cell? ⟨w.heap.size + 1, 3, none⟩ = some (.string yw) ∧ (w4.drewN n).cell? ⟨w.heap.size + 1, 4, none⟩ = some (.string yc) ∧ (w4.drewN n).cell? ⟨w.heap.size + 1, 5, none⟩ = some (.int .u64 (cy : Int)) ∧ (w4.drewN n).cell? ⟨w2.heap.size, 0, none⟩ = some (.slice (some ⟨g, 0, none⟩) 4 cap) ∧ (w4.drewN n).cell? ⟨g, 0, none⟩ = some (.string m0) ∧ (w4.drewN n).cell? ⟨g, 1, none⟩ = some (.string m1) ∧ (w4.drewN n).cell? ⟨g, 2, none⟩ = some (.string m2) ∧ (w4.drewN n).cell? ⟨g, 3, none⟩ = some (.string m3) ∧ St w4 (w4.drewN n)) := Lib.hid (fun n => ⟨c1, c2, c3, c4, c5, d0, d1, d2, d3, d4, d5, cN, cg0, cg1, cg2, cg3, (St.refl SS4.out.st.tabs).drewN n⟩)
  go_wp2
  go_region_held3 (fun w' => (w').cell? ⟨w.heap.size, 1, none⟩ = some (.string xn) ∧ (w').cell? ⟨w.heap.size, 2, none⟩ = some (.int .i64 (gx : Int)) ∧ (w').cell? ⟨w.heap.size, 3, none⟩ = some (.string xw) ∧ (w').cell? ⟨w.heap.size, 4, none⟩ = some (.string xc) ∧ (w').cell? ⟨w.heap.size, 5, none⟩ = some (.int .u64 (cx : Int)) ∧ (w').cell? ⟨w.heap.size + 1, 0, none⟩ = some (.bool yd) ∧ (w').cell? ⟨w.heap.size + 1, 1, none⟩ = some (.string yn) ∧ (w').cell? ⟨w.heap.size + 1, 2, none⟩ = some (.int .i64 (gy : Int)) ∧ (w').cell? ⟨w.heap.size + 1, 3, none⟩ = some (.string yw) ∧ (w').cell? ⟨w.heap.size + 1, 4, none⟩ = some (.string yc) ∧ (w').cell? ⟨w.heap.size + 1, 5, none⟩ = some (.int .u64 (cy : Int)) ∧ (w').cell? ⟨w2.heap.size, 0, none⟩ = some (.slice (some ⟨g, 0, none⟩) 4 cap) ∧ (w').cell? ⟨g, 0, none⟩ = some (.string m0) ∧ (w').cell? ⟨g, 1, none⟩ = some (.string m1) ∧ (w').cell? ⟨g, 2, none⟩ = some (.string m2) ∧ (w').cell? ⟨g, 3, none⟩ = some (.string m3) ∧ St w4 (w'))
    (first | exact HS0.out 1 | (obtain ⟨s1, s2, s3, s4, s5, s6, s7, s8, s9, s10, s11, s12, s13, s14, s15, s16, s17⟩ := (‹_ ∧ _ ∧ _ ∧ _ ∧ _ ∧ _ ∧ _ ∧ _ ∧ _ ∧ _ ∧ _ ∧ _ ∧ _ ∧ _ ∧ _ ∧ _ ∧ St _ _›); exact ⟨cell_keep (by assumption) s1, cell_keep (by assumption) s2, cell_keep (by assumption) s3, cell_keep (by assumption) s4, cell_keep (by assumption) s5, cell_keep (by assumption) s6, cell_keep (by assumption) s7, cell_keep (by assumption) s8, cell_keep (by assumption) s9, cell_keep (by assumption) s10, cell_keep (by assumption) s11, cell_keep (by assumption) s12, cell_keep (by assumption) s13, cell_keep (by assumption) s14, cell_keep (by assumption) s15, cell_keep (by assumption) s16, s17.keep (by assumption)⟩))
    (first
      | (go_at_call_of 23 (Value.bool true); refine (PA.out _ ((‹_ ∧ _ ∧ _ ∧ _ ∧ _ ∧ _ ∧ _ ∧ _ ∧ _ ∧ _ ∧ _ ∧ _ ∧ _ ∧ _ ∧ _ ∧ _ ∧ St _ _›).2.2.2.2.2.2.2.2.2.2.2.2.2.2.2.2.tabs)).mono ?_; rintro e w5 ⟨rfl, b5⟩)
      | (go_at_call_of 23 (Value.bool false); refine (PB.out _ ((‹_ ∧ _ ∧ _ ∧ _ ∧ _ ∧ _ ∧ _ ∧ _ ∧ _ ∧ _ ∧ _ ∧ _ ∧ _ ∧ _ ∧ _ ∧ _ ∧ St _ _›).2.2.2.2.2.2.2.2.2.2.2.2.2.2.2.2.tabs)).mono ?_; rintro e w5 ⟨rfl, b5⟩))
  have HSZ := Lib.hid (‹_ ∧ _ ∧ _ ∧ _ ∧ _ ∧ _ ∧ _ ∧ _ ∧ _ ∧ _ ∧ _ ∧ _ ∧ _ ∧ _ ∧ _ ∧ _ ∧ St _ _›)
  all_goals
    clear c1 c2 c3 c4 c5 d0 d1 d2 d3 d4 d5 cN cg0 cg1 cg2 cg3 HS0
    obtain ⟨c1, c2, c3, c4, c5, d0, d1, d2, d3, d4, d5, cN, cg0, cg1, cg2, cg3, st5⟩ := HSZ.out
    have S5 := Lib.hid (S4.out.keep st5.bel)
    have XB5 := Lib.hid ((XB2'.out.below SS4.out.st.bel XB2'.out.lt).below st5.bel (Nat.lt_of_lt_of_le XB2'.out.lt SS4.out.st.bel.size))
    have BG := Lib.hid (Nat.lt_of_lt_of_le LTG.out st5.bel.size)
    have BN := Lib.hid (Nat.lt_of_lt_of_le LTN.out st5.bel.size)
    have AG := Lib.hid (Blk.new w5 26 #[.bool yd, .string yn, .int .i64 (gy : Int), .string yw, .string yc, .int .u64 (o : Int)])
    have BA6 := Lib.hid ((Below.refl w5.heap.size w5).alloc (Nat.le_refl _) (.cells #[.bool yd, .string yn, .int .i64 (gy : Int), .string yw, .string yc, .int .u64 (o : Int)] 26))
    clear st5 HSZ
    go_upto_region 11 with (fail)
    generalize w5.alloc (.cells #[.bool yd, .string yn, .int .i64 (gy : Int), .string yw, .string yc, .int .u64 (o : Int)] 26) = w6 at AG BA6 ⊢
    have S6 := Lib.hid (S5.out.keep BA6.out)
    have XB6 := Lib.hid (XB5.out.below BA6.out XB5.out.lt)
    have kN := cell_keep BA6.out cN
    have kg0 := cell_keep BA6.out cg0
    have kg1 := cell_keep BA6.out cg1
    have kg2 := cell_keep BA6.out cg2
    have kg3 := cell_keep BA6.out cg3
    have KN := Lib.hid kN
    have KG0 := Lib.hid kg0
    have KG1 := Lib.hid kg1
    have KG2 := Lib.hid kg2
    have KG3 := Lib.hid kg3
    clear c1 c2 c3 c4 c5 d0 d1 d2 d3 d4 d5 cN cg0 cg1 cg2 cg3 kN kg0 kg1 kg2 kg3
    have a1 := AG.out.cell 1
    have a2 := AG.out.cell 2
    have a4 := AG.out.cell 4
    have a5 := AG.out.cell 5
    simp only [List.getElem?_toArray, List.getElem?_cons_zero, List.getElem?_cons_succ] at a1 a2 a4 a5
    have BS6 := Lib.hid BA6.out.size
    clear BA6
    generalize w5.heap.size = A at a1 a2 a4 a5 ⊢
    have SS6 := Lib.hid (Ss.ofSt (St.refl S6.out.tabs))
    go_wp2_with fail
    refine (LC.out _).mono ?_
    rintro e w7 ⟨B, rfl, gB, kB, b7⟩
    have SS7 := Lib.hid (SS6.out.add kB gB b7)
    have GB := Lib.hid gB
    clear gB kB b7 SS6 a1 a2 a4 a5
    have n1' := cell_keep SS7.out.st.bel KN.out
    have n2' := cell_keep SS7.out.st.bel KG0.out
    go_wp2_with fail
    refine (T1.out _ _ B SS7.out).mono ?_
    rintro e w8 ⟨rfl, s8⟩
    have SS8 := Lib.hid s8
    clear s8 SS7 n1' n2'
    go_wp2_with fail
    refine (T2.out _ _ B SS8.out).mono ?_
    rintro e w9 ⟨rfl, s9⟩
    have SS9 := Lib.hid s9
    clear s9 SS8
    have n1' := cell_keep SS9.out.st.bel KN.out
    have n2' := cell_keep SS9.out.st.bel KG2.out
    go_wp2_with fail
    refine (T3.out _ _ B SS9.out).mono ?_
    rintro e w10 ⟨rfl, s10⟩
    have SS10 := Lib.hid s10
    clear s10 SS9 n1' n2'
    have XB10 := Lib.hid (XB6.out.below SS10.out.st.bel XB6.out.lt)
    have x5 := XB10.out.cell 5
    simp only [List.getElem?_toArray, List.getElem?_cons_zero, List.getElem?_cons_succ] at x5
    have xf := XB10.out.frozen 5
    have OX := Lib.hid (Only.setCell (bs := [w.heap.size]) w10 ⟨w.heap.size, 5, none⟩ (.int .u64 (o : Int)) (by simp))
    have hNx : w2.heap.size ≠ w.heap.size := by have := hxy.out; omega
    have hgx : g ≠ w.heap.size := by have := hxy.out; have := LG.out; omega
    have hBx : B ≠ w.heap.size := by have := GB.out; have := XB6.out.lt; omega
    have XB11 := Lib.hid (XB10.out.set_ 5 (.int .u64 (o : Int)))
    have KN11 := Lib.hid (cell_only OX.out (cell_keep SS10.out.st.bel KN.out) (by simpa using hNx))
    have KG011 := Lib.hid (cell_only OX.out (cell_keep SS10.out.st.bel KG0.out) (by simpa using hgx))
    have KG111 := Lib.hid (cell_only OX.out (cell_keep SS10.out.st.bel KG1.out) (by simpa using hgx))
    have KG311 := Lib.hid (cell_only OX.out (cell_keep SS10.out.st.bel KG3.out) (by simpa using hgx))
    have KB11 := Lib.hid ((SS10.out.get 0 rfl).only OX.out (by simpa using hBx))
    have TB11 := Lib.hid (SS10.out.st.tabs.only OX.out (by have := HTW.out; simp; omega) (by have := HTW.out; simp; omega))
    have BE11 := Lib.hid ((S6.out.keep SS10.out.st.bel).bel.setCell (p := ⟨w.heap.size, 5, none⟩) (Nat.le_refl _) (.int .u64 (o : Int)))
    clear hNx hgx hBx OX KN KG0 KG1 KG2 KG3 S6 XB6 SS10 XB10
    go_upto_region 18 with (fail)
    generalize w10.setCell ⟨w.heap.size, 5, none⟩ (.int .u64 (o : Int)) = w11 at XB11 KN11 KG011 KG111 KG311 KB11 TB11 BE11 ⊢
    clear x5 xf
    have x1 := XB11.out.cell 1
    have x2 := XB11.out.cell 2
    have x3 := XB11.out.cell 3
    have x4 := XB11.out.cell 4
    have x5 := XB11.out.cell 5
    simp at x1 x2 x3 x4 x5
    have SS11 := Lib.hid (Ss.ofSt (St.refl TB11.out))
    go_wp2_with fail
    refine (DC.out _).mono ?_
    rintro e w12 ⟨M, rfl, gB, kB, b12⟩
    have SS12 := Lib.hid (SS11.out.add kB gB b12)
    clear gB kB b12 SS11 x1 x2 x3 x4 x5
    have n1' := cell_keep SS12.out.st.bel KN11.out
    have n2' := cell_keep SS12.out.st.bel KG011.out
    have n3' := cell_keep SS12.out.st.bel KG111.out
    go_wp2_with fail
    refine (T4.out _ _ M SS12.out).mono ?_
    rintro e w13 ⟨rfl, s13⟩
    have SS13 := Lib.hid s13
    clear s13 SS12 n1' n2' n3'
    have n1' := cell_keep SS13.out.st.bel KN11.out
    have n2' := cell_keep SS13.out.st.bel KG311.out
    go_wp2_with fail
    refine (T5.out _ _ M SS13.out).mono ?_
    rintro e w14 ⟨rfl, s14⟩
    have SS14 := Lib.hid s14
    clear s14 SS13 n1' n2'
    go_wp2_with fail
    refine (SK.out _ B (KB11.out.below SS14.out.st.bel KB11.out.lt)).mono ?_
    rintro e w' ⟨rfl, rfl⟩
    go_wp2_with fail
    refine (SN.out _ M (SS14.out.get 0 rfl)).mono ?_
    rintro e w' ⟨rfl, rfl⟩
    go_wp2_with fail
    refine (AW.out _ SS14.out.st.tabs).mono ?_
    rintro e w15 ⟨rfl, b15⟩
    have BE15 := Lib.hid (BE11.out.trans (((SS14.out.st.keep b15).bel).mono BE11.out.size))
    clear b15
    go_wp2
    go_ret
    exact ⟨rfl, BE15.out⟩
set_option maxRecDepth 100000 in
set_option maxHeartbeats 4000000 in
theorem replays_r1 (xd yd : Bool) (xn xw xc yn yw yc : ByteArray) (gx gy cx cy : Nat) (o : Nat) (w : World) (ht : Tabs w) (sx : StgSz (⟨xd, xn, gx, xw, xc, cx⟩ : Stg)) (sy : StgSz (⟨yd, yn, gy, yw, yc, cy⟩ : Stg)) (hlx : longB (⟨xd, xn, gx, xw, xc, cx⟩ : Stg) = false) (hly : longB (⟨yd, yn, gy, yw, yc, cy⟩ : Stg) = false)
    (hx : cx ≤ 18446744073709551615) (hy : cy ≤ 18446744073709551615) (ho : o ≤ 18446744073709551615) (hd : dialB xn gx xw = true) (hv : (nameF yn && genI gy) = true) (h1 : bothB ⟨xn, gx⟩ ⟨yn, gy⟩ xw xc yc cx cy 1 = true) (h2 : o ≠ cy) (h3 : o ≠ cx) (h4 : seqB (proofD ⟨xn, gx⟩ ⟨yn, gy⟩ yc cx o) (proofD ⟨xn, gx⟩ ⟨yn, gy⟩ xc cx cy) = true) :
    Calls Tryd.prog 6 #[stgV (⟨xd, xn, gx, xw, xc, cx⟩ : Stg), stgV (⟨yd, yn, gy, yw, yc, cy⟩ : Stg), .int .u64 (o : Int)] w fun e w' => e = .returned (.bool true) ∧ Below w.heap.size w w' := by
  have X0 := Lib.hid (Bx.of (x := (⟨xd, xn, gx, xw, xc, cx⟩ : Stg)) ((Blk.new w 26 #[.bool xd, .string xn, .int .i64 gx, .string xw, .string xc, .int .u64 (cx : Int)]).alloc (.cells #[.bool yd, .string yn, .int .i64 gy, .string yw, .string yc, .int .u64 (cy : Int)] 26)))
  have Y0 := Lib.hid (Bx.of (x := (⟨yd, yn, gy, yw, yc, cy⟩ : Stg)) (Blk.new (w.alloc (.cells #[.bool xd, .string xn, .int .i64 gx, .string xw, .string xc, .int .u64 (cx : Int)] 26)) 26 #[.bool yd, .string yn, .int .i64 gy, .string yw, .string yc, .int .u64 (cy : Int)]))
  have S0 := Lib.hid (((St.refl ht).alloc (.cells #[.bool xd, .string xn, .int .i64 gx, .string xw, .string xc, .int .u64 (cx : Int)] 26)).alloc (.cells #[.bool yd, .string yn, .int .i64 gy, .string yw, .string yc, .int .u64 (cy : Int)] 26))
  have CX : Hid (∀ W, Calls Tryd.prog 10 #[.agg #[.bool xd, .string xn, .int .i64 gx, .string xw, .string xc, .int .u64 (cx : Int)], .slice none 0 0] W fun e w' => e = .returned (.bool false) ∧ Below W.heap.size W w') := by
    refine Lib.hid fun W => ?_
    have := longN_any (⟨xd, xn, gx, xw, xc, cx⟩ : Stg) sx.n sx.w sx.c W
    rw [hlx] at this
    exact this
  have CY : Hid (∀ W, Calls Tryd.prog 10 #[.agg #[.bool yd, .string yn, .int .i64 gy, .string yw, .string yc, .int .u64 (cy : Int)], .slice none 0 0] W fun e w' => e = .returned (.bool false) ∧ Below W.heap.size W w') := by
    refine Lib.hid fun W => ?_
    have := longN_any (⟨yd, yn, gy, yw, yc, cy⟩ : Stg) sy.n sy.w sy.c W
    rw [hly] at this
    exact this
  have AW := Lib.hid (fun W (t : Tabs W) => awakeS_any W t)
  have lx : xw.size + xc.size + xn.size ≤ 6000 := by
    have := of_decide_eq_false hlx
    dsimp only at this
    omega
  have ly : yw.size + yc.size + yn.size ≤ 6000 := by
    have := of_decide_eq_false hly
    dsimp only at this
    omega
  obtain ⟨p1, p2, p3⟩ := dialB_parts hd
  have okx := prOk_of p1
  have oky := prOk_of hv
  have RM : Hid (∀ w0 W N, Tabs w0 → St w0 W → Boxed W N 57 (.slice none 0 0) → w0.heap.size ≤ N → Calls Tryd.prog 18 #[stgV (⟨xd, xn, gx, xw, xc, cx⟩ : Stg), stgV (⟨yd, yn, gy, yw, yc, cy⟩ : Stg), .int .i64 1, .func (.func 22) #[] #[.pointer (some ⟨N, 0, none⟩)]] W (RunOutR w0 N (runF (dialS ⟨xn, gx⟩ xw xc cx) (listenS ⟨yn, gy⟩ yc cy) (helloF ⟨xn, gx⟩ xw) 1 mId))) :=
    Lib.hid (fun w0 W N t st hb lo => runR_made xd yd xn xw xc yn yw yc gx gy cx cy 1 w0 W t st N hb lo ⟨by omega, by omega, by omega⟩ (by omega) hx hy hd hv)
  unfold stgV at RM
  have RD := run_done ⟨xn, gx⟩ ⟨yn, gy⟩ okx oky xw xc yc cx cy hx hy p2 h1
  rw [RD] at RM
  obtain ⟨d, hdd⟩ : ∃ s, s = dia2 ⟨xn, gx⟩ xw xc cx ⟨yn, gy⟩ cy := ⟨_, rfl⟩
  obtain ⟨l, hll⟩ : ∃ s, s = lis3 ⟨yn, gy⟩ yc cy ⟨xn, gx⟩ cx := ⟨_, rfl⟩
  obtain ⟨m0, hm0⟩ : ∃ s, s = helloF ⟨xn, gx⟩ xw := ⟨_, rfl⟩
  obtain ⟨m1, hm1⟩ : ∃ s, s = offerM ⟨yn, gy⟩ cy := ⟨_, rfl⟩
  obtain ⟨pD, hpD⟩ : ∃ s, s = proofD ⟨xn, gx⟩ ⟨yn, gy⟩ xc cx cy := ⟨_, rfl⟩
  obtain ⟨pL, hpL⟩ : ∃ s, s = proofL ⟨xn, gx⟩ ⟨yn, gy⟩ yc cx cy := ⟨_, rfl⟩
  have zD : pD.size = 32 := by rw [hpD]; exact proofD_size _ _ _ _ _
  have zL : pL.size = 32 := by rw [hpL]; exact proofL_size _ _ _ _ _
  have r2t := reply_tail cx pD
  have r3t := ack_tail pL
  have r2z := replyM_size cx pD zD
  have r3z : (ackC ++ pL).size = 33 := by rw [ByteArray.size_append, zL]; rfl
  rw [← hpD, ← hpL, ← hdd, ← hll, ← hm0, ← hm1] at RM
  obtain ⟨m2, hm2⟩ : ∃ s, s = replyM cx pD := ⟨_, rfl⟩
  obtain ⟨m3, hm3⟩ : ∃ s, s = ackC ++ pL := ⟨_, rfl⟩
  rw [← hm2] at RM r2t r2z
  rw [← hm3] at RM r3t r3z
  have STd : Hid (∀ W D, Blk W D 46 (sdC d) → Calls Tryd.prog 16 #[.pointer (some ⟨D, 0, none⟩)] W fun e w' => e = .returned (.int .i64 3) ∧ W = w') := Lib.hid (fun W D h => by have := state_any d D W h; rw [hdd] at this; exact this)
  have STl : Hid (∀ W D, Blk W D 46 (sdC l) → Calls Tryd.prog 16 #[.pointer (some ⟨D, 0, none⟩)] W fun e w' => e = .returned (.int .i64 3) ∧ W = w') := Lib.hid (fun W D h => by have := state_any l D W h; rw [hll] at this; exact this)
  have g2 : decide ((m2.size : Int) < 9) = false := decide_eq_false (by omega)
  have g3 : decide ((m3.size : Int) < 1) = false := decide_eq_false (by omega)
  have t1 : ((o : Int) == cy) = false := beq_eq_false_iff_ne.2 (by omega)
  have t2 : ((o : Int) == cx) = false := beq_eq_false_iff_ne.2 (by omega)
  have v9 : (9 : Int) ≤ (m2.size : Int) := by omega
  have v1 : (1 : Int) ≤ (m3.size : Int) := by omega
  obtain ⟨pa, hpa⟩ : ∃ s, s = proofD ⟨xn, gx⟩ ⟨yn, gy⟩ yc cx o := ⟨_, rfl⟩
  obtain ⟨pb, hpb⟩ : ∃ s, s = proofL ⟨xn, gx⟩ ⟨yn, gy⟩ xc o cy := ⟨_, rfl⟩
  have PA : Hid (∀ W, Tabs W → Calls Tryd.prog 23 #[.bool true, .agg #[.string xn, .int .i64 (gx : Int)], .agg #[.string yn, .int .i64 (gy : Int)], .string yc, .int .u64 (cx : Int), .int .u64 (o : Int)] W fun e w' => e = .returned (.string pa) ∧ Below W.heap.size W w') :=
    Lib.hid (fun W t => by rw [hpa]; exact proofR_D ⟨xn, gx⟩ ⟨yn, gy⟩ yc o cx (nameF_size _ okx.1).2 (nameF_size _ oky.1).2 okx.2.2 oky.2.2 (by omega) ho hx W t)
  have PB : Hid (∀ W, Tabs W → Calls Tryd.prog 23 #[.bool false, .agg #[.string xn, .int .i64 (gx : Int)], .agg #[.string yn, .int .i64 (gy : Int)], .string xc, .int .u64 (o : Int), .int .u64 (cy : Int)] W fun e w' => e = .returned (.string pb) ∧ Below W.heap.size W w') :=
    Lib.hid (fun W t => by rw [hpb]; exact proofR_L ⟨yn, gy⟩ ⟨xn, gx⟩ xc o cy (nameF_size _ oky.1).2 (nameF_size _ okx.1).2 oky.2.2 okx.2.2 (by omega) ho hy W t)
  have u1 : (pa.toList == pD.toList) = true := by rw [hpa, hpD]; exact h4
  have ho0 := ho
  clear ho0
  clear ht sx sy hlx hly hd hv lx ly p1 p2 p3 okx oky hx hy ho RD hdd hll hm0 hm1 hpD hpL zD zL r2z r3z hm2 hm3 h1 h2 h3 hpa hpb h4
  have hmf : ∀ (fn : Fn) (first cap : Array Value) (w : World), (Instr.makeFunc fn first cap).run Tryd.prog w = .ok (.func fn first cap) w := fun _ _ _ _ => rfl
  unfold stgV
  go_enter Tryd.func6, Tryd.ntmps6
  obtain ⟨c0, c1, c2, c3, c4, c5⟩ := X0.out
  obtain ⟨d0, d1, d2, d3, d4, d5⟩ := Y0.out
  dsimp only at c0 c1 c2 c3 c4 c5
  simp only [World.size_alloc] at d0 d1 d2 d3 d4 d5
  go_wp2_with fail
  refine (CX.out _).mono ?_
  rintro e w1 ⟨rfl, b1⟩
  have S1 := Lib.hid (S0.out.keep b1)
  clear c0 c1 c2 c3 c4 c5 d0 d1 d2 d3 d4 d5
  have X1 := Lib.hid (X0.out.below b1)
  have Y1 := Lib.hid (Y0.out.below b1)
  obtain ⟨c0, c1, c2, c3, c4, c5⟩ := X1.out
  obtain ⟨d0, d1, d2, d3, d4, d5⟩ := Y1.out
  dsimp only at c0 c1 c2 c3 c4 c5
  simp only [World.size_alloc] at d0 d1 d2 d3 d4 d5
  clear b1 S0 X0 Y0
  go_wp2_with fail
  refine (CY.out _).mono ?_
  rintro e w2 ⟨rfl, b2⟩
  have S2 := Lib.hid (S1.out.keep b2)
  clear c0 c1 c2 c3 c4 c5 d0 d1 d2 d3 d4 d5
  have X2 := Lib.hid (X1.out.below b2)
  have Y2 := Lib.hid (Y1.out.below b2)
  obtain ⟨c0, c1, c2, c3, c4, c5⟩ := X2.out
  obtain ⟨d0, d1, d2, d3, d4, d5⟩ := Y2.out
  dsimp only at c0 c1 c2 c3 c4 c5
  simp only [World.size_alloc] at d0 d1 d2 d3 d4 d5
  clear b2 S1 X1 Y1
  have BA : Below w2.heap.size w2 (w2.alloc (.cells #[.slice none 0 0] 57)) := (Below.refl _ _).alloc (Nat.le_refl _) _
  have X3 := Lib.hid (X2.out.below BA)
  have Y3 := Lib.hid (Y2.out.below BA)
  have S3 := Lib.hid (S2.out.keep BA)
  have Q3 := Lib.hid ((St.refl S2.out.tabs).keep BA)
  have N3 := Lib.hid (Boxed.new w2 57 (.slice none 0 0))
  have T2 := Lib.hid S2.out.tabs
  have hxy : Hid (w.heap.size < w2.heap.size ∧ w.heap.size + 1 < w2.heap.size) := Lib.hid ⟨World.block_lt_of_cell? w2 _ c0, World.block_lt_of_cell? w2 _ d0⟩
  clear BA
  go_upto_region 4 with (fail)
  generalize w2.alloc (.cells #[.slice none 0 0] 57) = w3 at X3 Y3 S3 Q3 N3 ⊢
  clear c0 c1 c2 c3 c4 c5 d0 d1 d2 d3 d4 d5
  have X2' := X2
  have Y2' := Y2
  clear X2 Y2
  obtain ⟨c0, c1, c2, c3, c4, c5⟩ := X3.out
  obtain ⟨d0, d1, d2, d3, d4, d5⟩ := Y3.out
  dsimp only at c0 c1 c2 c3 c4 c5
  simp only [World.size_alloc] at d0 d1 d2 d3 d4 d5
  go_wp2_with fail
  refine (RM.out w2 _ _ T2.out Q3.out N3.out (Nat.le_refl _)).mono ?_
  rintro e w4 ⟨D, K, rfl, ss, sd⟩
  have SS4 := Lib.hid ss
  have SD4 := Lib.hid sd
  clear ss sd
  clear c0 c1 c2 c3 c4 c5 d0 d1 d2 d3 d4 d5
  have S4 := Lib.hid (S2.out.keep SS4.out.st.bel)
  have X4 := Lib.hid (X2'.out.below SS4.out.st.bel)
  have Y4 := Lib.hid (Y2'.out.below SS4.out.st.bel)
  clear X3 Y3 S3 Q3 N3 T2
  obtain ⟨c0, c1, c2, c3, c4, c5⟩ := X4.out
  obtain ⟨d0, d1, d2, d3, d4, d5⟩ := Y4.out
  dsimp only at c0 c1 c2 c3 c4 c5
  simp only [World.size_alloc] at d0 d1 d2 d3 d4 d5
  obtain ⟨g, cap, cN, cg0, cg1, cg2, cg3, lg, ltg, lN, ltN⟩ := said_cells SD4.out
  have LTG := Lib.hid ltg
  have LTN := Lib.hid ltN
  have LG := Lib.hid lg
  clear lg lN ltg ltN
  go_wp2_with fail
  refine (STd.out _ D (SS4.out.get 0 rfl)).mono ?_
  rintro e w' ⟨rfl, rfl⟩
  go_wp2_with fail
  refine (STl.out _ K (SS4.out.get 1 rfl)).mono ?_
  rintro e w' ⟨rfl, rfl⟩
  have HS0 : Hid (∀ n, (w4.drewN n).cell? ⟨w.heap.size, 1, none⟩ = some (.string xn) ∧ (w4.drewN n).cell? ⟨w.heap.size, 2, none⟩ = some (.int .i64 (gx : Int)) ∧ (w4.drewN n).cell? ⟨w.heap.size, 3, none⟩ = some (.string xw) ∧ (w4.drewN n).cell? ⟨w.heap.size, 4, none⟩ = some (.string xc) ∧ (w4.drewN n).cell? ⟨w.heap.size, 5, none⟩ = some (.int .u64 (cx : Int)) ∧ (w4.drewN n).cell? ⟨w.heap.size + 1, 0, none⟩ = some (.bool yd) ∧ (w4.drewN n).cell? ⟨w.heap.size + 1, 1, none⟩ = some (.string yn) ∧ (w4.drewN n).cell? ⟨w.heap.size + 1, 2, none⟩ = some (.int .i64 (gy : Int)) ∧ (w4.drewN n).cell? ⟨w.heap.size + 1, 3, none⟩ = some (.string yw) ∧ (w4.drewN n).cell? ⟨w.heap.size + 1, 4, none⟩ = some (.string yc) ∧ (w4.drewN n).cell? ⟨w.heap.size + 1, 5, none⟩ = some (.int .u64 (cy : Int)) ∧ (w4.drewN n).cell? ⟨w2.heap.size, 0, none⟩ = some (.slice (some ⟨g, 0, none⟩) 4 cap) ∧ (w4.drewN n).cell? ⟨g, 0, none⟩ = some (.string m0) ∧ (w4.drewN n).cell? ⟨g, 1, none⟩ = some (.string m1) ∧ (w4.drewN n).cell? ⟨g, 2, none⟩ = some (.string m2) ∧ (w4.drewN n).cell? ⟨g, 3, none⟩ = some (.string m3) ∧ St w4 (w4.drewN n)) := Lib.hid (fun n => ⟨c1, c2, c3, c4, c5, d0, d1, d2, d3, d4, d5, cN, cg0, cg1, cg2, cg3, (St.refl SS4.out.st.tabs).drewN n⟩)
  go_wp2
  refine wp_region_held_drew (S := fun w' => (w').cell? ⟨w.heap.size, 1, none⟩ = some (.string xn) ∧ (w').cell? ⟨w.heap.size, 2, none⟩ = some (.int .i64 (gx : Int)) ∧ (w').cell? ⟨w.heap.size, 3, none⟩ = some (.string xw) ∧ (w').cell? ⟨w.heap.size, 4, none⟩ = some (.string xc) ∧ (w').cell? ⟨w.heap.size, 5, none⟩ = some (.int .u64 (cx : Int)) ∧ (w').cell? ⟨w.heap.size + 1, 0, none⟩ = some (.bool yd) ∧ (w').cell? ⟨w.heap.size + 1, 1, none⟩ = some (.string yn) ∧ (w').cell? ⟨w.heap.size + 1, 2, none⟩ = some (.int .i64 (gy : Int)) ∧ (w').cell? ⟨w.heap.size + 1, 3, none⟩ = some (.string yw) ∧ (w').cell? ⟨w.heap.size + 1, 4, none⟩ = some (.string yc) ∧ (w').cell? ⟨w.heap.size + 1, 5, none⟩ = some (.int .u64 (cy : Int)) ∧ (w').cell? ⟨w2.heap.size, 0, none⟩ = some (.slice (some ⟨g, 0, none⟩) 4 cap) ∧ (w').cell? ⟨g, 0, none⟩ = some (.string m0) ∧ (w').cell? ⟨g, 1, none⟩ = some (.string m1) ∧ (w').cell? ⟨g, 2, none⟩ = some (.string m2) ∧ (w').cell? ⟨g, 3, none⟩ = some (.string m3) ∧ St w4 (w')) (by kernel_rfl) ?_ (fun hHeld => ?_)
  · exact HS0.out 1
  refine wpAnyH_take (i := 0) (v := ?_) rfl (by kernel_rfl) (by kernel_rfl) (by kernel_rfl) (fun _ _ _ h => h) (Or.inl ⟨by rfl, ?_⟩) (by assumption) ?_
  rotate_left
  · intro w hSw
    go_simp
    with_reducible rfl
  change wpAnyH _ _ _ _ _ _ _ (Act.put _ (some 78) _) _
  simp only [Act.put, List.setIfInBounds_toArray, List.set_cons_zero, List.set_cons_succ]
  refine wpAnyH_take (i := 1) (v := ?_) rfl (by kernel_rfl) (by kernel_rfl) (by kernel_rfl) (fun _ _ _ h => h) (Or.inl ⟨by rfl, ?_⟩) (by assumption) ?_
  rotate_left
  · intro w hSw
    go_simp
    with_reducible rfl
  change wpAnyH _ _ _ _ _ _ _ (Act.put _ (some 79) _) _
  simp only [Act.put, List.setIfInBounds_toArray, List.set_cons_zero, List.set_cons_succ]
  refine wpAnyH_take (i := 2) (v := ?_) rfl (by kernel_rfl) (by kernel_rfl) (by kernel_rfl) (fun _ _ _ h => h) (Or.inl ⟨by rfl, ?_⟩) (by assumption) ?_
  rotate_left
  · intro w hSw
    go_simp
    with_reducible rfl
  change wpAnyH _ _ _ _ _ _ _ (Act.put _ (some 80) _) _
  simp only [Act.put, List.setIfInBounds_toArray, List.set_cons_zero, List.set_cons_succ]
  refine wpAnyH_take (i := 3) (v := ?_) rfl (by kernel_rfl) (by kernel_rfl) (by kernel_rfl) (fun _ _ _ h => h) (Or.inl ⟨by rfl, ?_⟩) (by assumption) ?_
  rotate_left
  · intro w hSw
    go_simp
    with_reducible rfl
  change wpAnyH _ _ _ _ _ _ _ (Act.put _ (some 81) _) _
  simp only [Act.put, List.setIfInBounds_toArray, List.set_cons_zero, List.set_cons_succ]
  refine wpAnyH_take (i := 4) (v := ?_) rfl (by kernel_rfl) (by kernel_rfl) (by kernel_rfl) (fun _ _ _ h => h) (Or.inl ⟨by rfl, ?_⟩) (by assumption) ?_
  rotate_left
  · intro w hSw
    go_simp
    with_reducible rfl
  change wpAnyH _ _ _ _ _ _ _ (Act.put _ (some 82) _) _
  simp only [Act.put, List.setIfInBounds_toArray, List.set_cons_zero, List.set_cons_succ]
  refine wpAnyH_take (i := 5) (v := ?_) rfl (by kernel_rfl) (by kernel_rfl) (by kernel_rfl) (fun _ _ _ h => h) (Or.inl ⟨by rfl, ?_⟩) (by assumption) ?_
  rotate_left
  · intro w hSw
    go_simp
    with_reducible rfl
  change wpAnyH _ _ _ _ _ _ _ (Act.put _ (some 83) _) _
  simp only [Act.put, List.setIfInBounds_toArray, List.set_cons_zero, List.set_cons_succ]
  refine wpAnyH_take (i := 6) (v := ?_) rfl (by kernel_rfl) (by kernel_rfl) (by kernel_rfl) (fun _ _ _ h => h) (Or.inl ⟨by rfl, ?_⟩) (by assumption) ?_
  rotate_left
  · intro w hSw
    go_simp
    with_reducible rfl
  change wpAnyH _ _ _ _ _ _ _ (Act.put _ (some 84) _) _
  simp only [Act.put, List.setIfInBounds_toArray, List.set_cons_zero, List.set_cons_succ]
  refine wpAnyH_take (i := 7) (v := ?_) rfl (by kernel_rfl) (by kernel_rfl) (by kernel_rfl) (fun _ _ _ h => h) (Or.inl ⟨by rfl, ?_⟩) (by assumption) ?_
  rotate_left
  · intro w hSw
    go_simp
    with_reducible rfl
  change wpAnyH _ _ _ _ _ _ _ (Act.put _ (some 85) _) _
  simp only [Act.put, List.setIfInBounds_toArray, List.set_cons_zero, List.set_cons_succ]
  refine wpAnyH_take (i := 8) (v := ?_) rfl (by kernel_rfl) (by kernel_rfl) (by kernel_rfl) (fun _ _ _ h => h) (Or.inl ⟨by rfl, ?_⟩) (by assumption) ?_
  rotate_left
  · intro w hSw
    go_simp
    with_reducible rfl
  change wpAnyH _ _ _ _ _ _ _ (Act.put _ (some 86) _) _
  simp only [Act.put, List.setIfInBounds_toArray, List.set_cons_zero, List.set_cons_succ]
  refine wpAnyH_take (i := 10) (v := ?_) rfl (by kernel_rfl) (by kernel_rfl) (by kernel_rfl) (fun _ _ _ h => h) (Or.inl ⟨by rfl, ?_⟩) (by assumption) ?_
  rotate_left
  · intro w hSw
    go_simp
    with_reducible rfl
  change wpAnyH _ _ _ _ _ _ _ (Act.put _ (some 88) _) _
  simp only [Act.put, List.setIfInBounds_toArray, List.set_cons_zero, List.set_cons_succ]
  refine wpAnyH_take (i := 11) (v := ?_) rfl (by kernel_rfl) (by kernel_rfl) (by kernel_rfl) (fun _ _ _ h => h) (Or.inl ⟨by rfl, ?_⟩) (by assumption) ?_
  rotate_left
  · intro w hSw
    go_simp
    with_reducible rfl
  change wpAnyH _ _ _ _ _ _ _ (Act.put _ (some 89) _) _
  simp only [Act.put, List.setIfInBounds_toArray, List.set_cons_zero, List.set_cons_succ]
  refine wpAnyH_take (i := 12) (v := ?_) rfl (by kernel_rfl) (by kernel_rfl) (by kernel_rfl) (fun _ _ _ h => h) (Or.inl ⟨by rfl, ?_⟩) (by assumption) ?_
  rotate_left
  · intro w hSw
    go_simp
    with_reducible rfl
  change wpAnyH _ _ _ _ _ _ _ (Act.put _ (some 90) _) _
  simp only [Act.put, List.setIfInBounds_toArray, List.set_cons_zero, List.set_cons_succ]
  refine wpAnyH_take (i := 13) (v := ?_) rfl (by kernel_rfl) (by kernel_rfl) (by kernel_rfl) (fun _ _ _ h => h) (Or.inl ⟨by rfl, ?_⟩) (by assumption) ?_
  rotate_left
  · intro w hSw
    go_simp
    with_reducible rfl
  change wpAnyH _ _ _ _ _ _ _ (Act.put _ (some 91) _) _
  simp only [Act.put, List.setIfInBounds_toArray, List.set_cons_zero, List.set_cons_succ]
  refine wpAnyH_ready (rs := [9]) (by kernel_rfl) (by simp) ?_
  refine AllReadyH.cons rfl (fun K hK => ?_) ?_
  rotate_left
  · exact AllReadyH.nil
  go_simp
  go_at_call_of 23 (Value.bool true)
  refine (PA.out _ (hHeld.2.2.2.2.2.2.2.2.2.2.2.2.2.2.2.2.tabs)).mono ?_
  rintro e w5 ⟨rfl, b5⟩
  refine hK.out _ _ ?_ (fun hHeld2 => ?_)
  · obtain ⟨s1, s2, s3, s4, s5, s6, s7, s8, s9, s10, s11, s12, s13, s14, s15, s16, s17⟩ := hHeld
    exact ⟨cell_keep b5 s1, cell_keep b5 s2, cell_keep b5 s3, cell_keep b5 s4, cell_keep b5 s5, cell_keep b5 s6, cell_keep b5 s7, cell_keep b5 s8, cell_keep b5 s9, cell_keep b5 s10, cell_keep b5 s11, cell_keep b5 s12, cell_keep b5 s13, cell_keep b5 s14, cell_keep b5 s15, cell_keep b5 s16, s17.keep b5⟩
  clear hK K
  try simp only [Act.put, List.setIfInBounds_toArray, List.set_cons_zero, List.set_cons_succ]
  refine wpAnyH_take (i := 14) (v := ?_) rfl (by kernel_rfl) (by kernel_rfl) (by kernel_rfl) (fun _ _ _ h => h) (Or.inl ⟨by rfl, ?_⟩) (by assumption) ?_
  rotate_left
  · intro w hSw
    go_simp
    with_reducible rfl
  change wpAnyH _ _ _ _ _ _ _ (Act.put _ (some 92) _) _
  simp only [Act.put, List.setIfInBounds_toArray, List.set_cons_zero, List.set_cons_succ]
  refine wpAnyH_take (i := 15) (v := ?_) rfl (by kernel_rfl) (by kernel_rfl) (by kernel_rfl) (fun _ _ _ h => h) (Or.inl ⟨by rfl, ?_⟩) (by assumption) ?_
  rotate_left
  · intro w hSw
    go_simp
    with_reducible rfl
  change wpAnyH _ _ _ _ _ _ _ (Act.put _ (some 93) _) _
  simp only [Act.put, List.setIfInBounds_toArray, List.set_cons_zero, List.set_cons_succ]
  refine wpAnyH_take (i := 16) (v := undef) rfl (by kernel_rfl) (by kernel_rfl) (by kernel_rfl) (fun _ _ _ h => h) (Or.inr ⟨by kernel_rfl, rfl⟩) (by assumption) ?_
  change wpAnyH _ _ _ _ _ _ _ (Act.put _ (some 94) _) _
  simp only [Act.put, List.setIfInBounds_toArray, List.set_cons_zero, List.set_cons_succ]
  refine wpAnyH_take (i := 17) (v := undef) rfl (by kernel_rfl) (by kernel_rfl) (by kernel_rfl) (fun _ _ _ h => h) (Or.inr ⟨by kernel_rfl, rfl⟩) (by assumption) ?_
  change wpAnyH _ _ _ _ _ _ _ (Act.put _ (some 95) _) _
  simp only [Act.put, List.setIfInBounds_toArray, List.set_cons_zero, List.set_cons_succ]
  refine wpAnyH_take (i := 18) (v := undef) rfl (by kernel_rfl) (by kernel_rfl) (by kernel_rfl) (fun _ _ _ h => h) (Or.inr ⟨by kernel_rfl, rfl⟩) (by assumption) ?_
  change wpAnyH _ _ _ _ _ _ _ (Act.put _ (some 96) _) _
  simp only [Act.put, List.setIfInBounds_toArray, List.set_cons_zero, List.set_cons_succ]
  refine wpAnyH_take (i := 19) (v := undef) rfl (by kernel_rfl) (by kernel_rfl) (by kernel_rfl) (fun _ _ _ h => h) (Or.inr ⟨by kernel_rfl, rfl⟩) (by assumption) ?_
  change wpAnyH _ _ _ _ _ _ _ (Act.put _ (some 97) _) _
  simp only [Act.put, List.setIfInBounds_toArray, List.set_cons_zero, List.set_cons_succ]
  refine wpAnyH_take (i := 20) (v := undef) rfl (by kernel_rfl) (by kernel_rfl) (by kernel_rfl) (fun _ _ _ h => h) (Or.inr ⟨by kernel_rfl, rfl⟩) (by assumption) ?_
  change wpAnyH _ _ _ _ _ _ _ (Act.put _ (some 98) _) _
  simp only [Act.put, List.setIfInBounds_toArray, List.set_cons_zero, List.set_cons_succ]
  refine wpAnyH_take (i := 21) (v := undef) rfl (by kernel_rfl) (by kernel_rfl) (by kernel_rfl) (fun _ _ _ h => h) (Or.inr ⟨by kernel_rfl, rfl⟩) (by assumption) ?_
  change wpAnyH _ _ _ _ _ _ _ (Act.put _ (some 99) _) _
  simp only [Act.put, List.setIfInBounds_toArray, List.set_cons_zero, List.set_cons_succ]
  refine wpAnyH_take (i := 22) (v := undef) rfl (by kernel_rfl) (by kernel_rfl) (by kernel_rfl) (fun _ _ _ h => h) (Or.inr ⟨by kernel_rfl, rfl⟩) (by assumption) ?_
  change wpAnyH _ _ _ _ _ _ _ (Act.put _ (some 100) _) _
  simp only [Act.put, List.setIfInBounds_toArray, List.set_cons_zero, List.set_cons_succ]
  refine wpAnyH_take (i := 23) (v := undef) rfl (by kernel_rfl) (by kernel_rfl) (by kernel_rfl) (fun _ _ _ h => h) (Or.inr ⟨by kernel_rfl, rfl⟩) (by assumption) ?_
  change wpAnyH _ _ _ _ _ _ _ (Act.put _ (some 101) _) _
  simp only [Act.put, List.setIfInBounds_toArray, List.set_cons_zero, List.set_cons_succ]
  refine wpAnyH_take (i := 24) (v := undef) rfl (by kernel_rfl) (by kernel_rfl) (by kernel_rfl) (fun _ _ _ h => h) (Or.inr ⟨by kernel_rfl, rfl⟩) (by assumption) ?_
  change wpAnyH _ _ _ _ _ _ _ (Act.put _ (some 102) _) _
  simp only [Act.put, List.setIfInBounds_toArray, List.set_cons_zero, List.set_cons_succ]
  refine wpAnyH_take (i := 25) (v := undef) rfl (by kernel_rfl) (by kernel_rfl) (by kernel_rfl) (fun _ _ _ h => h) (Or.inr ⟨by kernel_rfl, rfl⟩) (by assumption) ?_
  change wpAnyH _ _ _ _ _ _ _ (Act.put _ (some 103) _) _
  simp only [Act.put, List.setIfInBounds_toArray, List.set_cons_zero, List.set_cons_succ]
  refine wpAnyH_take (i := 26) (v := undef) rfl (by kernel_rfl) (by kernel_rfl) (by kernel_rfl) (fun _ _ _ h => h) (Or.inr ⟨by kernel_rfl, rfl⟩) (by assumption) ?_
  change wpAnyH _ _ _ _ _ _ _ (Act.put _ (some 104) _) _
  simp only [Act.put, List.setIfInBounds_toArray, List.set_cons_zero, List.set_cons_succ]
  refine wpAnyH_take (i := 27) (v := undef) rfl (by kernel_rfl) (by kernel_rfl) (by kernel_rfl) (fun _ _ _ h => h) (Or.inr ⟨by kernel_rfl, rfl⟩) (by assumption) ?_
  change wpAnyH _ _ _ _ _ _ _ (Act.put _ (some 105) _) _
  simp only [Act.put, List.setIfInBounds_toArray, List.set_cons_zero, List.set_cons_succ]
  refine wpAnyH_take (i := 28) (v := undef) rfl (by kernel_rfl) (by kernel_rfl) (by kernel_rfl) (fun _ _ _ h => h) (Or.inr ⟨by kernel_rfl, rfl⟩) (by assumption) ?_
  change wpAnyH _ _ _ _ _ _ _ (Act.put _ (some 106) _) _
  simp only [Act.put, List.setIfInBounds_toArray, List.set_cons_zero, List.set_cons_succ]
  refine wpAnyH_take (i := 29) (v := undef) rfl (by kernel_rfl) (by kernel_rfl) (by kernel_rfl) (fun _ _ _ h => h) (Or.inr ⟨by kernel_rfl, rfl⟩) (by assumption) ?_
  change wpAnyH _ _ _ _ _ _ _ (Act.put _ (some 107) _) _
  simp only [Act.put, List.setIfInBounds_toArray, List.set_cons_zero, List.set_cons_succ]
  refine wpAnyH_take (i := 30) (v := undef) rfl (by kernel_rfl) (by kernel_rfl) (by kernel_rfl) (fun _ _ _ h => h) (Or.inr ⟨by kernel_rfl, rfl⟩) (by assumption) ?_
  change wpAnyH _ _ _ _ _ _ _ (Act.put _ (some 108) _) _
  simp only [Act.put, List.setIfInBounds_toArray, List.set_cons_zero, List.set_cons_succ]
  refine wpAnyH_take (i := 31) (v := ?_) rfl (by kernel_rfl) (by kernel_rfl) (by kernel_rfl) (fun _ _ _ h => h) (Or.inl ⟨by rfl, ?_⟩) (by assumption) ?_
  rotate_left
  · intro w hSw
    go_simp
    with_reducible rfl
  change wpAnyH _ _ _ _ _ _ _ (Act.put _ (some 109) _) _
  simp only [Act.put, List.setIfInBounds_toArray, List.set_cons_zero, List.set_cons_succ]
  refine wpAnyH_done (by kernel_rfl) ?_ _
  have S5 := Lib.hid (S4.out.keep (hHeld2.2.2.2.2.2.2.2.2.2.2.2.2.2.2.2.2.bel))
  clear hHeld hHeld2 b5 HS0 c1 c2 c3 c4 c5 d0 d1 d2 d3 d4 d5 cN cg0 cg1 cg2 cg3
  go_wp2_with fail
  refine (AW.out _ S5.out.tabs).mono ?_
  rintro e wl ⟨rfl, bl⟩
  have SL := Lib.hid (S5.out.keep bl)
  clear bl
  go_wp2
  go_ret
  exact ⟨rfl, SL.out.bel⟩
/-- Every case. -/
theorem replays_walk (x y : Stg) (ox : StgOk x) (oy : StgOk y) (o : Nat) (ho : o ≤ 18446744073709551615) (w : World) (ht : Tabs w) (sx : StgSz x) (sy : StgSz y) :
    Calls Tryd.prog 6 #[stgV x, stgV y, .int .u64 (o : Int)] w fun e w' => e = .returned (.bool true) ∧ Below w.heap.size w w' := by
  cases hl : (longB x || longB y) with
  | true => exact replays_long x y o w ht sx sy hl
  | false =>
    rw [Bool.or_eq_false_iff] at hl
    obtain ⟨xd, xn, gx, xw, xc, cx⟩ := x
    obtain ⟨yd, yn, gy, yw, yc, cy⟩ := y
    obtain ⟨cx, rfl, hx⟩ := u64_nat ox.c
    obtain ⟨cy, rfl, hy⟩ := u64_nat oy.c
    cases hd : dialB xn gx xw with
    | false => exact replays_nodial xd yd xn xw xc yn yw yc gx gy cx cy o w ht sx sy hl.1 hl.2 hd
    | true =>
      obtain ⟨gx, rfl, _⟩ := dialB_nat hd
      cases hv : (nameF yn && genI gy) with
      | false => exact replays_nolisten xd yd xn xw xc yn yw yc gx gy cx cy o w ht sx sy hl.1 hl.2 hd hv
      | true =>
        obtain ⟨gy, rfl, _⟩ := genI_nat (by rw [Bool.and_eq_true] at hv; exact hv.2)
        cases h1 : bothB ⟨xn, gx⟩ ⟨yn, gy⟩ xw xc yc cx cy 1 with
        | false => exact replays_undone xd yd xn xw xc yn yw yc gx gy cx cy o w ht sx sy hl.1 hl.2 hx hy ho hd hv h1
        | true =>
          by_cases h2 : o = cy
          · exact replays_oy xd yd xn xw xc yn yw yc gx gy cx cy o w ht sx sy hl.1 hl.2 hx hy ho hd hv h1 h2
          · by_cases h3 : o = cx
            · exact replays_ox xd yd xn xw xc yn yw yc gx gy cx cy o w ht sx sy hl.1 hl.2 hx hy ho hd hv h1 h2 h3
            · cases h4 : seqB (proofD ⟨xn, gx⟩ ⟨yn, gy⟩ yc cx o) (proofD ⟨xn, gx⟩ ⟨yn, gy⟩ xc cx cy) with
              | true => exact replays_r1 xd yd xn xw xc yn yw yc gx gy cx cy o w ht sx sy hl.1 hl.2 hx hy ho hd hv h1 h2 h3 h4
              | false =>
                cases h5 : seqB (proofL ⟨xn, gx⟩ ⟨yn, gy⟩ xc o cy) (proofL ⟨xn, gx⟩ ⟨yn, gy⟩ yc cx cy) with
                | true => exact replays_r2 xd yd xn xw xc yn yw yc gx gy cx cy o w ht sx sy hl.1 hl.2 hx hy ho hd hv h1 h2 h3 h4 h5
                | false => exact replays_r3 xd yd xn xw xc yn yw yc gx gy cx cy o w ht sx sy hl.1 hl.2 hx hy ho hd hv h1 h2 h3 h4 h5
end Go.Proofs.YtnkkbkceapcahaaDoor
