/- ShakeBoth: every case of it. -/
import Derived.Test.YtnkkbkceapcahaaDoorRunP
import Derived.Test.YtnkkbkceapcahaaDoorActs
import Derived.StillTailTactics
namespace Go.Proofs.YtnkkbkceapcahaaDoor
open Go.RowKit Go.Rt Go.Rw

set_option maxRecDepth 100000 in
set_option maxHeartbeats 4000000 in
theorem proved_D (xd yd : Bool) (xn xw xc yn yw yc : ByteArray) (gx gy cx cy : Nat) (h1 : xn.size ≤ 32) (h2 : yn.size ≤ 32) (g1 : gx ≤ 2147483647) (g2 : gy ≤ 2147483647) (h64x : cx ≤ 18446744073709551615) (h64y : cy ≤ 18446744073709551615) (c : ByteArray) (hc : c.size ≤ 6000) (w : World) (ht : Tabs w) :
    Calls Tryd.prog 31 #[.bool true, .agg #[.bool xd, .string xn, .int .i64 (gx : Int), .string xw, .string xc, .int .u64 (cx : Int)], .agg #[.bool yd, .string yn, .int .i64 (gy : Int), .string yw, .string yc, .int .u64 (cy : Int)], .string c] w fun e w' => e = .returned (.string (proofD ⟨xn, gx⟩ ⟨yn, gy⟩ c cx cy)) ∧ Below w.heap.size w w' := by
  have S0 := Lib.hid (((St.refl ht).alloc (.cells #[.bool xd, .string xn, .int .i64 (gx : Int), .string xw, .string xc, .int .u64 (cx : Int)] 26)).alloc (.cells #[.bool yd, .string yn, .int .i64 (gy : Int), .string yw, .string yc, .int .u64 (cy : Int)] 26))
  have CP : Hid (∀ W, Tabs W → Calls Tryd.prog 23 #[.bool true, .agg #[.string xn, .int .i64 (gx : Int)], .agg #[.string yn, .int .i64 (gy : Int)], .string c, .int .u64 (cx : Int), .int .u64 (cy : Int)] W fun e w' => e = .returned (.string (proofD ⟨xn, gx⟩ ⟨yn, gy⟩ c cx cy)) ∧ Below W.heap.size W w') :=
    Lib.hid (fun W t => proofR_D ⟨xn, gx⟩ ⟨yn, gy⟩ c cy cx h1 h2 g1 g2 hc h64y h64x W t)
  obtain ⟨p, hp⟩ : ∃ p, p = proofD ⟨xn, gx⟩ ⟨yn, gy⟩ c cx cy := ⟨_, rfl⟩
  rw [← hp] at CP ⊢
  clear ht h1 h2 g1 g2 h64x h64y hc hp
  go_enter Tryd.func31, Tryd.ntmps31
  go_wp2_with fail
  refine (CP.out _ S0.out.tabs).mono ?_
  rintro e w1 ⟨rfl, b1⟩
  have S1 := Lib.hid (S0.out.keep b1)
  clear b1
  go_wp2
  go_ret
  exact ⟨rfl, S1.out.bel⟩
set_option maxRecDepth 100000 in
set_option maxHeartbeats 4000000 in
theorem proved_L (xd yd : Bool) (xn xw xc yn yw yc : ByteArray) (gx gy cx cy : Nat) (h1 : xn.size ≤ 32) (h2 : yn.size ≤ 32) (g1 : gx ≤ 2147483647) (g2 : gy ≤ 2147483647) (h64x : cx ≤ 18446744073709551615) (h64y : cy ≤ 18446744073709551615) (c : ByteArray) (hc : c.size ≤ 6000) (w : World) (ht : Tabs w) :
    Calls Tryd.prog 31 #[.bool false, .agg #[.bool xd, .string xn, .int .i64 (gx : Int), .string xw, .string xc, .int .u64 (cx : Int)], .agg #[.bool yd, .string yn, .int .i64 (gy : Int), .string yw, .string yc, .int .u64 (cy : Int)], .string c] w fun e w' => e = .returned (.string (proofL ⟨xn, gx⟩ ⟨yn, gy⟩ c cx cy)) ∧ Below w.heap.size w w' := by
  have S0 := Lib.hid (((St.refl ht).alloc (.cells #[.bool xd, .string xn, .int .i64 (gx : Int), .string xw, .string xc, .int .u64 (cx : Int)] 26)).alloc (.cells #[.bool yd, .string yn, .int .i64 (gy : Int), .string yw, .string yc, .int .u64 (cy : Int)] 26))
  have CP : Hid (∀ W, Tabs W → Calls Tryd.prog 23 #[.bool false, .agg #[.string xn, .int .i64 (gx : Int)], .agg #[.string yn, .int .i64 (gy : Int)], .string c, .int .u64 (cx : Int), .int .u64 (cy : Int)] W fun e w' => e = .returned (.string (proofL ⟨xn, gx⟩ ⟨yn, gy⟩ c cx cy)) ∧ Below W.heap.size W w') :=
    Lib.hid (fun W t => proofR_L ⟨yn, gy⟩ ⟨xn, gx⟩ c cx cy h2 h1 g2 g1 hc h64x h64y W t)
  obtain ⟨p, hp⟩ : ∃ p, p = proofL ⟨xn, gx⟩ ⟨yn, gy⟩ c cx cy := ⟨_, rfl⟩
  rw [← hp] at CP ⊢
  clear ht h1 h2 g1 g2 h64x h64y hc hp
  go_enter Tryd.func31, Tryd.ntmps31
  go_wp2_with fail
  refine (CP.out _ S0.out.tabs).mono ?_
  rintro e w1 ⟨rfl, b1⟩
  have S1 := Lib.hid (S0.out.keep b1)
  clear b1
  go_wp2
  go_ret
  exact ⟨rfl, S1.out.bel⟩
/-- A still walk, closed to evaluation. -/
structure StillW (P : Program) (ops : Array Oper) (w : World) (Q : Act → Prop) (rest : List Oper) (a : Act) : Prop where
  out : wpStill P ops w Q rest a
theorem still_on {P : Program} {ops : Array Oper} {o : Oper} {rest : List Oper} {a : Act} {w : World} {Q : Act → Prop} (hw : Region.wanted o (yielded ops a.tmps) = true) (v : Value) (h : (execOp a.eval o).run P w = .ok (.value v) w) (hK : StillW P ops w Q rest (a.put o.dst v)) : StillW P ops w Q (o :: rest) a := by
  refine ⟨wpStill_step fun K hK' => ?_⟩
  rw [if_pos hw]
  unfold Oper.still
  rw [h]
  exact ⟨rfl, hK' _ hK.out⟩
theorem still_off {P : Program} {ops : Array Oper} {o : Oper} {rest : List Oper} {a : Act} {w : World} {Q : Act → Prop} (hw : Region.wanted o (yielded ops a.tmps) = false) (hK : StillW P ops w Q rest (a.put o.dst undef)) : StillW P ops w Q (o :: rest) a := by
  refine ⟨wpStill_step fun K hK' => ?_⟩
  rw [if_neg (by rw [hw]; decide)]
  exact hK' _ hK.out
set_option maxRecDepth 100000 in
set_option maxHeartbeats 4000000 in
theorem both_long (x y : Stg) (how : Int) (w : World) (ht : Tabs w) (sx : StgSz x) (sy : StgSz y) (h : (longB x || longB y) = true) :
    Calls Tryd.prog 9 #[stgV x, stgV y, .int .i64 how] w fun e w' => e = .returned (.bool true) ∧ Below w.heap.size w w' := by
  have X0 := Bx.of (x := x) ((Blk.new w 26 #[.bool x.dials, .string x.name, .int .i64 x.gen, .string x.want, .string x.cookie, .int .u64 x.chal]).alloc (.cells #[.bool y.dials, .string y.name, .int .i64 y.gen, .string y.want, .string y.cookie, .int .u64 y.chal] 26))
  have CX := Lib.hid (fun W => longN_any x sx.n sx.w sx.c W)
  have CY := Lib.hid (fun W => longN_any y sy.n sy.w sy.c W)
  have S0 := Lib.hid (((St.refl ht).alloc (.cells #[.bool x.dials, .string x.name, .int .i64 x.gen, .string x.want, .string x.cookie, .int .u64 x.chal] 26)).alloc (.cells #[.bool y.dials, .string y.name, .int .i64 y.gen, .string y.want, .string y.cookie, .int .u64 y.chal] 26))
  have AW := Lib.hid (fun W (t : Tabs W) => awakeS_any W t)
  clear ht sx sy X0
  cases hx : longB x with
  | true =>
    rw [hx] at CX
    clear h hx CY
    unfold stgV
    go_enter Tryd.func9, Tryd.ntmps9
    go_wp2_with fail
    refine (CX.out _).mono ?_
    rintro e w1 ⟨rfl, b1⟩
    have S1 := Lib.hid (S0.out.keep b1)
    clear b1 S0
    go_wp2_with fail
    refine (AW.out _ S1.out.tabs).mono ?_
    rintro e w2 ⟨rfl, b2⟩
    have S2 := Lib.hid (S1.out.keep b2)
    clear b2
    go_wp2
    go_ret
    exact ⟨rfl, S2.out.bel⟩
  | false =>
    rw [hx, Bool.false_or] at h
    rw [hx] at CX
    rw [h] at CY
    clear h hx
    have Y0 := Lib.hid (Bx.of (x := y) (Blk.new (w.alloc (.cells #[.bool x.dials, .string x.name, .int .i64 x.gen, .string x.want, .string x.cookie, .int .u64 x.chal] 26)) 26 #[.bool y.dials, .string y.name, .int .i64 y.gen, .string y.want, .string y.cookie, .int .u64 y.chal]))
    unfold stgV
    go_enter Tryd.func9, Tryd.ntmps9
    go_wp2_with fail
    refine (CX.out _).mono ?_
    rintro e w1 ⟨rfl, b1⟩
    have S1 := Lib.hid (S0.out.keep b1)
    obtain ⟨d0, d1, d2, d3, d4, d5⟩ := Y0.out.below b1
    simp only [World.size_alloc] at d0 d1 d2 d3 d4 d5
    clear b1 S0 Y0
    go_wp2_with fail
    refine (CY.out _).mono ?_
    rintro e w2 ⟨rfl, b2⟩
    have S2 := Lib.hid (S1.out.keep b2)
    clear b2 S1
    go_wp2_with fail
    refine (AW.out _ S2.out.tabs).mono ?_
    rintro e w3 ⟨rfl, b3⟩
    have S3 := Lib.hid (S2.out.keep b3)
    clear b3
    go_wp2
    go_ret
    exact ⟨rfl, S3.out.bel⟩
set_option maxRecDepth 100000 in
set_option maxHeartbeats 4000000 in
theorem both_nodial (xd yd : Bool) (xn xw xc yn yw yc : ByteArray) (gx gy : Int) (cx cy : Nat) (how : Int) (w : World) (ht : Tabs w) (sx : StgSz (⟨xd, xn, gx, xw, xc, cx⟩ : Stg)) (sy : StgSz (⟨yd, yn, gy, yw, yc, cy⟩ : Stg)) (hlx : longB (⟨xd, xn, gx, xw, xc, cx⟩ : Stg) = false) (hly : longB (⟨yd, yn, gy, yw, yc, cy⟩ : Stg) = false) (hd : dialB xn gx xw = false) :
    Calls Tryd.prog 9 #[stgV (⟨xd, xn, gx, xw, xc, cx⟩ : Stg), stgV (⟨yd, yn, gy, yw, yc, cy⟩ : Stg), .int .i64 how] w fun e w' => e = .returned (.bool true) ∧ Below w.heap.size w w' := by
  have X0 := Lib.hid (Bx.of (x := (⟨xd, xn, gx, xw, xc, cx⟩ : Stg)) ((Blk.new w 26 #[.bool xd, .string xn, .int .i64 gx, .string xw, .string xc, .int .u64 (cx : Int)]).alloc (.cells #[.bool yd, .string yn, .int .i64 gy, .string yw, .string yc, .int .u64 (cy : Int)] 26)))
  have Y0 := Lib.hid (Bx.of (x := (⟨yd, yn, gy, yw, yc, cy⟩ : Stg)) (Blk.new (w.alloc (.cells #[.bool xd, .string xn, .int .i64 gx, .string xw, .string xc, .int .u64 (cx : Int)] 26)) 26 #[.bool yd, .string yn, .int .i64 gy, .string yw, .string yc, .int .u64 (cy : Int)]))
  have S0 := Lib.hid (((St.refl ht).alloc (.cells #[.bool xd, .string xn, .int .i64 gx, .string xw, .string xc, .int .u64 (cx : Int)] 26)).alloc (.cells #[.bool yd, .string yn, .int .i64 gy, .string yw, .string yc, .int .u64 (cy : Int)] 26))
  have CX : Hid (∀ W, Calls Tryd.prog 10 #[.agg #[.bool xd, .string xn, .int .i64 gx, .string xw, .string xc, .int .u64 (cx : Int)], .slice none 0 0] W fun e w' => e = .returned (.bool false) ∧ Below W.heap.size W w') := by
    refine Lib.hid fun W => ?_
    have := longN_any (⟨xd, xn, gx, xw, xc, cx⟩ : Stg) sx.n sx.w sx.c W
    rw [hlx] at this
    exact this
  have CY : Hid (∀ W, Calls Tryd.prog 10 #[.agg #[.bool yd, .string yn, .int .i64 gy, .string yw, .string yc, .int .u64 (cy : Int)], .slice none 0 0] W fun e w' => e = .returned (.bool false) ∧ Below W.heap.size W w') := by
    refine Lib.hid fun W => ?_
    have := longN_any (⟨yd, yn, gy, yw, yc, cy⟩ : Stg) sy.n sy.w sy.c W
    rw [hly] at this
    exact this
  have AW := Lib.hid (fun W (t : Tabs W) => awakeS_any W t)
  have RN := Lib.hid (fun W (t : Tabs W) => runP_nodial xd yd xn xw xc yn yw yc gx gy cx cy how W t hd)
  unfold stgV at RN
  clear ht sx sy hlx hly hd
  unfold stgV
  go_enter Tryd.func9, Tryd.ntmps9
  obtain ⟨c0, c1, c2, c3, c4, c5⟩ := X0.out
  obtain ⟨d0, d1, d2, d3, d4, d5⟩ := Y0.out
  dsimp only at c0 c1 c2 c3 c4 c5
  simp only [World.size_alloc] at d0 d1 d2 d3 d4 d5
  go_wp2_with fail
  refine (CX.out _).mono ?_
  rintro e w1 ⟨rfl, b1⟩
  have S1 := Lib.hid (S0.out.keep b1)
  clear c0 c1 c2 c3 c4 c5 d0 d1 d2 d3 d4 d5
  have X1 := Lib.hid (X0.out.below b1)
  have Y1 := Lib.hid (Y0.out.below b1)
  obtain ⟨c0, c1, c2, c3, c4, c5⟩ := X1.out
  obtain ⟨d0, d1, d2, d3, d4, d5⟩ := Y1.out
  dsimp only at c0 c1 c2 c3 c4 c5
  simp only [World.size_alloc] at d0 d1 d2 d3 d4 d5
  clear b1 S0 X0 Y0
  go_wp2_with fail
  refine (CY.out _).mono ?_
  rintro e w2 ⟨rfl, b2⟩
  have S2 := Lib.hid (S1.out.keep b2)
  clear c0 c1 c2 c3 c4 c5 d0 d1 d2 d3 d4 d5
  have X2 := Lib.hid (X1.out.below b2)
  have Y2 := Lib.hid (Y1.out.below b2)
  obtain ⟨c0, c1, c2, c3, c4, c5⟩ := X2.out
  obtain ⟨d0, d1, d2, d3, d4, d5⟩ := Y2.out
  dsimp only at c0 c1 c2 c3 c4 c5
  simp only [World.size_alloc] at d0 d1 d2 d3 d4 d5
  clear b2 S1 X1 Y1
  go_wp2_with fail
  refine (RN.out _ S2.out.tabs).mono ?_
  rintro e w3 ⟨rfl, b3⟩
  have S3 := Lib.hid (S2.out.keep b3)
  clear c0 c1 c2 c3 c4 c5 d0 d1 d2 d3 d4 d5
  have X3 := Lib.hid (X2.out.below b3)
  have Y3 := Lib.hid (Y2.out.below b3)
  obtain ⟨c0, c1, c2, c3, c4, c5⟩ := X3.out
  obtain ⟨d0, d1, d2, d3, d4, d5⟩ := Y3.out
  dsimp only at c0 c1 c2 c3 c4 c5
  simp only [World.size_alloc] at d0 d1 d2 d3 d4 d5
  clear b3 S2 X2 Y2
  clear c0 c1 c2 c3 c4 c5 d0 d1 d2 d3 d4 d5
  clear X3 Y3
  go_wp2_with fail
  refine (AW.out _ S3.out.tabs).mono ?_
  rintro e w4 ⟨rfl, b4⟩
  have S4 := Lib.hid (S3.out.keep b4)
  clear b4
  go_wp2
  go_ret
  exact ⟨rfl, S4.out.bel⟩
set_option maxRecDepth 100000 in
set_option maxHeartbeats 4000000 in
theorem both_nolisten (xd yd : Bool) (xn xw xc yn yw yc : ByteArray) (gx : Nat) (gy : Int) (cx cy : Nat) (how : Int) (w : World) (ht : Tabs w) (sx : StgSz (⟨xd, xn, gx, xw, xc, cx⟩ : Stg)) (sy : StgSz (⟨yd, yn, gy, yw, yc, cy⟩ : Stg)) (hlx : longB (⟨xd, xn, gx, xw, xc, cx⟩ : Stg) = false) (hly : longB (⟨yd, yn, gy, yw, yc, cy⟩ : Stg) = false) (hd : dialB xn gx xw = true) (hv : (nameF yn && genI gy) = false) :
    Calls Tryd.prog 9 #[stgV (⟨xd, xn, gx, xw, xc, cx⟩ : Stg), stgV (⟨yd, yn, gy, yw, yc, cy⟩ : Stg), .int .i64 how] w fun e w' => e = .returned (.bool true) ∧ Below w.heap.size w w' := by
  have X0 := Lib.hid (Bx.of (x := (⟨xd, xn, gx, xw, xc, cx⟩ : Stg)) ((Blk.new w 26 #[.bool xd, .string xn, .int .i64 gx, .string xw, .string xc, .int .u64 (cx : Int)]).alloc (.cells #[.bool yd, .string yn, .int .i64 gy, .string yw, .string yc, .int .u64 (cy : Int)] 26)))
  have Y0 := Lib.hid (Bx.of (x := (⟨yd, yn, gy, yw, yc, cy⟩ : Stg)) (Blk.new (w.alloc (.cells #[.bool xd, .string xn, .int .i64 gx, .string xw, .string xc, .int .u64 (cx : Int)] 26)) 26 #[.bool yd, .string yn, .int .i64 gy, .string yw, .string yc, .int .u64 (cy : Int)]))
  have S0 := Lib.hid (((St.refl ht).alloc (.cells #[.bool xd, .string xn, .int .i64 gx, .string xw, .string xc, .int .u64 (cx : Int)] 26)).alloc (.cells #[.bool yd, .string yn, .int .i64 gy, .string yw, .string yc, .int .u64 (cy : Int)] 26))
  have CX : Hid (∀ W, Calls Tryd.prog 10 #[.agg #[.bool xd, .string xn, .int .i64 gx, .string xw, .string xc, .int .u64 (cx : Int)], .slice none 0 0] W fun e w' => e = .returned (.bool false) ∧ Below W.heap.size W w') := by
    refine Lib.hid fun W => ?_
    have := longN_any (⟨xd, xn, gx, xw, xc, cx⟩ : Stg) sx.n sx.w sx.c W
    rw [hlx] at this
    exact this
  have CY : Hid (∀ W, Calls Tryd.prog 10 #[.agg #[.bool yd, .string yn, .int .i64 gy, .string yw, .string yc, .int .u64 (cy : Int)], .slice none 0 0] W fun e w' => e = .returned (.bool false) ∧ Below W.heap.size W w') := by
    refine Lib.hid fun W => ?_
    have := longN_any (⟨yd, yn, gy, yw, yc, cy⟩ : Stg) sy.n sy.w sy.c W
    rw [hly] at this
    exact this
  have AW := Lib.hid (fun W (t : Tabs W) => awakeS_any W t)
  have RN := Lib.hid (fun W (t : Tabs W) => runP_nolisten xd yd xn xw xc yn yw yc gx gy cx cy how W t hd hv)
  unfold stgV at RN
  clear ht sx sy hlx hly hd
  unfold stgV
  go_enter Tryd.func9, Tryd.ntmps9
  obtain ⟨c0, c1, c2, c3, c4, c5⟩ := X0.out
  obtain ⟨d0, d1, d2, d3, d4, d5⟩ := Y0.out
  dsimp only at c0 c1 c2 c3 c4 c5
  simp only [World.size_alloc] at d0 d1 d2 d3 d4 d5
  go_wp2_with fail
  refine (CX.out _).mono ?_
  rintro e w1 ⟨rfl, b1⟩
  have S1 := Lib.hid (S0.out.keep b1)
  clear c0 c1 c2 c3 c4 c5 d0 d1 d2 d3 d4 d5
  have X1 := Lib.hid (X0.out.below b1)
  have Y1 := Lib.hid (Y0.out.below b1)
  obtain ⟨c0, c1, c2, c3, c4, c5⟩ := X1.out
  obtain ⟨d0, d1, d2, d3, d4, d5⟩ := Y1.out
  dsimp only at c0 c1 c2 c3 c4 c5
  simp only [World.size_alloc] at d0 d1 d2 d3 d4 d5
  clear b1 S0 X0 Y0
  go_wp2_with fail
  refine (CY.out _).mono ?_
  rintro e w2 ⟨rfl, b2⟩
  have S2 := Lib.hid (S1.out.keep b2)
  clear c0 c1 c2 c3 c4 c5 d0 d1 d2 d3 d4 d5
  have X2 := Lib.hid (X1.out.below b2)
  have Y2 := Lib.hid (Y1.out.below b2)
  obtain ⟨c0, c1, c2, c3, c4, c5⟩ := X2.out
  obtain ⟨d0, d1, d2, d3, d4, d5⟩ := Y2.out
  dsimp only at c0 c1 c2 c3 c4 c5
  simp only [World.size_alloc] at d0 d1 d2 d3 d4 d5
  clear b2 S1 X1 Y1
  go_wp2_with fail
  refine (RN.out _ S2.out.tabs).mono ?_
  rintro e w3 ⟨rfl, b3⟩
  have S3 := Lib.hid (S2.out.keep b3)
  clear c0 c1 c2 c3 c4 c5 d0 d1 d2 d3 d4 d5
  have X3 := Lib.hid (X2.out.below b3)
  have Y3 := Lib.hid (Y2.out.below b3)
  obtain ⟨c0, c1, c2, c3, c4, c5⟩ := X3.out
  obtain ⟨d0, d1, d2, d3, d4, d5⟩ := Y3.out
  dsimp only at c0 c1 c2 c3 c4 c5
  simp only [World.size_alloc] at d0 d1 d2 d3 d4 d5
  clear b3 S2 X2 Y2
  clear c0 c1 c2 c3 c4 c5 d0 d1 d2 d3 d4 d5
  clear X3 Y3
  go_wp2_with fail
  refine (AW.out _ S3.out.tabs).mono ?_
  rintro e w4 ⟨rfl, b4⟩
  have S4 := Lib.hid (S3.out.keep b4)
  clear b4
  go_wp2
  go_ret
  exact ⟨rfl, S4.out.bel⟩
set_option maxRecDepth 100000 in
set_option maxHeartbeats 4000000 in
theorem both_nm1 (xd yd : Bool) (xn xw xc yn yw yc : ByteArray) (gx gy cx cy : Nat) (how : Int) (w : World) (ht : Tabs w) (sx : StgSz (⟨xd, xn, gx, xw, xc, cx⟩ : Stg)) (sy : StgSz (⟨yd, yn, gy, yw, yc, cy⟩ : Stg)) (hlx : longB (⟨xd, xn, gx, xw, xc, cx⟩ : Stg) = false) (hly : longB (⟨yd, yn, gy, yw, yc, cy⟩ : Stg) = false)
    (hx : cx ≤ 18446744073709551615) (hy : cy ≤ 18446744073709551615) (hd : dialB xn gx xw = true) (hv : (nameF yn && genI gy) = true) (m1 : seqB xw yn = false) :
    Calls Tryd.prog 9 #[stgV (⟨xd, xn, gx, xw, xc, cx⟩ : Stg), stgV (⟨yd, yn, gy, yw, yc, cy⟩ : Stg), .int .i64 how] w fun e w' => e = .returned (.bool true) ∧ Below w.heap.size w w' := by
  have X0 := Lib.hid (Bx.of (x := (⟨xd, xn, gx, xw, xc, cx⟩ : Stg)) ((Blk.new w 26 #[.bool xd, .string xn, .int .i64 gx, .string xw, .string xc, .int .u64 (cx : Int)]).alloc (.cells #[.bool yd, .string yn, .int .i64 gy, .string yw, .string yc, .int .u64 (cy : Int)] 26)))
  have Y0 := Lib.hid (Bx.of (x := (⟨yd, yn, gy, yw, yc, cy⟩ : Stg)) (Blk.new (w.alloc (.cells #[.bool xd, .string xn, .int .i64 gx, .string xw, .string xc, .int .u64 (cx : Int)] 26)) 26 #[.bool yd, .string yn, .int .i64 gy, .string yw, .string yc, .int .u64 (cy : Int)]))
  have S0 := Lib.hid (((St.refl ht).alloc (.cells #[.bool xd, .string xn, .int .i64 gx, .string xw, .string xc, .int .u64 (cx : Int)] 26)).alloc (.cells #[.bool yd, .string yn, .int .i64 gy, .string yw, .string yc, .int .u64 (cy : Int)] 26))
  have CX : Hid (∀ W, Calls Tryd.prog 10 #[.agg #[.bool xd, .string xn, .int .i64 gx, .string xw, .string xc, .int .u64 (cx : Int)], .slice none 0 0] W fun e w' => e = .returned (.bool false) ∧ Below W.heap.size W w') := by
    refine Lib.hid fun W => ?_
    have := longN_any (⟨xd, xn, gx, xw, xc, cx⟩ : Stg) sx.n sx.w sx.c W
    rw [hlx] at this
    exact this
  have CY : Hid (∀ W, Calls Tryd.prog 10 #[.agg #[.bool yd, .string yn, .int .i64 gy, .string yw, .string yc, .int .u64 (cy : Int)], .slice none 0 0] W fun e w' => e = .returned (.bool false) ∧ Below W.heap.size W w') := by
    refine Lib.hid fun W => ?_
    have := longN_any (⟨yd, yn, gy, yw, yc, cy⟩ : Stg) sy.n sy.w sy.c W
    rw [hly] at this
    exact this
  have AW := Lib.hid (fun W (t : Tabs W) => awakeS_any W t)
  have lx : xw.size + xc.size + xn.size ≤ 6000 := by
    have := of_decide_eq_false hlx
    dsimp only at this
    omega
  have ly : yw.size + yc.size + yn.size ≤ 6000 := by
    have := of_decide_eq_false hly
    dsimp only at this
    omega
  obtain ⟨p1, p2, p3⟩ := dialB_parts hd
  have okx := prOk_of p1
  have oky := prOk_of hv
  have PL := run_plain ⟨xn, gx⟩ ⟨yn, gy⟩ okx oky xw xc yc cx cy hx hy p2 how
  have RM := Lib.hid (fun W (t : Tabs W) => runP_made xd yd xn xw xc yn yw yc gx gy cx cy how W t mId_size ⟨by omega, by omega, by omega⟩ (by omega) hx hy hd hv)
  unfold stgV at RM
  obtain ⟨⟨d, l, said⟩, hr⟩ : ∃ r, r = runF (dialS ⟨xn, gx⟩ xw xc cx) (listenS ⟨yn, gy⟩ yc cy) (helloF ⟨xn, gx⟩ xw) how mId := ⟨_, rfl⟩
  rw [← hr] at PL RM
  simp only at PL RM
  have hfirst : firstB ⟨xn, gx⟩ ⟨yn, gy⟩ xw xc yc cx cy how = false := by unfold firstB metB; simp [m1]
  have hboth : bothB ⟨xn, gx⟩ ⟨yn, gy⟩ xw xc yc cx cy how = false := by unfold bothB; rw [hfirst]; rfl
  have f1 : (xw.toList == yn.toList) = false := m1
  have LX : xc.size ≤ 6000 := by omega
  have LY : yc.size ≤ 6000 := by omega
  have HLX := Lib.hid LX
  have HLY := Lib.hid LY
  obtain ⟨sd, hsd⟩ : ∃ n : Nat, n = d.state := ⟨_, rfl⟩
  obtain ⟨sl, hsl⟩ : ∃ n : Nat, n = l.state := ⟨_, rfl⟩
  have e1 : ((sd : Int) == 3) = false := beq_eq_false_iff_ne.2 (fun q => by have := PL.1.1 (by omega); rw [hboth] at this; cases this)
  have e2 : ((sl : Int) == 3) = false := beq_eq_false_iff_ne.2 (fun q => by have := PL.2.1.1 (by omega); rw [hfirst] at this; cases this)
  have ST : Hid (∀ W D s, Blk W D 46 (sdC s) → Calls Tryd.prog 16 #[.pointer (some ⟨D, 0, none⟩)] W fun e w' => e = .returned (.int .i64 s.state) ∧ W = w') := Lib.hid (fun W D s h => state_any s D W h)
  have STd : Hid (∀ W D, Blk W D 46 (sdC d) → Calls Tryd.prog 16 #[.pointer (some ⟨D, 0, none⟩)] W fun e w' => e = .returned (.int .i64 sd) ∧ W = w') := Lib.hid (fun W D h => by rw [hsd]; exact ST.out W D d h)
  have STl : Hid (∀ W D, Blk W D 46 (sdC l) → Calls Tryd.prog 16 #[.pointer (some ⟨D, 0, none⟩)] W fun e w' => e = .returned (.int .i64 sl) ∧ W = w') := Lib.hid (fun W D h => by rw [hsl]; exact ST.out W D l h)
  clear ht sx sy hlx hly hd hv lx ly p1 p2 p3 okx oky PL hr hx hy hsd hsl ST LX LY hfirst hboth 
  clear m1
  unfold stgV
  go_enter Tryd.func9, Tryd.ntmps9
  obtain ⟨c0, c1, c2, c3, c4, c5⟩ := X0.out
  obtain ⟨d0, d1, d2, d3, d4, d5⟩ := Y0.out
  dsimp only at c0 c1 c2 c3 c4 c5
  simp only [World.size_alloc] at d0 d1 d2 d3 d4 d5
  go_wp2_with fail
  refine (CX.out _).mono ?_
  rintro e w1 ⟨rfl, b1⟩
  have S1 := Lib.hid (S0.out.keep b1)
  clear c0 c1 c2 c3 c4 c5 d0 d1 d2 d3 d4 d5
  have X1 := Lib.hid (X0.out.below b1)
  have Y1 := Lib.hid (Y0.out.below b1)
  obtain ⟨c0, c1, c2, c3, c4, c5⟩ := X1.out
  obtain ⟨d0, d1, d2, d3, d4, d5⟩ := Y1.out
  dsimp only at c0 c1 c2 c3 c4 c5
  simp only [World.size_alloc] at d0 d1 d2 d3 d4 d5
  clear b1 S0 X0 Y0
  go_wp2_with fail
  refine (CY.out _).mono ?_
  rintro e w2 ⟨rfl, b2⟩
  have S2 := Lib.hid (S1.out.keep b2)
  clear c0 c1 c2 c3 c4 c5 d0 d1 d2 d3 d4 d5
  have X2 := Lib.hid (X1.out.below b2)
  have Y2 := Lib.hid (Y1.out.below b2)
  obtain ⟨c0, c1, c2, c3, c4, c5⟩ := X2.out
  obtain ⟨d0, d1, d2, d3, d4, d5⟩ := Y2.out
  dsimp only at c0 c1 c2 c3 c4 c5
  simp only [World.size_alloc] at d0 d1 d2 d3 d4 d5
  clear b2 S1 X1 Y1
  go_wp2_with fail
  refine (RM.out _ S2.out.tabs).mono ?_
  rintro e w3 ⟨D, K, rfl, ss⟩
  have SS3 := Lib.hid ss
  have S3 := Lib.hid (S2.out.keep ss.st.bel)
  have X3 := Lib.hid (X2.out.below ss.st.bel)
  have Y3 := Lib.hid (Y2.out.below ss.st.bel)
  clear c0 c1 c2 c3 c4 c5 d0 d1 d2 d3 d4 d5
  clear ss S2 X2 Y2
  obtain ⟨c0, c1, c2, c3, c4, c5⟩ := X3.out
  obtain ⟨d0, d1, d2, d3, d4, d5⟩ := Y3.out
  dsimp only at c0 c1 c2 c3 c4 c5
  simp only [World.size_alloc] at d0 d1 d2 d3 d4 d5
  have HSD : Hid (∀ W, ((W).cell? ⟨w.heap.size, 0, none⟩ = some (.bool xd) ∧ (W).cell? ⟨w.heap.size, 1, none⟩ = some (.string xn) ∧ (W).cell? ⟨w.heap.size, 2, none⟩ = some (.int .i64 (gx : Int)) ∧ (W).cell? ⟨w.heap.size, 3, none⟩ = some (.string xw) ∧ (W).cell? ⟨w.heap.size, 4, none⟩ = some (.string xc) ∧ (W).cell? ⟨w.heap.size, 5, none⟩ = some (.int .u64 (cx : Int)) ∧ (W).cell? ⟨w.heap.size + 1, 0, none⟩ = some (.bool yd) ∧ (W).cell? ⟨w.heap.size + 1, 1, none⟩ = some (.string yn) ∧ (W).cell? ⟨w.heap.size + 1, 2, none⟩ = some (.int .i64 (gy : Int)) ∧ (W).cell? ⟨w.heap.size + 1, 3, none⟩ = some (.string yw) ∧ (W).cell? ⟨w.heap.size + 1, 4, none⟩ = some (.string yc) ∧ (W).cell? ⟨w.heap.size + 1, 5, none⟩ = some (.int .u64 (cy : Int)) ∧ St w3 (W)) → ∀ n, (W.drewN n).cell? ⟨w.heap.size, 0, none⟩ = some (.bool xd) ∧ (W.drewN n).cell? ⟨w.heap.size, 1, none⟩ = some (.string xn) ∧ (W.drewN n).cell? ⟨w.heap.size, 2, none⟩ = some (.int .i64 (gx : Int)) ∧ (W.drewN n).cell? ⟨w.heap.size, 3, none⟩ = some (.string xw) ∧ (W.drewN n).cell? ⟨w.heap.size, 4, none⟩ = some (.string xc) ∧ (W.drewN n).cell? ⟨w.heap.size, 5, none⟩ = some (.int .u64 (cx : Int)) ∧ (W.drewN n).cell? ⟨w.heap.size + 1, 0, none⟩ = some (.bool yd) ∧ (W.drewN n).cell? ⟨w.heap.size + 1, 1, none⟩ = some (.string yn) ∧ (W.drewN n).cell? ⟨w.heap.size + 1, 2, none⟩ = some (.int .i64 (gy : Int)) ∧ (W.drewN n).cell? ⟨w.heap.size + 1, 3, none⟩ = some (.string yw) ∧ (W.drewN n).cell? ⟨w.heap.size + 1, 4, none⟩ = some (.string yc) ∧ (W.drewN n).cell? ⟨w.heap.size + 1, 5, none⟩ = some (.int .u64 (cy : Int)) ∧ St w3 (W.drewN n)) :=
    Lib.hid (fun W ⟨s1, s2, s3, s4, s5, s6, s7, s8, s9, s10, s11, s12, s13⟩ n => ⟨s1, s2, s3, s4, s5, s6, s7, s8, s9, s10, s11, s12, s13.drewN n⟩)
  have HS0 : Hid ((w3).cell? ⟨w.heap.size, 0, none⟩ = some (.bool xd) ∧ (w3).cell? ⟨w.heap.size, 1, none⟩ = some (.string xn) ∧ (w3).cell? ⟨w.heap.size, 2, none⟩ = some (.int .i64 (gx : Int)) ∧ (w3).cell? ⟨w.heap.size, 3, none⟩ = some (.string xw) ∧ (w3).cell? ⟨w.heap.size, 4, none⟩ = some (.string xc) ∧ (w3).cell? ⟨w.heap.size, 5, none⟩ = some (.int .u64 (cx : Int)) ∧ (w3).cell? ⟨w.heap.size + 1, 0, none⟩ = some (.bool yd) ∧ (w3).cell? ⟨w.heap.size + 1, 1, none⟩ = some (.string yn) ∧ (w3).cell? ⟨w.heap.size + 1, 2, none⟩ = some (.int .i64 (gy : Int)) ∧ (w3).cell? ⟨w.heap.size + 1, 3, none⟩ = some (.string yw) ∧ (w3).cell? ⟨w.heap.size + 1, 4, none⟩ = some (.string yc) ∧ (w3).cell? ⟨w.heap.size + 1, 5, none⟩ = some (.int .u64 (cy : Int)) ∧ St w3 (w3)) := Lib.hid ⟨c0, c1, c2, c3, c4, c5, d0, d1, d2, d3, d4, d5, St.refl S3.out.tabs⟩
  go_wp2
  have BD : Hid (∀ W, St w3 W → Blk W D 46 (sdC d)) := Lib.hid (fun W h => (SS3.out.below h.bel).get 0 rfl)
  have BK : Hid (∀ W, St w3 W → Blk W K 46 (sdC l)) := Lib.hid (fun W h => (SS3.out.below h.bel).get 1 rfl)
  go_quiet (fail)
  all_goals
    all_goals
      generalize hwp : World.drewN _ _ = wp
      have hq : (wp).cell? ⟨w.heap.size, 0, none⟩ = some (.bool xd) ∧ (wp).cell? ⟨w.heap.size, 1, none⟩ = some (.string xn) ∧ (wp).cell? ⟨w.heap.size, 2, none⟩ = some (.int .i64 (gx : Int)) ∧ (wp).cell? ⟨w.heap.size, 3, none⟩ = some (.string xw) ∧ (wp).cell? ⟨w.heap.size, 4, none⟩ = some (.string xc) ∧ (wp).cell? ⟨w.heap.size, 5, none⟩ = some (.int .u64 (cx : Int)) ∧ (wp).cell? ⟨w.heap.size + 1, 0, none⟩ = some (.bool yd) ∧ (wp).cell? ⟨w.heap.size + 1, 1, none⟩ = some (.string yn) ∧ (wp).cell? ⟨w.heap.size + 1, 2, none⟩ = some (.int .i64 (gy : Int)) ∧ (wp).cell? ⟨w.heap.size + 1, 3, none⟩ = some (.string yw) ∧ (wp).cell? ⟨w.heap.size + 1, 4, none⟩ = some (.string yc) ∧ (wp).cell? ⟨w.heap.size + 1, 5, none⟩ = some (.int .u64 (cy : Int)) ∧ St w3 (wp) := by rw [← hwp]; exact HSD.out _ HS0.out _
      have HSP := Lib.hid hq
      clear hwp c0 c1 c2 c3 c4 c5 d0 d1 d2 d3 d4 d5
      obtain ⟨c0, c1, c2, c3, c4, c5, d0, d1, d2, d3, d4, d5, stq⟩ := hq
      have STP := Lib.hid stq
      clear stq
      go_wp2
      go_quiet (fail)
      generalize hwq : World.drewN _ _ = wq
      have hq : (wq).cell? ⟨w.heap.size, 0, none⟩ = some (.bool xd) ∧ (wq).cell? ⟨w.heap.size, 1, none⟩ = some (.string xn) ∧ (wq).cell? ⟨w.heap.size, 2, none⟩ = some (.int .i64 (gx : Int)) ∧ (wq).cell? ⟨w.heap.size, 3, none⟩ = some (.string xw) ∧ (wq).cell? ⟨w.heap.size, 4, none⟩ = some (.string xc) ∧ (wq).cell? ⟨w.heap.size, 5, none⟩ = some (.int .u64 (cx : Int)) ∧ (wq).cell? ⟨w.heap.size + 1, 0, none⟩ = some (.bool yd) ∧ (wq).cell? ⟨w.heap.size + 1, 1, none⟩ = some (.string yn) ∧ (wq).cell? ⟨w.heap.size + 1, 2, none⟩ = some (.int .i64 (gy : Int)) ∧ (wq).cell? ⟨w.heap.size + 1, 3, none⟩ = some (.string yw) ∧ (wq).cell? ⟨w.heap.size + 1, 4, none⟩ = some (.string yc) ∧ (wq).cell? ⟨w.heap.size + 1, 5, none⟩ = some (.int .u64 (cy : Int)) ∧ St w3 (wq) := by rw [← hwq]; exact HSD.out _ HSP.out _
      have HSQ := Lib.hid hq
      clear hwq c0 c1 c2 c3 c4 c5 d0 d1 d2 d3 d4 d5
      obtain ⟨c0, c1, c2, c3, c4, c5, d0, d1, d2, d3, d4, d5, stq⟩ := hq
      have STQ := Lib.hid stq
      clear stq
      go_wp2_with fail
      refine (STd.out _ D (BD.out _ (STQ.out))).mono ?_
      rintro e w' ⟨rfl, rfl⟩
      go_wp2_with fail
      refine (STl.out _ K (BK.out _ (STQ.out))).mono ?_
      rintro e w' ⟨rfl, rfl⟩
      go_wp2
      refine wp_region_still_tail 17 (by kernel_rfl) (by kernel_rfl) ?_
      simp only [List.take_succ_cons, List.take_zero, List.drop_succ_cons, List.drop_zero]
      change wpStill _ _ wq.drew (fun a' => wpList _ _ _ _ a' wq.drew) _ _
      have stw := Lib.hid (STQ.out).drew
      generalize wq.drew = wr at stw ⊢
      refine StillW.out ?_
      refine still_on (by kernel_rfl) (.bool false) (by kernel_rfl) ?_
      simp only [Act.put, List.setIfInBounds_toArray, List.set_cons_zero, List.set_cons_succ]
      refine still_on (by kernel_rfl) (.bool true) (by kernel_rfl) ?_
      simp only [Act.put, List.setIfInBounds_toArray, List.set_cons_zero, List.set_cons_succ]
      refine still_on (by kernel_rfl) (.bool true) (by kernel_rfl) ?_
      simp only [Act.put, List.setIfInBounds_toArray, List.set_cons_zero, List.set_cons_succ]
      refine still_off (by kernel_rfl) ?_
      simp only [Act.put, List.setIfInBounds_toArray, List.set_cons_zero, List.set_cons_succ]
      refine still_off (by kernel_rfl) ?_
      simp only [Act.put, List.setIfInBounds_toArray, List.set_cons_zero, List.set_cons_succ]
      refine still_off (by kernel_rfl) ?_
      simp only [Act.put, List.setIfInBounds_toArray, List.set_cons_zero, List.set_cons_succ]
      refine still_off (by kernel_rfl) ?_
      simp only [Act.put, List.setIfInBounds_toArray, List.set_cons_zero, List.set_cons_succ]
      refine still_off (by kernel_rfl) ?_
      simp only [Act.put, List.setIfInBounds_toArray, List.set_cons_zero, List.set_cons_succ]
      refine still_off (by kernel_rfl) ?_
      simp only [Act.put, List.setIfInBounds_toArray, List.set_cons_zero, List.set_cons_succ]
      refine still_off (by kernel_rfl) ?_
      simp only [Act.put, List.setIfInBounds_toArray, List.set_cons_zero, List.set_cons_succ]
      refine still_off (by kernel_rfl) ?_
      simp only [Act.put, List.setIfInBounds_toArray, List.set_cons_zero, List.set_cons_succ]
      refine still_off (by kernel_rfl) ?_
      simp only [Act.put, List.setIfInBounds_toArray, List.set_cons_zero, List.set_cons_succ]
      refine still_off (by kernel_rfl) ?_
      simp only [Act.put, List.setIfInBounds_toArray, List.set_cons_zero, List.set_cons_succ]
      refine still_off (by kernel_rfl) ?_
      simp only [Act.put, List.setIfInBounds_toArray, List.set_cons_zero, List.set_cons_succ]
      refine still_off (by kernel_rfl) ?_
      simp only [Act.put, List.setIfInBounds_toArray, List.set_cons_zero, List.set_cons_succ]
      refine still_on (by kernel_rfl) (.bool true) (by kernel_rfl) ?_
      simp only [Act.put, List.setIfInBounds_toArray, List.set_cons_zero, List.set_cons_succ]
      refine still_on (by kernel_rfl) (.bool true) (by kernel_rfl) ?_
      simp only [Act.put, List.setIfInBounds_toArray, List.set_cons_zero, List.set_cons_succ]
      refine ⟨wpStill_nil ?_⟩
      go_wp2_with fail
      refine (AW.out _ stw.out.tabs).mono ?_
      rintro e w7 ⟨rfl, b7⟩
      have B7 := Lib.hid ((stw.out.keep b7).bel)
      clear b7
      go_wp2
      go_ret
      exact ⟨rfl, (S3.out.keep B7.out).bel⟩
set_option maxRecDepth 100000 in
set_option maxHeartbeats 4000000 in
theorem both_nm2 (xd yd : Bool) (xn xw xc yn yw yc : ByteArray) (gx gy cx cy : Nat) (how : Int) (w : World) (ht : Tabs w) (sx : StgSz (⟨xd, xn, gx, xw, xc, cx⟩ : Stg)) (sy : StgSz (⟨yd, yn, gy, yw, yc, cy⟩ : Stg)) (hlx : longB (⟨xd, xn, gx, xw, xc, cx⟩ : Stg) = false) (hly : longB (⟨yd, yn, gy, yw, yc, cy⟩ : Stg) = false)
    (hx : cx ≤ 18446744073709551615) (hy : cy ≤ 18446744073709551615) (hd : dialB xn gx xw = true) (hv : (nameF yn && genI gy) = true) (m1 : seqB xw yn = true) (m2 : seqB xn yn = true) :
    Calls Tryd.prog 9 #[stgV (⟨xd, xn, gx, xw, xc, cx⟩ : Stg), stgV (⟨yd, yn, gy, yw, yc, cy⟩ : Stg), .int .i64 how] w fun e w' => e = .returned (.bool true) ∧ Below w.heap.size w w' := by
  have X0 := Lib.hid (Bx.of (x := (⟨xd, xn, gx, xw, xc, cx⟩ : Stg)) ((Blk.new w 26 #[.bool xd, .string xn, .int .i64 gx, .string xw, .string xc, .int .u64 (cx : Int)]).alloc (.cells #[.bool yd, .string yn, .int .i64 gy, .string yw, .string yc, .int .u64 (cy : Int)] 26)))
  have Y0 := Lib.hid (Bx.of (x := (⟨yd, yn, gy, yw, yc, cy⟩ : Stg)) (Blk.new (w.alloc (.cells #[.bool xd, .string xn, .int .i64 gx, .string xw, .string xc, .int .u64 (cx : Int)] 26)) 26 #[.bool yd, .string yn, .int .i64 gy, .string yw, .string yc, .int .u64 (cy : Int)]))
  have S0 := Lib.hid (((St.refl ht).alloc (.cells #[.bool xd, .string xn, .int .i64 gx, .string xw, .string xc, .int .u64 (cx : Int)] 26)).alloc (.cells #[.bool yd, .string yn, .int .i64 gy, .string yw, .string yc, .int .u64 (cy : Int)] 26))
  have CX : Hid (∀ W, Calls Tryd.prog 10 #[.agg #[.bool xd, .string xn, .int .i64 gx, .string xw, .string xc, .int .u64 (cx : Int)], .slice none 0 0] W fun e w' => e = .returned (.bool false) ∧ Below W.heap.size W w') := by
    refine Lib.hid fun W => ?_
    have := longN_any (⟨xd, xn, gx, xw, xc, cx⟩ : Stg) sx.n sx.w sx.c W
    rw [hlx] at this
    exact this
  have CY : Hid (∀ W, Calls Tryd.prog 10 #[.agg #[.bool yd, .string yn, .int .i64 gy, .string yw, .string yc, .int .u64 (cy : Int)], .slice none 0 0] W fun e w' => e = .returned (.bool false) ∧ Below W.heap.size W w') := by
    refine Lib.hid fun W => ?_
    have := longN_any (⟨yd, yn, gy, yw, yc, cy⟩ : Stg) sy.n sy.w sy.c W
    rw [hly] at this
    exact this
  have AW := Lib.hid (fun W (t : Tabs W) => awakeS_any W t)
  have lx : xw.size + xc.size + xn.size ≤ 6000 := by
    have := of_decide_eq_false hlx
    dsimp only at this
    omega
  have ly : yw.size + yc.size + yn.size ≤ 6000 := by
    have := of_decide_eq_false hly
    dsimp only at this
    omega
  obtain ⟨p1, p2, p3⟩ := dialB_parts hd
  have okx := prOk_of p1
  have oky := prOk_of hv
  have PL := run_plain ⟨xn, gx⟩ ⟨yn, gy⟩ okx oky xw xc yc cx cy hx hy p2 how
  have RM := Lib.hid (fun W (t : Tabs W) => runP_made xd yd xn xw xc yn yw yc gx gy cx cy how W t mId_size ⟨by omega, by omega, by omega⟩ (by omega) hx hy hd hv)
  unfold stgV at RM
  obtain ⟨⟨d, l, said⟩, hr⟩ : ∃ r, r = runF (dialS ⟨xn, gx⟩ xw xc cx) (listenS ⟨yn, gy⟩ yc cy) (helloF ⟨xn, gx⟩ xw) how mId := ⟨_, rfl⟩
  rw [← hr] at PL RM
  simp only at PL RM
  have hfirst : firstB ⟨xn, gx⟩ ⟨yn, gy⟩ xw xc yc cx cy how = false := by unfold firstB metB; simp [m2]
  have hboth : bothB ⟨xn, gx⟩ ⟨yn, gy⟩ xw xc yc cx cy how = false := by unfold bothB; rw [hfirst]; rfl
  have f1 : (xw.toList == yn.toList) = true := m1
  have f2 : (xn.toList != yn.toList) = false := by unfold seqB at m2; simp only [bne, m2]; rfl
  have f2b : (xn.toList == yn.toList) = true := m2
  have LX : xc.size ≤ 6000 := by omega
  have LY : yc.size ≤ 6000 := by omega
  have HLX := Lib.hid LX
  have HLY := Lib.hid LY
  obtain ⟨sd, hsd⟩ : ∃ n : Nat, n = d.state := ⟨_, rfl⟩
  obtain ⟨sl, hsl⟩ : ∃ n : Nat, n = l.state := ⟨_, rfl⟩
  have e1 : ((sd : Int) == 3) = false := beq_eq_false_iff_ne.2 (fun q => by have := PL.1.1 (by omega); rw [hboth] at this; cases this)
  have e2 : ((sl : Int) == 3) = false := beq_eq_false_iff_ne.2 (fun q => by have := PL.2.1.1 (by omega); rw [hfirst] at this; cases this)
  have ST : Hid (∀ W D s, Blk W D 46 (sdC s) → Calls Tryd.prog 16 #[.pointer (some ⟨D, 0, none⟩)] W fun e w' => e = .returned (.int .i64 s.state) ∧ W = w') := Lib.hid (fun W D s h => state_any s D W h)
  have STd : Hid (∀ W D, Blk W D 46 (sdC d) → Calls Tryd.prog 16 #[.pointer (some ⟨D, 0, none⟩)] W fun e w' => e = .returned (.int .i64 sd) ∧ W = w') := Lib.hid (fun W D h => by rw [hsd]; exact ST.out W D d h)
  have STl : Hid (∀ W D, Blk W D 46 (sdC l) → Calls Tryd.prog 16 #[.pointer (some ⟨D, 0, none⟩)] W fun e w' => e = .returned (.int .i64 sl) ∧ W = w') := Lib.hid (fun W D h => by rw [hsl]; exact ST.out W D l h)
  clear ht sx sy hlx hly hd hv lx ly p1 p2 p3 okx oky PL hr hx hy hsd hsl ST LX LY hfirst hboth 
  clear m1 m2
  unfold stgV
  go_enter Tryd.func9, Tryd.ntmps9
  obtain ⟨c0, c1, c2, c3, c4, c5⟩ := X0.out
  obtain ⟨d0, d1, d2, d3, d4, d5⟩ := Y0.out
  dsimp only at c0 c1 c2 c3 c4 c5
  simp only [World.size_alloc] at d0 d1 d2 d3 d4 d5
  go_wp2_with fail
  refine (CX.out _).mono ?_
  rintro e w1 ⟨rfl, b1⟩
  have S1 := Lib.hid (S0.out.keep b1)
  clear c0 c1 c2 c3 c4 c5 d0 d1 d2 d3 d4 d5
  have X1 := Lib.hid (X0.out.below b1)
  have Y1 := Lib.hid (Y0.out.below b1)
  obtain ⟨c0, c1, c2, c3, c4, c5⟩ := X1.out
  obtain ⟨d0, d1, d2, d3, d4, d5⟩ := Y1.out
  dsimp only at c0 c1 c2 c3 c4 c5
  simp only [World.size_alloc] at d0 d1 d2 d3 d4 d5
  clear b1 S0 X0 Y0
  go_wp2_with fail
  refine (CY.out _).mono ?_
  rintro e w2 ⟨rfl, b2⟩
  have S2 := Lib.hid (S1.out.keep b2)
  clear c0 c1 c2 c3 c4 c5 d0 d1 d2 d3 d4 d5
  have X2 := Lib.hid (X1.out.below b2)
  have Y2 := Lib.hid (Y1.out.below b2)
  obtain ⟨c0, c1, c2, c3, c4, c5⟩ := X2.out
  obtain ⟨d0, d1, d2, d3, d4, d5⟩ := Y2.out
  dsimp only at c0 c1 c2 c3 c4 c5
  simp only [World.size_alloc] at d0 d1 d2 d3 d4 d5
  clear b2 S1 X1 Y1
  go_wp2_with fail
  refine (RM.out _ S2.out.tabs).mono ?_
  rintro e w3 ⟨D, K, rfl, ss⟩
  have SS3 := Lib.hid ss
  have S3 := Lib.hid (S2.out.keep ss.st.bel)
  have X3 := Lib.hid (X2.out.below ss.st.bel)
  have Y3 := Lib.hid (Y2.out.below ss.st.bel)
  clear c0 c1 c2 c3 c4 c5 d0 d1 d2 d3 d4 d5
  clear ss S2 X2 Y2
  obtain ⟨c0, c1, c2, c3, c4, c5⟩ := X3.out
  obtain ⟨d0, d1, d2, d3, d4, d5⟩ := Y3.out
  dsimp only at c0 c1 c2 c3 c4 c5
  simp only [World.size_alloc] at d0 d1 d2 d3 d4 d5
  have HSD : Hid (∀ W, ((W).cell? ⟨w.heap.size, 0, none⟩ = some (.bool xd) ∧ (W).cell? ⟨w.heap.size, 1, none⟩ = some (.string xn) ∧ (W).cell? ⟨w.heap.size, 2, none⟩ = some (.int .i64 (gx : Int)) ∧ (W).cell? ⟨w.heap.size, 3, none⟩ = some (.string xw) ∧ (W).cell? ⟨w.heap.size, 4, none⟩ = some (.string xc) ∧ (W).cell? ⟨w.heap.size, 5, none⟩ = some (.int .u64 (cx : Int)) ∧ (W).cell? ⟨w.heap.size + 1, 0, none⟩ = some (.bool yd) ∧ (W).cell? ⟨w.heap.size + 1, 1, none⟩ = some (.string yn) ∧ (W).cell? ⟨w.heap.size + 1, 2, none⟩ = some (.int .i64 (gy : Int)) ∧ (W).cell? ⟨w.heap.size + 1, 3, none⟩ = some (.string yw) ∧ (W).cell? ⟨w.heap.size + 1, 4, none⟩ = some (.string yc) ∧ (W).cell? ⟨w.heap.size + 1, 5, none⟩ = some (.int .u64 (cy : Int)) ∧ St w3 (W)) → ∀ n, (W.drewN n).cell? ⟨w.heap.size, 0, none⟩ = some (.bool xd) ∧ (W.drewN n).cell? ⟨w.heap.size, 1, none⟩ = some (.string xn) ∧ (W.drewN n).cell? ⟨w.heap.size, 2, none⟩ = some (.int .i64 (gx : Int)) ∧ (W.drewN n).cell? ⟨w.heap.size, 3, none⟩ = some (.string xw) ∧ (W.drewN n).cell? ⟨w.heap.size, 4, none⟩ = some (.string xc) ∧ (W.drewN n).cell? ⟨w.heap.size, 5, none⟩ = some (.int .u64 (cx : Int)) ∧ (W.drewN n).cell? ⟨w.heap.size + 1, 0, none⟩ = some (.bool yd) ∧ (W.drewN n).cell? ⟨w.heap.size + 1, 1, none⟩ = some (.string yn) ∧ (W.drewN n).cell? ⟨w.heap.size + 1, 2, none⟩ = some (.int .i64 (gy : Int)) ∧ (W.drewN n).cell? ⟨w.heap.size + 1, 3, none⟩ = some (.string yw) ∧ (W.drewN n).cell? ⟨w.heap.size + 1, 4, none⟩ = some (.string yc) ∧ (W.drewN n).cell? ⟨w.heap.size + 1, 5, none⟩ = some (.int .u64 (cy : Int)) ∧ St w3 (W.drewN n)) :=
    Lib.hid (fun W ⟨s1, s2, s3, s4, s5, s6, s7, s8, s9, s10, s11, s12, s13⟩ n => ⟨s1, s2, s3, s4, s5, s6, s7, s8, s9, s10, s11, s12, s13.drewN n⟩)
  have HS0 : Hid ((w3).cell? ⟨w.heap.size, 0, none⟩ = some (.bool xd) ∧ (w3).cell? ⟨w.heap.size, 1, none⟩ = some (.string xn) ∧ (w3).cell? ⟨w.heap.size, 2, none⟩ = some (.int .i64 (gx : Int)) ∧ (w3).cell? ⟨w.heap.size, 3, none⟩ = some (.string xw) ∧ (w3).cell? ⟨w.heap.size, 4, none⟩ = some (.string xc) ∧ (w3).cell? ⟨w.heap.size, 5, none⟩ = some (.int .u64 (cx : Int)) ∧ (w3).cell? ⟨w.heap.size + 1, 0, none⟩ = some (.bool yd) ∧ (w3).cell? ⟨w.heap.size + 1, 1, none⟩ = some (.string yn) ∧ (w3).cell? ⟨w.heap.size + 1, 2, none⟩ = some (.int .i64 (gy : Int)) ∧ (w3).cell? ⟨w.heap.size + 1, 3, none⟩ = some (.string yw) ∧ (w3).cell? ⟨w.heap.size + 1, 4, none⟩ = some (.string yc) ∧ (w3).cell? ⟨w.heap.size + 1, 5, none⟩ = some (.int .u64 (cy : Int)) ∧ St w3 (w3)) := Lib.hid ⟨c0, c1, c2, c3, c4, c5, d0, d1, d2, d3, d4, d5, St.refl S3.out.tabs⟩
  go_wp2
  have BD : Hid (∀ W, St w3 W → Blk W D 46 (sdC d)) := Lib.hid (fun W h => (SS3.out.below h.bel).get 0 rfl)
  have BK : Hid (∀ W, St w3 W → Blk W K 46 (sdC l)) := Lib.hid (fun W h => (SS3.out.below h.bel).get 1 rfl)
  go_quiet (fail)
  all_goals
    all_goals
      generalize hwp : World.drewN _ _ = wp
      have hq : (wp).cell? ⟨w.heap.size, 0, none⟩ = some (.bool xd) ∧ (wp).cell? ⟨w.heap.size, 1, none⟩ = some (.string xn) ∧ (wp).cell? ⟨w.heap.size, 2, none⟩ = some (.int .i64 (gx : Int)) ∧ (wp).cell? ⟨w.heap.size, 3, none⟩ = some (.string xw) ∧ (wp).cell? ⟨w.heap.size, 4, none⟩ = some (.string xc) ∧ (wp).cell? ⟨w.heap.size, 5, none⟩ = some (.int .u64 (cx : Int)) ∧ (wp).cell? ⟨w.heap.size + 1, 0, none⟩ = some (.bool yd) ∧ (wp).cell? ⟨w.heap.size + 1, 1, none⟩ = some (.string yn) ∧ (wp).cell? ⟨w.heap.size + 1, 2, none⟩ = some (.int .i64 (gy : Int)) ∧ (wp).cell? ⟨w.heap.size + 1, 3, none⟩ = some (.string yw) ∧ (wp).cell? ⟨w.heap.size + 1, 4, none⟩ = some (.string yc) ∧ (wp).cell? ⟨w.heap.size + 1, 5, none⟩ = some (.int .u64 (cy : Int)) ∧ St w3 (wp) := by rw [← hwp]; exact HSD.out _ HS0.out _
      have HSP := Lib.hid hq
      clear hwp c0 c1 c2 c3 c4 c5 d0 d1 d2 d3 d4 d5
      obtain ⟨c0, c1, c2, c3, c4, c5, d0, d1, d2, d3, d4, d5, stq⟩ := hq
      have STP := Lib.hid stq
      clear stq
      go_wp2
      go_quiet (fail)
      generalize hwq : World.drewN _ _ = wq
      have hq : (wq).cell? ⟨w.heap.size, 0, none⟩ = some (.bool xd) ∧ (wq).cell? ⟨w.heap.size, 1, none⟩ = some (.string xn) ∧ (wq).cell? ⟨w.heap.size, 2, none⟩ = some (.int .i64 (gx : Int)) ∧ (wq).cell? ⟨w.heap.size, 3, none⟩ = some (.string xw) ∧ (wq).cell? ⟨w.heap.size, 4, none⟩ = some (.string xc) ∧ (wq).cell? ⟨w.heap.size, 5, none⟩ = some (.int .u64 (cx : Int)) ∧ (wq).cell? ⟨w.heap.size + 1, 0, none⟩ = some (.bool yd) ∧ (wq).cell? ⟨w.heap.size + 1, 1, none⟩ = some (.string yn) ∧ (wq).cell? ⟨w.heap.size + 1, 2, none⟩ = some (.int .i64 (gy : Int)) ∧ (wq).cell? ⟨w.heap.size + 1, 3, none⟩ = some (.string yw) ∧ (wq).cell? ⟨w.heap.size + 1, 4, none⟩ = some (.string yc) ∧ (wq).cell? ⟨w.heap.size + 1, 5, none⟩ = some (.int .u64 (cy : Int)) ∧ St w3 (wq) := by rw [← hwq]; exact HSD.out _ HSP.out _
      have HSQ := Lib.hid hq
      clear hwq c0 c1 c2 c3 c4 c5 d0 d1 d2 d3 d4 d5
      obtain ⟨c0, c1, c2, c3, c4, c5, d0, d1, d2, d3, d4, d5, stq⟩ := hq
      have STQ := Lib.hid stq
      clear stq
      go_wp2_with fail
      refine (STd.out _ D (BD.out _ (STQ.out))).mono ?_
      rintro e w' ⟨rfl, rfl⟩
      go_wp2_with fail
      refine (STl.out _ K (BK.out _ (STQ.out))).mono ?_
      rintro e w' ⟨rfl, rfl⟩
      go_wp2
      refine wp_region_still_tail 17 (by kernel_rfl) (by kernel_rfl) ?_
      simp only [List.take_succ_cons, List.take_zero, List.drop_succ_cons, List.drop_zero]
      change wpStill _ _ wq.drew (fun a' => wpList _ _ _ _ a' wq.drew) _ _
      have stw := Lib.hid (STQ.out).drew
      generalize wq.drew = wr at stw ⊢
      refine StillW.out ?_
      refine still_on (by kernel_rfl) (.bool false) (by kernel_rfl) ?_
      simp only [Act.put, List.setIfInBounds_toArray, List.set_cons_zero, List.set_cons_succ]
      refine still_on (by kernel_rfl) (.bool true) (by kernel_rfl) ?_
      simp only [Act.put, List.setIfInBounds_toArray, List.set_cons_zero, List.set_cons_succ]
      refine still_on (by kernel_rfl) (.bool true) (by kernel_rfl) ?_
      simp only [Act.put, List.setIfInBounds_toArray, List.set_cons_zero, List.set_cons_succ]
      refine still_off (by kernel_rfl) ?_
      simp only [Act.put, List.setIfInBounds_toArray, List.set_cons_zero, List.set_cons_succ]
      refine still_off (by kernel_rfl) ?_
      simp only [Act.put, List.setIfInBounds_toArray, List.set_cons_zero, List.set_cons_succ]
      refine still_off (by kernel_rfl) ?_
      simp only [Act.put, List.setIfInBounds_toArray, List.set_cons_zero, List.set_cons_succ]
      refine still_off (by kernel_rfl) ?_
      simp only [Act.put, List.setIfInBounds_toArray, List.set_cons_zero, List.set_cons_succ]
      refine still_off (by kernel_rfl) ?_
      simp only [Act.put, List.setIfInBounds_toArray, List.set_cons_zero, List.set_cons_succ]
      refine still_off (by kernel_rfl) ?_
      simp only [Act.put, List.setIfInBounds_toArray, List.set_cons_zero, List.set_cons_succ]
      refine still_off (by kernel_rfl) ?_
      simp only [Act.put, List.setIfInBounds_toArray, List.set_cons_zero, List.set_cons_succ]
      refine still_off (by kernel_rfl) ?_
      simp only [Act.put, List.setIfInBounds_toArray, List.set_cons_zero, List.set_cons_succ]
      refine still_off (by kernel_rfl) ?_
      simp only [Act.put, List.setIfInBounds_toArray, List.set_cons_zero, List.set_cons_succ]
      refine still_off (by kernel_rfl) ?_
      simp only [Act.put, List.setIfInBounds_toArray, List.set_cons_zero, List.set_cons_succ]
      refine still_off (by kernel_rfl) ?_
      simp only [Act.put, List.setIfInBounds_toArray, List.set_cons_zero, List.set_cons_succ]
      refine still_off (by kernel_rfl) ?_
      simp only [Act.put, List.setIfInBounds_toArray, List.set_cons_zero, List.set_cons_succ]
      refine still_on (by kernel_rfl) (.bool true) (by kernel_rfl) ?_
      simp only [Act.put, List.setIfInBounds_toArray, List.set_cons_zero, List.set_cons_succ]
      refine still_on (by kernel_rfl) (.bool true) (by kernel_rfl) ?_
      simp only [Act.put, List.setIfInBounds_toArray, List.set_cons_zero, List.set_cons_succ]
      refine ⟨wpStill_nil ?_⟩
      go_wp2_with fail
      refine (AW.out _ stw.out.tabs).mono ?_
      rintro e w7 ⟨rfl, b7⟩
      have B7 := Lib.hid ((stw.out.keep b7).bel)
      clear b7
      go_wp2
      go_ret
      exact ⟨rfl, (S3.out.keep B7.out).bel⟩
set_option maxRecDepth 100000 in
set_option maxHeartbeats 4000000 in
theorem both_nm3 (xd yd : Bool) (xn xw xc yn yw yc : ByteArray) (gx gy cx cy : Nat) (how : Int) (w : World) (ht : Tabs w) (sx : StgSz (⟨xd, xn, gx, xw, xc, cx⟩ : Stg)) (sy : StgSz (⟨yd, yn, gy, yw, yc, cy⟩ : Stg)) (hlx : longB (⟨xd, xn, gx, xw, xc, cx⟩ : Stg) = false) (hly : longB (⟨yd, yn, gy, yw, yc, cy⟩ : Stg) = false)
    (hx : cx ≤ 18446744073709551615) (hy : cy ≤ 18446744073709551615) (hd : dialB xn gx xw = true) (hv : (nameF yn && genI gy) = true) (m1 : seqB xw yn = true) (m2 : seqB xn yn = false) (m3 : (how == 1) = false) :
    Calls Tryd.prog 9 #[stgV (⟨xd, xn, gx, xw, xc, cx⟩ : Stg), stgV (⟨yd, yn, gy, yw, yc, cy⟩ : Stg), .int .i64 how] w fun e w' => e = .returned (.bool true) ∧ Below w.heap.size w w' := by
  have X0 := Lib.hid (Bx.of (x := (⟨xd, xn, gx, xw, xc, cx⟩ : Stg)) ((Blk.new w 26 #[.bool xd, .string xn, .int .i64 gx, .string xw, .string xc, .int .u64 (cx : Int)]).alloc (.cells #[.bool yd, .string yn, .int .i64 gy, .string yw, .string yc, .int .u64 (cy : Int)] 26)))
  have Y0 := Lib.hid (Bx.of (x := (⟨yd, yn, gy, yw, yc, cy⟩ : Stg)) (Blk.new (w.alloc (.cells #[.bool xd, .string xn, .int .i64 gx, .string xw, .string xc, .int .u64 (cx : Int)] 26)) 26 #[.bool yd, .string yn, .int .i64 gy, .string yw, .string yc, .int .u64 (cy : Int)]))
  have S0 := Lib.hid (((St.refl ht).alloc (.cells #[.bool xd, .string xn, .int .i64 gx, .string xw, .string xc, .int .u64 (cx : Int)] 26)).alloc (.cells #[.bool yd, .string yn, .int .i64 gy, .string yw, .string yc, .int .u64 (cy : Int)] 26))
  have CX : Hid (∀ W, Calls Tryd.prog 10 #[.agg #[.bool xd, .string xn, .int .i64 gx, .string xw, .string xc, .int .u64 (cx : Int)], .slice none 0 0] W fun e w' => e = .returned (.bool false) ∧ Below W.heap.size W w') := by
    refine Lib.hid fun W => ?_
    have := longN_any (⟨xd, xn, gx, xw, xc, cx⟩ : Stg) sx.n sx.w sx.c W
    rw [hlx] at this
    exact this
  have CY : Hid (∀ W, Calls Tryd.prog 10 #[.agg #[.bool yd, .string yn, .int .i64 gy, .string yw, .string yc, .int .u64 (cy : Int)], .slice none 0 0] W fun e w' => e = .returned (.bool false) ∧ Below W.heap.size W w') := by
    refine Lib.hid fun W => ?_
    have := longN_any (⟨yd, yn, gy, yw, yc, cy⟩ : Stg) sy.n sy.w sy.c W
    rw [hly] at this
    exact this
  have AW := Lib.hid (fun W (t : Tabs W) => awakeS_any W t)
  have lx : xw.size + xc.size + xn.size ≤ 6000 := by
    have := of_decide_eq_false hlx
    dsimp only at this
    omega
  have ly : yw.size + yc.size + yn.size ≤ 6000 := by
    have := of_decide_eq_false hly
    dsimp only at this
    omega
  obtain ⟨p1, p2, p3⟩ := dialB_parts hd
  have okx := prOk_of p1
  have oky := prOk_of hv
  have PL := run_plain ⟨xn, gx⟩ ⟨yn, gy⟩ okx oky xw xc yc cx cy hx hy p2 how
  have RM := Lib.hid (fun W (t : Tabs W) => runP_made xd yd xn xw xc yn yw yc gx gy cx cy how W t mId_size ⟨by omega, by omega, by omega⟩ (by omega) hx hy hd hv)
  unfold stgV at RM
  obtain ⟨⟨d, l, said⟩, hr⟩ : ∃ r, r = runF (dialS ⟨xn, gx⟩ xw xc cx) (listenS ⟨yn, gy⟩ yc cy) (helloF ⟨xn, gx⟩ xw) how mId := ⟨_, rfl⟩
  rw [← hr] at PL RM
  simp only at PL RM
  have hfirst : firstB ⟨xn, gx⟩ ⟨yn, gy⟩ xw xc yc cx cy how = false := by unfold firstB metB; simp [m3]
  have hboth : bothB ⟨xn, gx⟩ ⟨yn, gy⟩ xw xc yc cx cy how = false := by unfold bothB; rw [hfirst]; rfl
  have f1 : (xw.toList == yn.toList) = true := m1
  have f2 : (xn.toList != yn.toList) = true := by unfold seqB at m2; simp only [bne, m2]; rfl
  have f2b : (xn.toList == yn.toList) = false := m2
  have f3 := m3
  have LX : xc.size ≤ 6000 := by omega
  have LY : yc.size ≤ 6000 := by omega
  have HLX := Lib.hid LX
  have HLY := Lib.hid LY
  obtain ⟨sd, hsd⟩ : ∃ n : Nat, n = d.state := ⟨_, rfl⟩
  obtain ⟨sl, hsl⟩ : ∃ n : Nat, n = l.state := ⟨_, rfl⟩
  have e1 : ((sd : Int) == 3) = false := beq_eq_false_iff_ne.2 (fun q => by have := PL.1.1 (by omega); rw [hboth] at this; cases this)
  have e2 : ((sl : Int) == 3) = false := beq_eq_false_iff_ne.2 (fun q => by have := PL.2.1.1 (by omega); rw [hfirst] at this; cases this)
  have ST : Hid (∀ W D s, Blk W D 46 (sdC s) → Calls Tryd.prog 16 #[.pointer (some ⟨D, 0, none⟩)] W fun e w' => e = .returned (.int .i64 s.state) ∧ W = w') := Lib.hid (fun W D s h => state_any s D W h)
  have STd : Hid (∀ W D, Blk W D 46 (sdC d) → Calls Tryd.prog 16 #[.pointer (some ⟨D, 0, none⟩)] W fun e w' => e = .returned (.int .i64 sd) ∧ W = w') := Lib.hid (fun W D h => by rw [hsd]; exact ST.out W D d h)
  have STl : Hid (∀ W D, Blk W D 46 (sdC l) → Calls Tryd.prog 16 #[.pointer (some ⟨D, 0, none⟩)] W fun e w' => e = .returned (.int .i64 sl) ∧ W = w') := Lib.hid (fun W D h => by rw [hsl]; exact ST.out W D l h)
  clear ht sx sy hlx hly hd hv lx ly p1 p2 p3 okx oky PL hr hx hy hsd hsl ST LX LY hfirst hboth 
  clear m1 m2 m3
  unfold stgV
  go_enter Tryd.func9, Tryd.ntmps9
  obtain ⟨c0, c1, c2, c3, c4, c5⟩ := X0.out
  obtain ⟨d0, d1, d2, d3, d4, d5⟩ := Y0.out
  dsimp only at c0 c1 c2 c3 c4 c5
  simp only [World.size_alloc] at d0 d1 d2 d3 d4 d5
  go_wp2_with fail
  refine (CX.out _).mono ?_
  rintro e w1 ⟨rfl, b1⟩
  have S1 := Lib.hid (S0.out.keep b1)
  clear c0 c1 c2 c3 c4 c5 d0 d1 d2 d3 d4 d5
  have X1 := Lib.hid (X0.out.below b1)
  have Y1 := Lib.hid (Y0.out.below b1)
  obtain ⟨c0, c1, c2, c3, c4, c5⟩ := X1.out
  obtain ⟨d0, d1, d2, d3, d4, d5⟩ := Y1.out
  dsimp only at c0 c1 c2 c3 c4 c5
  simp only [World.size_alloc] at d0 d1 d2 d3 d4 d5
  clear b1 S0 X0 Y0
  go_wp2_with fail
  refine (CY.out _).mono ?_
  rintro e w2 ⟨rfl, b2⟩
  have S2 := Lib.hid (S1.out.keep b2)
  clear c0 c1 c2 c3 c4 c5 d0 d1 d2 d3 d4 d5
  have X2 := Lib.hid (X1.out.below b2)
  have Y2 := Lib.hid (Y1.out.below b2)
  obtain ⟨c0, c1, c2, c3, c4, c5⟩ := X2.out
  obtain ⟨d0, d1, d2, d3, d4, d5⟩ := Y2.out
  dsimp only at c0 c1 c2 c3 c4 c5
  simp only [World.size_alloc] at d0 d1 d2 d3 d4 d5
  clear b2 S1 X1 Y1
  go_wp2_with fail
  refine (RM.out _ S2.out.tabs).mono ?_
  rintro e w3 ⟨D, K, rfl, ss⟩
  have SS3 := Lib.hid ss
  have S3 := Lib.hid (S2.out.keep ss.st.bel)
  have X3 := Lib.hid (X2.out.below ss.st.bel)
  have Y3 := Lib.hid (Y2.out.below ss.st.bel)
  clear c0 c1 c2 c3 c4 c5 d0 d1 d2 d3 d4 d5
  clear ss S2 X2 Y2
  obtain ⟨c0, c1, c2, c3, c4, c5⟩ := X3.out
  obtain ⟨d0, d1, d2, d3, d4, d5⟩ := Y3.out
  dsimp only at c0 c1 c2 c3 c4 c5
  simp only [World.size_alloc] at d0 d1 d2 d3 d4 d5
  have HSD : Hid (∀ W, ((W).cell? ⟨w.heap.size, 0, none⟩ = some (.bool xd) ∧ (W).cell? ⟨w.heap.size, 1, none⟩ = some (.string xn) ∧ (W).cell? ⟨w.heap.size, 2, none⟩ = some (.int .i64 (gx : Int)) ∧ (W).cell? ⟨w.heap.size, 3, none⟩ = some (.string xw) ∧ (W).cell? ⟨w.heap.size, 4, none⟩ = some (.string xc) ∧ (W).cell? ⟨w.heap.size, 5, none⟩ = some (.int .u64 (cx : Int)) ∧ (W).cell? ⟨w.heap.size + 1, 0, none⟩ = some (.bool yd) ∧ (W).cell? ⟨w.heap.size + 1, 1, none⟩ = some (.string yn) ∧ (W).cell? ⟨w.heap.size + 1, 2, none⟩ = some (.int .i64 (gy : Int)) ∧ (W).cell? ⟨w.heap.size + 1, 3, none⟩ = some (.string yw) ∧ (W).cell? ⟨w.heap.size + 1, 4, none⟩ = some (.string yc) ∧ (W).cell? ⟨w.heap.size + 1, 5, none⟩ = some (.int .u64 (cy : Int)) ∧ St w3 (W)) → ∀ n, (W.drewN n).cell? ⟨w.heap.size, 0, none⟩ = some (.bool xd) ∧ (W.drewN n).cell? ⟨w.heap.size, 1, none⟩ = some (.string xn) ∧ (W.drewN n).cell? ⟨w.heap.size, 2, none⟩ = some (.int .i64 (gx : Int)) ∧ (W.drewN n).cell? ⟨w.heap.size, 3, none⟩ = some (.string xw) ∧ (W.drewN n).cell? ⟨w.heap.size, 4, none⟩ = some (.string xc) ∧ (W.drewN n).cell? ⟨w.heap.size, 5, none⟩ = some (.int .u64 (cx : Int)) ∧ (W.drewN n).cell? ⟨w.heap.size + 1, 0, none⟩ = some (.bool yd) ∧ (W.drewN n).cell? ⟨w.heap.size + 1, 1, none⟩ = some (.string yn) ∧ (W.drewN n).cell? ⟨w.heap.size + 1, 2, none⟩ = some (.int .i64 (gy : Int)) ∧ (W.drewN n).cell? ⟨w.heap.size + 1, 3, none⟩ = some (.string yw) ∧ (W.drewN n).cell? ⟨w.heap.size + 1, 4, none⟩ = some (.string yc) ∧ (W.drewN n).cell? ⟨w.heap.size + 1, 5, none⟩ = some (.int .u64 (cy : Int)) ∧ St w3 (W.drewN n)) :=
    Lib.hid (fun W ⟨s1, s2, s3, s4, s5, s6, s7, s8, s9, s10, s11, s12, s13⟩ n => ⟨s1, s2, s3, s4, s5, s6, s7, s8, s9, s10, s11, s12, s13.drewN n⟩)
  have HS0 : Hid ((w3).cell? ⟨w.heap.size, 0, none⟩ = some (.bool xd) ∧ (w3).cell? ⟨w.heap.size, 1, none⟩ = some (.string xn) ∧ (w3).cell? ⟨w.heap.size, 2, none⟩ = some (.int .i64 (gx : Int)) ∧ (w3).cell? ⟨w.heap.size, 3, none⟩ = some (.string xw) ∧ (w3).cell? ⟨w.heap.size, 4, none⟩ = some (.string xc) ∧ (w3).cell? ⟨w.heap.size, 5, none⟩ = some (.int .u64 (cx : Int)) ∧ (w3).cell? ⟨w.heap.size + 1, 0, none⟩ = some (.bool yd) ∧ (w3).cell? ⟨w.heap.size + 1, 1, none⟩ = some (.string yn) ∧ (w3).cell? ⟨w.heap.size + 1, 2, none⟩ = some (.int .i64 (gy : Int)) ∧ (w3).cell? ⟨w.heap.size + 1, 3, none⟩ = some (.string yw) ∧ (w3).cell? ⟨w.heap.size + 1, 4, none⟩ = some (.string yc) ∧ (w3).cell? ⟨w.heap.size + 1, 5, none⟩ = some (.int .u64 (cy : Int)) ∧ St w3 (w3)) := Lib.hid ⟨c0, c1, c2, c3, c4, c5, d0, d1, d2, d3, d4, d5, St.refl S3.out.tabs⟩
  go_wp2
  have BD : Hid (∀ W, St w3 W → Blk W D 46 (sdC d)) := Lib.hid (fun W h => (SS3.out.below h.bel).get 0 rfl)
  have BK : Hid (∀ W, St w3 W → Blk W K 46 (sdC l)) := Lib.hid (fun W h => (SS3.out.below h.bel).get 1 rfl)
  go_quiet (fail)
  all_goals
    all_goals
      generalize hwp : World.drewN _ _ = wp
      have hq : (wp).cell? ⟨w.heap.size, 0, none⟩ = some (.bool xd) ∧ (wp).cell? ⟨w.heap.size, 1, none⟩ = some (.string xn) ∧ (wp).cell? ⟨w.heap.size, 2, none⟩ = some (.int .i64 (gx : Int)) ∧ (wp).cell? ⟨w.heap.size, 3, none⟩ = some (.string xw) ∧ (wp).cell? ⟨w.heap.size, 4, none⟩ = some (.string xc) ∧ (wp).cell? ⟨w.heap.size, 5, none⟩ = some (.int .u64 (cx : Int)) ∧ (wp).cell? ⟨w.heap.size + 1, 0, none⟩ = some (.bool yd) ∧ (wp).cell? ⟨w.heap.size + 1, 1, none⟩ = some (.string yn) ∧ (wp).cell? ⟨w.heap.size + 1, 2, none⟩ = some (.int .i64 (gy : Int)) ∧ (wp).cell? ⟨w.heap.size + 1, 3, none⟩ = some (.string yw) ∧ (wp).cell? ⟨w.heap.size + 1, 4, none⟩ = some (.string yc) ∧ (wp).cell? ⟨w.heap.size + 1, 5, none⟩ = some (.int .u64 (cy : Int)) ∧ St w3 (wp) := by rw [← hwp]; exact HSD.out _ HS0.out _
      have HSP := Lib.hid hq
      clear hwp c0 c1 c2 c3 c4 c5 d0 d1 d2 d3 d4 d5
      obtain ⟨c0, c1, c2, c3, c4, c5, d0, d1, d2, d3, d4, d5, stq⟩ := hq
      have STP := Lib.hid stq
      clear stq
      go_wp2
      go_quiet (fail)
      generalize hwq : World.drewN _ _ = wq
      have hq : (wq).cell? ⟨w.heap.size, 0, none⟩ = some (.bool xd) ∧ (wq).cell? ⟨w.heap.size, 1, none⟩ = some (.string xn) ∧ (wq).cell? ⟨w.heap.size, 2, none⟩ = some (.int .i64 (gx : Int)) ∧ (wq).cell? ⟨w.heap.size, 3, none⟩ = some (.string xw) ∧ (wq).cell? ⟨w.heap.size, 4, none⟩ = some (.string xc) ∧ (wq).cell? ⟨w.heap.size, 5, none⟩ = some (.int .u64 (cx : Int)) ∧ (wq).cell? ⟨w.heap.size + 1, 0, none⟩ = some (.bool yd) ∧ (wq).cell? ⟨w.heap.size + 1, 1, none⟩ = some (.string yn) ∧ (wq).cell? ⟨w.heap.size + 1, 2, none⟩ = some (.int .i64 (gy : Int)) ∧ (wq).cell? ⟨w.heap.size + 1, 3, none⟩ = some (.string yw) ∧ (wq).cell? ⟨w.heap.size + 1, 4, none⟩ = some (.string yc) ∧ (wq).cell? ⟨w.heap.size + 1, 5, none⟩ = some (.int .u64 (cy : Int)) ∧ St w3 (wq) := by rw [← hwq]; exact HSD.out _ HSP.out _
      have HSQ := Lib.hid hq
      clear hwq c0 c1 c2 c3 c4 c5 d0 d1 d2 d3 d4 d5
      obtain ⟨c0, c1, c2, c3, c4, c5, d0, d1, d2, d3, d4, d5, stq⟩ := hq
      have STQ := Lib.hid stq
      clear stq
      go_wp2_with fail
      refine (STd.out _ D (BD.out _ (STQ.out))).mono ?_
      rintro e w' ⟨rfl, rfl⟩
      go_wp2_with fail
      refine (STl.out _ K (BK.out _ (STQ.out))).mono ?_
      rintro e w' ⟨rfl, rfl⟩
      go_wp2
      refine wp_region_still_tail 17 (by kernel_rfl) (by kernel_rfl) ?_
      simp only [List.take_succ_cons, List.take_zero, List.drop_succ_cons, List.drop_zero]
      change wpStill _ _ wq.drew (fun a' => wpList _ _ _ _ a' wq.drew) _ _
      have stw := Lib.hid (STQ.out).drew
      generalize wq.drew = wr at stw ⊢
      refine StillW.out ?_
      refine still_on (by kernel_rfl) (.bool false) (by kernel_rfl) ?_
      simp only [Act.put, List.setIfInBounds_toArray, List.set_cons_zero, List.set_cons_succ]
      refine still_on (by kernel_rfl) (.bool true) (by kernel_rfl) ?_
      simp only [Act.put, List.setIfInBounds_toArray, List.set_cons_zero, List.set_cons_succ]
      refine still_on (by kernel_rfl) (.bool true) (by kernel_rfl) ?_
      simp only [Act.put, List.setIfInBounds_toArray, List.set_cons_zero, List.set_cons_succ]
      refine still_off (by kernel_rfl) ?_
      simp only [Act.put, List.setIfInBounds_toArray, List.set_cons_zero, List.set_cons_succ]
      refine still_off (by kernel_rfl) ?_
      simp only [Act.put, List.setIfInBounds_toArray, List.set_cons_zero, List.set_cons_succ]
      refine still_off (by kernel_rfl) ?_
      simp only [Act.put, List.setIfInBounds_toArray, List.set_cons_zero, List.set_cons_succ]
      refine still_off (by kernel_rfl) ?_
      simp only [Act.put, List.setIfInBounds_toArray, List.set_cons_zero, List.set_cons_succ]
      refine still_off (by kernel_rfl) ?_
      simp only [Act.put, List.setIfInBounds_toArray, List.set_cons_zero, List.set_cons_succ]
      refine still_off (by kernel_rfl) ?_
      simp only [Act.put, List.setIfInBounds_toArray, List.set_cons_zero, List.set_cons_succ]
      refine still_off (by kernel_rfl) ?_
      simp only [Act.put, List.setIfInBounds_toArray, List.set_cons_zero, List.set_cons_succ]
      refine still_off (by kernel_rfl) ?_
      simp only [Act.put, List.setIfInBounds_toArray, List.set_cons_zero, List.set_cons_succ]
      refine still_off (by kernel_rfl) ?_
      simp only [Act.put, List.setIfInBounds_toArray, List.set_cons_zero, List.set_cons_succ]
      refine still_off (by kernel_rfl) ?_
      simp only [Act.put, List.setIfInBounds_toArray, List.set_cons_zero, List.set_cons_succ]
      refine still_off (by kernel_rfl) ?_
      simp only [Act.put, List.setIfInBounds_toArray, List.set_cons_zero, List.set_cons_succ]
      refine still_off (by kernel_rfl) ?_
      simp only [Act.put, List.setIfInBounds_toArray, List.set_cons_zero, List.set_cons_succ]
      refine still_on (by kernel_rfl) (.bool true) (by kernel_rfl) ?_
      simp only [Act.put, List.setIfInBounds_toArray, List.set_cons_zero, List.set_cons_succ]
      refine still_on (by kernel_rfl) (.bool true) (by kernel_rfl) ?_
      simp only [Act.put, List.setIfInBounds_toArray, List.set_cons_zero, List.set_cons_succ]
      refine ⟨wpStill_nil ?_⟩
      go_wp2_with fail
      refine (AW.out _ stw.out.tabs).mono ?_
      rintro e w7 ⟨rfl, b7⟩
      have B7 := Lib.hid ((stw.out.keep b7).bel)
      clear b7
      go_wp2
      go_ret
      exact ⟨rfl, (S3.out.keep B7.out).bel⟩
set_option maxRecDepth 100000 in
set_option maxHeartbeats 4000000 in
theorem both_m1 (xd yd : Bool) (xn xw xc yn yw yc : ByteArray) (gx gy cx cy : Nat) (how : Int) (w : World) (ht : Tabs w) (sx : StgSz (⟨xd, xn, gx, xw, xc, cx⟩ : Stg)) (sy : StgSz (⟨yd, yn, gy, yw, yc, cy⟩ : Stg)) (hlx : longB (⟨xd, xn, gx, xw, xc, cx⟩ : Stg) = false) (hly : longB (⟨yd, yn, gy, yw, yc, cy⟩ : Stg) = false)
    (hx : cx ≤ 18446744073709551615) (hy : cy ≤ 18446744073709551615) (hd : dialB xn gx xw = true) (hv : (nameF yn && genI gy) = true) (m1 : seqB xw yn = true) (m2 : seqB xn yn = false) (m3 : (how == 1) = true) (m4 : seqB (proofD ⟨xn, gx⟩ ⟨yn, gy⟩ xc cx cy) (proofD ⟨xn, gx⟩ ⟨yn, gy⟩ yc cx cy) = false) :
    Calls Tryd.prog 9 #[stgV (⟨xd, xn, gx, xw, xc, cx⟩ : Stg), stgV (⟨yd, yn, gy, yw, yc, cy⟩ : Stg), .int .i64 how] w fun e w' => e = .returned (.bool true) ∧ Below w.heap.size w w' := by
  obtain rfl : how = 1 := by simpa using m3
  have X0 := Lib.hid (Bx.of (x := (⟨xd, xn, gx, xw, xc, cx⟩ : Stg)) ((Blk.new w 26 #[.bool xd, .string xn, .int .i64 gx, .string xw, .string xc, .int .u64 (cx : Int)]).alloc (.cells #[.bool yd, .string yn, .int .i64 gy, .string yw, .string yc, .int .u64 (cy : Int)] 26)))
  have Y0 := Lib.hid (Bx.of (x := (⟨yd, yn, gy, yw, yc, cy⟩ : Stg)) (Blk.new (w.alloc (.cells #[.bool xd, .string xn, .int .i64 gx, .string xw, .string xc, .int .u64 (cx : Int)] 26)) 26 #[.bool yd, .string yn, .int .i64 gy, .string yw, .string yc, .int .u64 (cy : Int)]))
  have S0 := Lib.hid (((St.refl ht).alloc (.cells #[.bool xd, .string xn, .int .i64 gx, .string xw, .string xc, .int .u64 (cx : Int)] 26)).alloc (.cells #[.bool yd, .string yn, .int .i64 gy, .string yw, .string yc, .int .u64 (cy : Int)] 26))
  have CX : Hid (∀ W, Calls Tryd.prog 10 #[.agg #[.bool xd, .string xn, .int .i64 gx, .string xw, .string xc, .int .u64 (cx : Int)], .slice none 0 0] W fun e w' => e = .returned (.bool false) ∧ Below W.heap.size W w') := by
    refine Lib.hid fun W => ?_
    have := longN_any (⟨xd, xn, gx, xw, xc, cx⟩ : Stg) sx.n sx.w sx.c W
    rw [hlx] at this
    exact this
  have CY : Hid (∀ W, Calls Tryd.prog 10 #[.agg #[.bool yd, .string yn, .int .i64 gy, .string yw, .string yc, .int .u64 (cy : Int)], .slice none 0 0] W fun e w' => e = .returned (.bool false) ∧ Below W.heap.size W w') := by
    refine Lib.hid fun W => ?_
    have := longN_any (⟨yd, yn, gy, yw, yc, cy⟩ : Stg) sy.n sy.w sy.c W
    rw [hly] at this
    exact this
  have AW := Lib.hid (fun W (t : Tabs W) => awakeS_any W t)
  have lx : xw.size + xc.size + xn.size ≤ 6000 := by
    have := of_decide_eq_false hlx
    dsimp only at this
    omega
  have ly : yw.size + yc.size + yn.size ≤ 6000 := by
    have := of_decide_eq_false hly
    dsimp only at this
    omega
  obtain ⟨p1, p2, p3⟩ := dialB_parts hd
  have okx := prOk_of p1
  have oky := prOk_of hv
  have PL := run_plain ⟨xn, gx⟩ ⟨yn, gy⟩ okx oky xw xc yc cx cy hx hy p2 1
  have RM := Lib.hid (fun W (t : Tabs W) => runP_made xd yd xn xw xc yn yw yc gx gy cx cy 1 W t mId_size ⟨by omega, by omega, by omega⟩ (by omega) hx hy hd hv)
  unfold stgV at RM
  obtain ⟨⟨d, l, said⟩, hr⟩ : ∃ r, r = runF (dialS ⟨xn, gx⟩ xw xc cx) (listenS ⟨yn, gy⟩ yc cy) (helloF ⟨xn, gx⟩ xw) 1 mId := ⟨_, rfl⟩
  rw [← hr] at PL RM
  simp only at PL RM
  obtain ⟨pd, hpd⟩ : ∃ f : ByteArray → ByteArray, f = fun c => proofD ⟨xn, gx⟩ ⟨yn, gy⟩ c cx cy := ⟨_, rfl⟩
  have CD : Hid (∀ W c, c.size ≤ 6000 → Tabs W → Calls Tryd.prog 31 #[.bool true, .agg #[.bool xd, .string xn, .int .i64 (gx : Int), .string xw, .string xc, .int .u64 (cx : Int)], .agg #[.bool yd, .string yn, .int .i64 (gy : Int), .string yw, .string yc, .int .u64 (cy : Int)], .string c] W fun e w' => e = .returned (.string (pd c)) ∧ Below W.heap.size W w') :=
    Lib.hid (fun W c hc t => by rw [hpd]; exact proved_D xd yd xn xw xc yn yw yc gx gy cx cy (nameF_size _ okx.1).2 (nameF_size _ oky.1).2 okx.2.2 oky.2.2 hx hy c hc W t)
  have f1 : (xw.toList == yn.toList) = true := m1
  have f2 : (xn.toList != yn.toList) = true := by unfold seqB at m2; simp only [bne, m2]; rfl
  have f2b : (xn.toList == yn.toList) = false := m2
  have hfirst : firstB ⟨xn, gx⟩ ⟨yn, gy⟩ xw xc yc cx cy 1 = false := by unfold firstB; rw [m4, Bool.and_false]
  have hboth : bothB ⟨xn, gx⟩ ⟨yn, gy⟩ xw xc yc cx cy 1 = false := by unfold bothB; rw [hfirst]; rfl
  have f4 : ((pd xc).toList == (pd yc).toList) = false := by rw [hpd]; exact m4
  have f5 : (xc.toList == yc.toList) = false := by
    cases q : seqB xc yc
    · exact q
    · rw [seqB_eq] at q; rw [q, seqB_refl] at m4; cases m4
  have LX : xc.size ≤ 6000 := by omega
  have LY : yc.size ≤ 6000 := by omega
  have HLX := Lib.hid LX
  have HLY := Lib.hid LY
  obtain ⟨sd, hsd⟩ : ∃ n : Nat, n = d.state := ⟨_, rfl⟩
  obtain ⟨sl, hsl⟩ : ∃ n : Nat, n = l.state := ⟨_, rfl⟩
  have e1 : ((sd : Int) == 3) = false := beq_eq_false_iff_ne.2 (fun q => by have := PL.1.1 (by omega); rw [hboth] at this; cases this)
  have e2 : ((sl : Int) == 3) = false := beq_eq_false_iff_ne.2 (fun q => by have := PL.2.1.1 (by omega); rw [hfirst] at this; cases this)
  have ST : Hid (∀ W D s, Blk W D 46 (sdC s) → Calls Tryd.prog 16 #[.pointer (some ⟨D, 0, none⟩)] W fun e w' => e = .returned (.int .i64 s.state) ∧ W = w') := Lib.hid (fun W D s h => state_any s D W h)
  have STd : Hid (∀ W D, Blk W D 46 (sdC d) → Calls Tryd.prog 16 #[.pointer (some ⟨D, 0, none⟩)] W fun e w' => e = .returned (.int .i64 sd) ∧ W = w') := Lib.hid (fun W D h => by rw [hsd]; exact ST.out W D d h)
  have STl : Hid (∀ W D, Blk W D 46 (sdC l) → Calls Tryd.prog 16 #[.pointer (some ⟨D, 0, none⟩)] W fun e w' => e = .returned (.int .i64 sl) ∧ W = w') := Lib.hid (fun W D h => by rw [hsl]; exact ST.out W D l h)
  clear ht sx sy hlx hly hd hv lx ly p1 p2 p3 okx oky PL hr hx hy hsd hsl ST LX LY hfirst hboth hpd 
  clear m1 m2 m3 m4
  unfold stgV
  go_enter Tryd.func9, Tryd.ntmps9
  obtain ⟨c0, c1, c2, c3, c4, c5⟩ := X0.out
  obtain ⟨d0, d1, d2, d3, d4, d5⟩ := Y0.out
  dsimp only at c0 c1 c2 c3 c4 c5
  simp only [World.size_alloc] at d0 d1 d2 d3 d4 d5
  go_wp2_with fail
  refine (CX.out _).mono ?_
  rintro e w1 ⟨rfl, b1⟩
  have S1 := Lib.hid (S0.out.keep b1)
  clear c0 c1 c2 c3 c4 c5 d0 d1 d2 d3 d4 d5
  have X1 := Lib.hid (X0.out.below b1)
  have Y1 := Lib.hid (Y0.out.below b1)
  obtain ⟨c0, c1, c2, c3, c4, c5⟩ := X1.out
  obtain ⟨d0, d1, d2, d3, d4, d5⟩ := Y1.out
  dsimp only at c0 c1 c2 c3 c4 c5
  simp only [World.size_alloc] at d0 d1 d2 d3 d4 d5
  clear b1 S0 X0 Y0
  go_wp2_with fail
  refine (CY.out _).mono ?_
  rintro e w2 ⟨rfl, b2⟩
  have S2 := Lib.hid (S1.out.keep b2)
  clear c0 c1 c2 c3 c4 c5 d0 d1 d2 d3 d4 d5
  have X2 := Lib.hid (X1.out.below b2)
  have Y2 := Lib.hid (Y1.out.below b2)
  obtain ⟨c0, c1, c2, c3, c4, c5⟩ := X2.out
  obtain ⟨d0, d1, d2, d3, d4, d5⟩ := Y2.out
  dsimp only at c0 c1 c2 c3 c4 c5
  simp only [World.size_alloc] at d0 d1 d2 d3 d4 d5
  clear b2 S1 X1 Y1
  go_wp2_with fail
  refine (RM.out _ S2.out.tabs).mono ?_
  rintro e w3 ⟨D, K, rfl, ss⟩
  have SS3 := Lib.hid ss
  have S3 := Lib.hid (S2.out.keep ss.st.bel)
  have X3 := Lib.hid (X2.out.below ss.st.bel)
  have Y3 := Lib.hid (Y2.out.below ss.st.bel)
  clear c0 c1 c2 c3 c4 c5 d0 d1 d2 d3 d4 d5
  clear ss S2 X2 Y2
  obtain ⟨c0, c1, c2, c3, c4, c5⟩ := X3.out
  obtain ⟨d0, d1, d2, d3, d4, d5⟩ := Y3.out
  dsimp only at c0 c1 c2 c3 c4 c5
  simp only [World.size_alloc] at d0 d1 d2 d3 d4 d5
  have HSD : Hid (∀ W, ((W).cell? ⟨w.heap.size, 0, none⟩ = some (.bool xd) ∧ (W).cell? ⟨w.heap.size, 1, none⟩ = some (.string xn) ∧ (W).cell? ⟨w.heap.size, 2, none⟩ = some (.int .i64 (gx : Int)) ∧ (W).cell? ⟨w.heap.size, 3, none⟩ = some (.string xw) ∧ (W).cell? ⟨w.heap.size, 4, none⟩ = some (.string xc) ∧ (W).cell? ⟨w.heap.size, 5, none⟩ = some (.int .u64 (cx : Int)) ∧ (W).cell? ⟨w.heap.size + 1, 0, none⟩ = some (.bool yd) ∧ (W).cell? ⟨w.heap.size + 1, 1, none⟩ = some (.string yn) ∧ (W).cell? ⟨w.heap.size + 1, 2, none⟩ = some (.int .i64 (gy : Int)) ∧ (W).cell? ⟨w.heap.size + 1, 3, none⟩ = some (.string yw) ∧ (W).cell? ⟨w.heap.size + 1, 4, none⟩ = some (.string yc) ∧ (W).cell? ⟨w.heap.size + 1, 5, none⟩ = some (.int .u64 (cy : Int)) ∧ St w3 (W)) → ∀ n, (W.drewN n).cell? ⟨w.heap.size, 0, none⟩ = some (.bool xd) ∧ (W.drewN n).cell? ⟨w.heap.size, 1, none⟩ = some (.string xn) ∧ (W.drewN n).cell? ⟨w.heap.size, 2, none⟩ = some (.int .i64 (gx : Int)) ∧ (W.drewN n).cell? ⟨w.heap.size, 3, none⟩ = some (.string xw) ∧ (W.drewN n).cell? ⟨w.heap.size, 4, none⟩ = some (.string xc) ∧ (W.drewN n).cell? ⟨w.heap.size, 5, none⟩ = some (.int .u64 (cx : Int)) ∧ (W.drewN n).cell? ⟨w.heap.size + 1, 0, none⟩ = some (.bool yd) ∧ (W.drewN n).cell? ⟨w.heap.size + 1, 1, none⟩ = some (.string yn) ∧ (W.drewN n).cell? ⟨w.heap.size + 1, 2, none⟩ = some (.int .i64 (gy : Int)) ∧ (W.drewN n).cell? ⟨w.heap.size + 1, 3, none⟩ = some (.string yw) ∧ (W.drewN n).cell? ⟨w.heap.size + 1, 4, none⟩ = some (.string yc) ∧ (W.drewN n).cell? ⟨w.heap.size + 1, 5, none⟩ = some (.int .u64 (cy : Int)) ∧ St w3 (W.drewN n)) :=
    Lib.hid (fun W ⟨s1, s2, s3, s4, s5, s6, s7, s8, s9, s10, s11, s12, s13⟩ n => ⟨s1, s2, s3, s4, s5, s6, s7, s8, s9, s10, s11, s12, s13.drewN n⟩)
  have HS0 : Hid ((w3).cell? ⟨w.heap.size, 0, none⟩ = some (.bool xd) ∧ (w3).cell? ⟨w.heap.size, 1, none⟩ = some (.string xn) ∧ (w3).cell? ⟨w.heap.size, 2, none⟩ = some (.int .i64 (gx : Int)) ∧ (w3).cell? ⟨w.heap.size, 3, none⟩ = some (.string xw) ∧ (w3).cell? ⟨w.heap.size, 4, none⟩ = some (.string xc) ∧ (w3).cell? ⟨w.heap.size, 5, none⟩ = some (.int .u64 (cx : Int)) ∧ (w3).cell? ⟨w.heap.size + 1, 0, none⟩ = some (.bool yd) ∧ (w3).cell? ⟨w.heap.size + 1, 1, none⟩ = some (.string yn) ∧ (w3).cell? ⟨w.heap.size + 1, 2, none⟩ = some (.int .i64 (gy : Int)) ∧ (w3).cell? ⟨w.heap.size + 1, 3, none⟩ = some (.string yw) ∧ (w3).cell? ⟨w.heap.size + 1, 4, none⟩ = some (.string yc) ∧ (w3).cell? ⟨w.heap.size + 1, 5, none⟩ = some (.int .u64 (cy : Int)) ∧ St w3 (w3)) := Lib.hid ⟨c0, c1, c2, c3, c4, c5, d0, d1, d2, d3, d4, d5, St.refl S3.out.tabs⟩
  go_wp2
  have BD : Hid (∀ W, St w3 W → Blk W D 46 (sdC d)) := Lib.hid (fun W h => (SS3.out.below h.bel).get 0 rfl)
  have BK : Hid (∀ W, St w3 W → Blk W K 46 (sdC l)) := Lib.hid (fun W h => (SS3.out.below h.bel).get 1 rfl)
  go_region_held3 (fun w' => (w').cell? ⟨w.heap.size, 0, none⟩ = some (.bool xd) ∧ (w').cell? ⟨w.heap.size, 1, none⟩ = some (.string xn) ∧ (w').cell? ⟨w.heap.size, 2, none⟩ = some (.int .i64 (gx : Int)) ∧ (w').cell? ⟨w.heap.size, 3, none⟩ = some (.string xw) ∧ (w').cell? ⟨w.heap.size, 4, none⟩ = some (.string xc) ∧ (w').cell? ⟨w.heap.size, 5, none⟩ = some (.int .u64 (cx : Int)) ∧ (w').cell? ⟨w.heap.size + 1, 0, none⟩ = some (.bool yd) ∧ (w').cell? ⟨w.heap.size + 1, 1, none⟩ = some (.string yn) ∧ (w').cell? ⟨w.heap.size + 1, 2, none⟩ = some (.int .i64 (gy : Int)) ∧ (w').cell? ⟨w.heap.size + 1, 3, none⟩ = some (.string yw) ∧ (w').cell? ⟨w.heap.size + 1, 4, none⟩ = some (.string yc) ∧ (w').cell? ⟨w.heap.size + 1, 5, none⟩ = some (.int .u64 (cy : Int)) ∧ St w3 (w'))
    (first | exact HSD.out _ HS0.out 1 | (obtain ⟨s1, s2, s3, s4, s5, s6, s7, s8, s9, s10, s11, s12, s13⟩ := (‹_ ∧ _ ∧ _ ∧ _ ∧ _ ∧ _ ∧ _ ∧ _ ∧ _ ∧ _ ∧ _ ∧ _ ∧ St _ _›); exact ⟨cell_keep (by assumption) s1, cell_keep (by assumption) s2, cell_keep (by assumption) s3, cell_keep (by assumption) s4, cell_keep (by assumption) s5, cell_keep (by assumption) s6, cell_keep (by assumption) s7, cell_keep (by assumption) s8, cell_keep (by assumption) s9, cell_keep (by assumption) s10, cell_keep (by assumption) s11, cell_keep (by assumption) s12, s13.keep (by assumption)⟩))
    (first
      | (go_at_call 31; refine (CD.out _ _ (by first | exact HLX.out | exact HLY.out) ((‹_ ∧ _ ∧ _ ∧ _ ∧ _ ∧ _ ∧ _ ∧ _ ∧ _ ∧ _ ∧ _ ∧ _ ∧ St _ _›).2.2.2.2.2.2.2.2.2.2.2.2.tabs)).mono ?_; rintro e w5 ⟨rfl, b5⟩))
  have HSZ7 := Lib.hid (‹_ ∧ _ ∧ _ ∧ _ ∧ _ ∧ _ ∧ _ ∧ _ ∧ _ ∧ _ ∧ _ ∧ _ ∧ St _ _›)
  clear c0 c1 c2 c3 c4 c5 d0 d1 d2 d3 d4 d5
  all_goals
    obtain ⟨c0, c1, c2, c3, c4, c5, d0, d1, d2, d3, d4, d5, -⟩ := HSZ7.out
    go_wp2
    go_quiet (fail)
    all_goals
      generalize hwq : World.drewN _ _ = wq
      have hq : (wq).cell? ⟨w.heap.size, 0, none⟩ = some (.bool xd) ∧ (wq).cell? ⟨w.heap.size, 1, none⟩ = some (.string xn) ∧ (wq).cell? ⟨w.heap.size, 2, none⟩ = some (.int .i64 (gx : Int)) ∧ (wq).cell? ⟨w.heap.size, 3, none⟩ = some (.string xw) ∧ (wq).cell? ⟨w.heap.size, 4, none⟩ = some (.string xc) ∧ (wq).cell? ⟨w.heap.size, 5, none⟩ = some (.int .u64 (cx : Int)) ∧ (wq).cell? ⟨w.heap.size + 1, 0, none⟩ = some (.bool yd) ∧ (wq).cell? ⟨w.heap.size + 1, 1, none⟩ = some (.string yn) ∧ (wq).cell? ⟨w.heap.size + 1, 2, none⟩ = some (.int .i64 (gy : Int)) ∧ (wq).cell? ⟨w.heap.size + 1, 3, none⟩ = some (.string yw) ∧ (wq).cell? ⟨w.heap.size + 1, 4, none⟩ = some (.string yc) ∧ (wq).cell? ⟨w.heap.size + 1, 5, none⟩ = some (.int .u64 (cy : Int)) ∧ St w3 (wq) := by rw [← hwq]; exact HSD.out _ HSZ7.out _
      have HSQ := Lib.hid hq
      clear hwq c0 c1 c2 c3 c4 c5 d0 d1 d2 d3 d4 d5
      obtain ⟨c0, c1, c2, c3, c4, c5, d0, d1, d2, d3, d4, d5, stq⟩ := hq
      have STQ := Lib.hid stq
      clear stq
      go_wp2_with fail
      refine (STd.out _ D (BD.out _ (STQ.out))).mono ?_
      rintro e w' ⟨rfl, rfl⟩
      go_wp2_with fail
      refine (STl.out _ K (BK.out _ (STQ.out))).mono ?_
      rintro e w' ⟨rfl, rfl⟩
      go_wp2
      refine wp_region_still_tail 17 (by kernel_rfl) (by kernel_rfl) ?_
      simp only [List.take_succ_cons, List.take_zero, List.drop_succ_cons, List.drop_zero]
      change wpStill _ _ wq.drew (fun a' => wpList _ _ _ _ a' wq.drew) _ _
      have stw := Lib.hid (STQ.out).drew
      generalize wq.drew = wr at stw ⊢
      refine StillW.out ?_
      refine still_on (by kernel_rfl) (.bool false) (by kernel_rfl) ?_
      simp only [Act.put, List.setIfInBounds_toArray, List.set_cons_zero, List.set_cons_succ]
      refine still_on (by kernel_rfl) (.bool true) (by kernel_rfl) ?_
      simp only [Act.put, List.setIfInBounds_toArray, List.set_cons_zero, List.set_cons_succ]
      refine still_on (by kernel_rfl) (.bool true) (by kernel_rfl) ?_
      simp only [Act.put, List.setIfInBounds_toArray, List.set_cons_zero, List.set_cons_succ]
      refine still_off (by kernel_rfl) ?_
      simp only [Act.put, List.setIfInBounds_toArray, List.set_cons_zero, List.set_cons_succ]
      refine still_off (by kernel_rfl) ?_
      simp only [Act.put, List.setIfInBounds_toArray, List.set_cons_zero, List.set_cons_succ]
      refine still_off (by kernel_rfl) ?_
      simp only [Act.put, List.setIfInBounds_toArray, List.set_cons_zero, List.set_cons_succ]
      refine still_off (by kernel_rfl) ?_
      simp only [Act.put, List.setIfInBounds_toArray, List.set_cons_zero, List.set_cons_succ]
      refine still_off (by kernel_rfl) ?_
      simp only [Act.put, List.setIfInBounds_toArray, List.set_cons_zero, List.set_cons_succ]
      refine still_off (by kernel_rfl) ?_
      simp only [Act.put, List.setIfInBounds_toArray, List.set_cons_zero, List.set_cons_succ]
      refine still_off (by kernel_rfl) ?_
      simp only [Act.put, List.setIfInBounds_toArray, List.set_cons_zero, List.set_cons_succ]
      refine still_off (by kernel_rfl) ?_
      simp only [Act.put, List.setIfInBounds_toArray, List.set_cons_zero, List.set_cons_succ]
      refine still_off (by kernel_rfl) ?_
      simp only [Act.put, List.setIfInBounds_toArray, List.set_cons_zero, List.set_cons_succ]
      refine still_off (by kernel_rfl) ?_
      simp only [Act.put, List.setIfInBounds_toArray, List.set_cons_zero, List.set_cons_succ]
      refine still_off (by kernel_rfl) ?_
      simp only [Act.put, List.setIfInBounds_toArray, List.set_cons_zero, List.set_cons_succ]
      refine still_off (by kernel_rfl) ?_
      simp only [Act.put, List.setIfInBounds_toArray, List.set_cons_zero, List.set_cons_succ]
      refine still_on (by kernel_rfl) (.bool true) (by kernel_rfl) ?_
      simp only [Act.put, List.setIfInBounds_toArray, List.set_cons_zero, List.set_cons_succ]
      refine still_on (by kernel_rfl) (.bool true) (by kernel_rfl) ?_
      simp only [Act.put, List.setIfInBounds_toArray, List.set_cons_zero, List.set_cons_succ]
      refine ⟨wpStill_nil ?_⟩
      go_wp2_with fail
      refine (AW.out _ stw.out.tabs).mono ?_
      rintro e w7 ⟨rfl, b7⟩
      have B7 := Lib.hid ((stw.out.keep b7).bel)
      clear b7
      go_wp2
      go_ret
      exact ⟨rfl, (S3.out.keep B7.out).bel⟩
set_option maxRecDepth 100000 in
set_option maxHeartbeats 4000000 in
theorem both_m2 (xd yd : Bool) (xn xw xc yn yw yc : ByteArray) (gx gy cx cy : Nat) (how : Int) (w : World) (ht : Tabs w) (sx : StgSz (⟨xd, xn, gx, xw, xc, cx⟩ : Stg)) (sy : StgSz (⟨yd, yn, gy, yw, yc, cy⟩ : Stg)) (hlx : longB (⟨xd, xn, gx, xw, xc, cx⟩ : Stg) = false) (hly : longB (⟨yd, yn, gy, yw, yc, cy⟩ : Stg) = false)
    (hx : cx ≤ 18446744073709551615) (hy : cy ≤ 18446744073709551615) (hd : dialB xn gx xw = true) (hv : (nameF yn && genI gy) = true) (m1 : seqB xw yn = true) (m2 : seqB xn yn = false) (m3 : (how == 1) = true) (m4 : seqB (proofD ⟨xn, gx⟩ ⟨yn, gy⟩ xc cx cy) (proofD ⟨xn, gx⟩ ⟨yn, gy⟩ yc cx cy) = true) (m5 : seqB (proofL ⟨xn, gx⟩ ⟨yn, gy⟩ xc cx cy) (proofL ⟨xn, gx⟩ ⟨yn, gy⟩ yc cx cy) = false) :
    Calls Tryd.prog 9 #[stgV (⟨xd, xn, gx, xw, xc, cx⟩ : Stg), stgV (⟨yd, yn, gy, yw, yc, cy⟩ : Stg), .int .i64 how] w fun e w' => e = .returned (.bool true) ∧ Below w.heap.size w w' := by
  obtain rfl : how = 1 := by simpa using m3
  have X0 := Lib.hid (Bx.of (x := (⟨xd, xn, gx, xw, xc, cx⟩ : Stg)) ((Blk.new w 26 #[.bool xd, .string xn, .int .i64 gx, .string xw, .string xc, .int .u64 (cx : Int)]).alloc (.cells #[.bool yd, .string yn, .int .i64 gy, .string yw, .string yc, .int .u64 (cy : Int)] 26)))
  have Y0 := Lib.hid (Bx.of (x := (⟨yd, yn, gy, yw, yc, cy⟩ : Stg)) (Blk.new (w.alloc (.cells #[.bool xd, .string xn, .int .i64 gx, .string xw, .string xc, .int .u64 (cx : Int)] 26)) 26 #[.bool yd, .string yn, .int .i64 gy, .string yw, .string yc, .int .u64 (cy : Int)]))
  have S0 := Lib.hid (((St.refl ht).alloc (.cells #[.bool xd, .string xn, .int .i64 gx, .string xw, .string xc, .int .u64 (cx : Int)] 26)).alloc (.cells #[.bool yd, .string yn, .int .i64 gy, .string yw, .string yc, .int .u64 (cy : Int)] 26))
  have CX : Hid (∀ W, Calls Tryd.prog 10 #[.agg #[.bool xd, .string xn, .int .i64 gx, .string xw, .string xc, .int .u64 (cx : Int)], .slice none 0 0] W fun e w' => e = .returned (.bool false) ∧ Below W.heap.size W w') := by
    refine Lib.hid fun W => ?_
    have := longN_any (⟨xd, xn, gx, xw, xc, cx⟩ : Stg) sx.n sx.w sx.c W
    rw [hlx] at this
    exact this
  have CY : Hid (∀ W, Calls Tryd.prog 10 #[.agg #[.bool yd, .string yn, .int .i64 gy, .string yw, .string yc, .int .u64 (cy : Int)], .slice none 0 0] W fun e w' => e = .returned (.bool false) ∧ Below W.heap.size W w') := by
    refine Lib.hid fun W => ?_
    have := longN_any (⟨yd, yn, gy, yw, yc, cy⟩ : Stg) sy.n sy.w sy.c W
    rw [hly] at this
    exact this
  have AW := Lib.hid (fun W (t : Tabs W) => awakeS_any W t)
  have lx : xw.size + xc.size + xn.size ≤ 6000 := by
    have := of_decide_eq_false hlx
    dsimp only at this
    omega
  have ly : yw.size + yc.size + yn.size ≤ 6000 := by
    have := of_decide_eq_false hly
    dsimp only at this
    omega
  obtain ⟨p1, p2, p3⟩ := dialB_parts hd
  have okx := prOk_of p1
  have oky := prOk_of hv
  have PL := run_plain ⟨xn, gx⟩ ⟨yn, gy⟩ okx oky xw xc yc cx cy hx hy p2 1
  have RM := Lib.hid (fun W (t : Tabs W) => runP_made xd yd xn xw xc yn yw yc gx gy cx cy 1 W t mId_size ⟨by omega, by omega, by omega⟩ (by omega) hx hy hd hv)
  unfold stgV at RM
  obtain ⟨⟨d, l, said⟩, hr⟩ : ∃ r, r = runF (dialS ⟨xn, gx⟩ xw xc cx) (listenS ⟨yn, gy⟩ yc cy) (helloF ⟨xn, gx⟩ xw) 1 mId := ⟨_, rfl⟩
  rw [← hr] at PL RM
  simp only at PL RM
  obtain ⟨pd, hpd⟩ : ∃ f : ByteArray → ByteArray, f = fun c => proofD ⟨xn, gx⟩ ⟨yn, gy⟩ c cx cy := ⟨_, rfl⟩
  have CD : Hid (∀ W c, c.size ≤ 6000 → Tabs W → Calls Tryd.prog 31 #[.bool true, .agg #[.bool xd, .string xn, .int .i64 (gx : Int), .string xw, .string xc, .int .u64 (cx : Int)], .agg #[.bool yd, .string yn, .int .i64 (gy : Int), .string yw, .string yc, .int .u64 (cy : Int)], .string c] W fun e w' => e = .returned (.string (pd c)) ∧ Below W.heap.size W w') :=
    Lib.hid (fun W c hc t => by rw [hpd]; exact proved_D xd yd xn xw xc yn yw yc gx gy cx cy (nameF_size _ okx.1).2 (nameF_size _ oky.1).2 okx.2.2 oky.2.2 hx hy c hc W t)
  obtain ⟨pl, hpl⟩ : ∃ f : ByteArray → ByteArray, f = fun c => proofL ⟨xn, gx⟩ ⟨yn, gy⟩ c cx cy := ⟨_, rfl⟩
  have CL : Hid (∀ W c, c.size ≤ 6000 → Tabs W → Calls Tryd.prog 31 #[.bool false, .agg #[.bool xd, .string xn, .int .i64 (gx : Int), .string xw, .string xc, .int .u64 (cx : Int)], .agg #[.bool yd, .string yn, .int .i64 (gy : Int), .string yw, .string yc, .int .u64 (cy : Int)], .string c] W fun e w' => e = .returned (.string (pl c)) ∧ Below W.heap.size W w') :=
    Lib.hid (fun W c hc t => by rw [hpl]; exact proved_L xd yd xn xw xc yn yw yc gx gy cx cy (nameF_size _ okx.1).2 (nameF_size _ oky.1).2 okx.2.2 oky.2.2 hx hy c hc W t)
  have f1 : (xw.toList == yn.toList) = true := m1
  have f2 : (xn.toList != yn.toList) = true := by unfold seqB at m2; simp only [bne, m2]; rfl
  have f2b : (xn.toList == yn.toList) = false := m2
  have hfirst : firstB ⟨xn, gx⟩ ⟨yn, gy⟩ xw xc yc cx cy 1 = true := by unfold firstB metB; rw [m4, m1, m2, m3]; rfl
  have f4 : ((pd xc).toList == (pd yc).toList) = true := by rw [hpd]; exact m4
  have hboth : bothB ⟨xn, gx⟩ ⟨yn, gy⟩ xw xc yc cx cy 1 = false := by unfold bothB; rw [m5, Bool.and_false]
  have f6 : ((pl xc).toList == (pl yc).toList) = false := by rw [hpl]; exact m5
  have f5 : (xc.toList == yc.toList) = false := by
    cases q : seqB xc yc
    · exact q
    · rw [seqB_eq] at q; rw [q, seqB_refl] at m5; cases m5
  have LX : xc.size ≤ 6000 := by omega
  have LY : yc.size ≤ 6000 := by omega
  have HLX := Lib.hid LX
  have HLY := Lib.hid LY
  have b1 : (yn.toList == yn.toList) = true := by simp
  have b2 : (xn.toList == xn.toList) = true := by simp
  have b3 : ((gx : Int) == gx) = true := by simp
  have b4 : ((gy : Int) == gy) = true := by simp
  have PD : Hid (∀ D W, Blk W D 46 (sdC d) → Calls Tryd.prog 17 #[.pointer (some ⟨D, 0, none⟩)] W fun e w' => e = .returned (.agg #[.string yn, .int .i64 (gy : Int)]) ∧ Below W.heap.size W w') :=
    Lib.hid (fun D W h => by have := peerP_any d D W h; rw [(PL.2.2 hfirst).1] at this; exact this)
  have PK : Hid (∀ D W, Blk W D 46 (sdC l) → Calls Tryd.prog 17 #[.pointer (some ⟨D, 0, none⟩)] W fun e w' => e = .returned (.agg #[.string xn, .int .i64 (gx : Int)]) ∧ Below W.heap.size W w') :=
    Lib.hid (fun D W h => by have := peerP_any l D W h; rw [(PL.2.2 hfirst).2] at this; exact this)
  obtain ⟨sd, hsd⟩ : ∃ n : Nat, n = d.state := ⟨_, rfl⟩
  obtain ⟨sl, hsl⟩ : ∃ n : Nat, n = l.state := ⟨_, rfl⟩
  have e1 : ((sd : Int) == 3) = false := beq_eq_false_iff_ne.2 (fun q => by have := PL.1.1 (by omega); rw [hboth] at this; cases this)
  have e2 : ((sl : Int) == 3) = true := by rw [beq_iff_eq, hsl, PL.2.1.2 hfirst]; rfl
  have ST : Hid (∀ W D s, Blk W D 46 (sdC s) → Calls Tryd.prog 16 #[.pointer (some ⟨D, 0, none⟩)] W fun e w' => e = .returned (.int .i64 s.state) ∧ W = w') := Lib.hid (fun W D s h => state_any s D W h)
  have STd : Hid (∀ W D, Blk W D 46 (sdC d) → Calls Tryd.prog 16 #[.pointer (some ⟨D, 0, none⟩)] W fun e w' => e = .returned (.int .i64 sd) ∧ W = w') := Lib.hid (fun W D h => by rw [hsd]; exact ST.out W D d h)
  have STl : Hid (∀ W D, Blk W D 46 (sdC l) → Calls Tryd.prog 16 #[.pointer (some ⟨D, 0, none⟩)] W fun e w' => e = .returned (.int .i64 sl) ∧ W = w') := Lib.hid (fun W D h => by rw [hsl]; exact ST.out W D l h)
  clear ht sx sy hlx hly hd hv lx ly p1 p2 p3 okx oky PL hr hx hy hsd hsl ST LX LY hfirst hboth hpd hpl
  clear m1 m2 m3 m4 m5
  unfold stgV
  go_enter Tryd.func9, Tryd.ntmps9
  obtain ⟨c0, c1, c2, c3, c4, c5⟩ := X0.out
  obtain ⟨d0, d1, d2, d3, d4, d5⟩ := Y0.out
  dsimp only at c0 c1 c2 c3 c4 c5
  simp only [World.size_alloc] at d0 d1 d2 d3 d4 d5
  go_wp2_with fail
  refine (CX.out _).mono ?_
  rintro e w1 ⟨rfl, b1⟩
  have S1 := Lib.hid (S0.out.keep b1)
  clear c0 c1 c2 c3 c4 c5 d0 d1 d2 d3 d4 d5
  have X1 := Lib.hid (X0.out.below b1)
  have Y1 := Lib.hid (Y0.out.below b1)
  obtain ⟨c0, c1, c2, c3, c4, c5⟩ := X1.out
  obtain ⟨d0, d1, d2, d3, d4, d5⟩ := Y1.out
  dsimp only at c0 c1 c2 c3 c4 c5
  simp only [World.size_alloc] at d0 d1 d2 d3 d4 d5
  clear b1 S0 X0 Y0
  go_wp2_with fail
  refine (CY.out _).mono ?_
  rintro e w2 ⟨rfl, b2⟩
  have S2 := Lib.hid (S1.out.keep b2)
  clear c0 c1 c2 c3 c4 c5 d0 d1 d2 d3 d4 d5
  have X2 := Lib.hid (X1.out.below b2)
  have Y2 := Lib.hid (Y1.out.below b2)
  obtain ⟨c0, c1, c2, c3, c4, c5⟩ := X2.out
  obtain ⟨d0, d1, d2, d3, d4, d5⟩ := Y2.out
  dsimp only at c0 c1 c2 c3 c4 c5
  simp only [World.size_alloc] at d0 d1 d2 d3 d4 d5
  clear b2 S1 X1 Y1
  go_wp2_with fail
  refine (RM.out _ S2.out.tabs).mono ?_
  rintro e w3 ⟨D, K, rfl, ss⟩
  have SS3 := Lib.hid ss
  have S3 := Lib.hid (S2.out.keep ss.st.bel)
  have X3 := Lib.hid (X2.out.below ss.st.bel)
  have Y3 := Lib.hid (Y2.out.below ss.st.bel)
  clear c0 c1 c2 c3 c4 c5 d0 d1 d2 d3 d4 d5
  clear ss S2 X2 Y2
  obtain ⟨c0, c1, c2, c3, c4, c5⟩ := X3.out
  obtain ⟨d0, d1, d2, d3, d4, d5⟩ := Y3.out
  dsimp only at c0 c1 c2 c3 c4 c5
  simp only [World.size_alloc] at d0 d1 d2 d3 d4 d5
  have HSD : Hid (∀ W, ((W).cell? ⟨w.heap.size, 0, none⟩ = some (.bool xd) ∧ (W).cell? ⟨w.heap.size, 1, none⟩ = some (.string xn) ∧ (W).cell? ⟨w.heap.size, 2, none⟩ = some (.int .i64 (gx : Int)) ∧ (W).cell? ⟨w.heap.size, 3, none⟩ = some (.string xw) ∧ (W).cell? ⟨w.heap.size, 4, none⟩ = some (.string xc) ∧ (W).cell? ⟨w.heap.size, 5, none⟩ = some (.int .u64 (cx : Int)) ∧ (W).cell? ⟨w.heap.size + 1, 0, none⟩ = some (.bool yd) ∧ (W).cell? ⟨w.heap.size + 1, 1, none⟩ = some (.string yn) ∧ (W).cell? ⟨w.heap.size + 1, 2, none⟩ = some (.int .i64 (gy : Int)) ∧ (W).cell? ⟨w.heap.size + 1, 3, none⟩ = some (.string yw) ∧ (W).cell? ⟨w.heap.size + 1, 4, none⟩ = some (.string yc) ∧ (W).cell? ⟨w.heap.size + 1, 5, none⟩ = some (.int .u64 (cy : Int)) ∧ St w3 (W)) → ∀ n, (W.drewN n).cell? ⟨w.heap.size, 0, none⟩ = some (.bool xd) ∧ (W.drewN n).cell? ⟨w.heap.size, 1, none⟩ = some (.string xn) ∧ (W.drewN n).cell? ⟨w.heap.size, 2, none⟩ = some (.int .i64 (gx : Int)) ∧ (W.drewN n).cell? ⟨w.heap.size, 3, none⟩ = some (.string xw) ∧ (W.drewN n).cell? ⟨w.heap.size, 4, none⟩ = some (.string xc) ∧ (W.drewN n).cell? ⟨w.heap.size, 5, none⟩ = some (.int .u64 (cx : Int)) ∧ (W.drewN n).cell? ⟨w.heap.size + 1, 0, none⟩ = some (.bool yd) ∧ (W.drewN n).cell? ⟨w.heap.size + 1, 1, none⟩ = some (.string yn) ∧ (W.drewN n).cell? ⟨w.heap.size + 1, 2, none⟩ = some (.int .i64 (gy : Int)) ∧ (W.drewN n).cell? ⟨w.heap.size + 1, 3, none⟩ = some (.string yw) ∧ (W.drewN n).cell? ⟨w.heap.size + 1, 4, none⟩ = some (.string yc) ∧ (W.drewN n).cell? ⟨w.heap.size + 1, 5, none⟩ = some (.int .u64 (cy : Int)) ∧ St w3 (W.drewN n)) :=
    Lib.hid (fun W ⟨s1, s2, s3, s4, s5, s6, s7, s8, s9, s10, s11, s12, s13⟩ n => ⟨s1, s2, s3, s4, s5, s6, s7, s8, s9, s10, s11, s12, s13.drewN n⟩)
  have HS0 : Hid ((w3).cell? ⟨w.heap.size, 0, none⟩ = some (.bool xd) ∧ (w3).cell? ⟨w.heap.size, 1, none⟩ = some (.string xn) ∧ (w3).cell? ⟨w.heap.size, 2, none⟩ = some (.int .i64 (gx : Int)) ∧ (w3).cell? ⟨w.heap.size, 3, none⟩ = some (.string xw) ∧ (w3).cell? ⟨w.heap.size, 4, none⟩ = some (.string xc) ∧ (w3).cell? ⟨w.heap.size, 5, none⟩ = some (.int .u64 (cx : Int)) ∧ (w3).cell? ⟨w.heap.size + 1, 0, none⟩ = some (.bool yd) ∧ (w3).cell? ⟨w.heap.size + 1, 1, none⟩ = some (.string yn) ∧ (w3).cell? ⟨w.heap.size + 1, 2, none⟩ = some (.int .i64 (gy : Int)) ∧ (w3).cell? ⟨w.heap.size + 1, 3, none⟩ = some (.string yw) ∧ (w3).cell? ⟨w.heap.size + 1, 4, none⟩ = some (.string yc) ∧ (w3).cell? ⟨w.heap.size + 1, 5, none⟩ = some (.int .u64 (cy : Int)) ∧ St w3 (w3)) := Lib.hid ⟨c0, c1, c2, c3, c4, c5, d0, d1, d2, d3, d4, d5, St.refl S3.out.tabs⟩
  go_wp2
  have BD : Hid (∀ W, St w3 W → Blk W D 46 (sdC d)) := Lib.hid (fun W h => (SS3.out.below h.bel).get 0 rfl)
  have BK : Hid (∀ W, St w3 W → Blk W K 46 (sdC l)) := Lib.hid (fun W h => (SS3.out.below h.bel).get 1 rfl)
  go_region_held3 (fun w' => (w').cell? ⟨w.heap.size, 0, none⟩ = some (.bool xd) ∧ (w').cell? ⟨w.heap.size, 1, none⟩ = some (.string xn) ∧ (w').cell? ⟨w.heap.size, 2, none⟩ = some (.int .i64 (gx : Int)) ∧ (w').cell? ⟨w.heap.size, 3, none⟩ = some (.string xw) ∧ (w').cell? ⟨w.heap.size, 4, none⟩ = some (.string xc) ∧ (w').cell? ⟨w.heap.size, 5, none⟩ = some (.int .u64 (cx : Int)) ∧ (w').cell? ⟨w.heap.size + 1, 0, none⟩ = some (.bool yd) ∧ (w').cell? ⟨w.heap.size + 1, 1, none⟩ = some (.string yn) ∧ (w').cell? ⟨w.heap.size + 1, 2, none⟩ = some (.int .i64 (gy : Int)) ∧ (w').cell? ⟨w.heap.size + 1, 3, none⟩ = some (.string yw) ∧ (w').cell? ⟨w.heap.size + 1, 4, none⟩ = some (.string yc) ∧ (w').cell? ⟨w.heap.size + 1, 5, none⟩ = some (.int .u64 (cy : Int)) ∧ St w3 (w'))
    (first | exact HSD.out _ HS0.out 1 | (obtain ⟨s1, s2, s3, s4, s5, s6, s7, s8, s9, s10, s11, s12, s13⟩ := (‹_ ∧ _ ∧ _ ∧ _ ∧ _ ∧ _ ∧ _ ∧ _ ∧ _ ∧ _ ∧ _ ∧ _ ∧ St _ _›); exact ⟨cell_keep (by assumption) s1, cell_keep (by assumption) s2, cell_keep (by assumption) s3, cell_keep (by assumption) s4, cell_keep (by assumption) s5, cell_keep (by assumption) s6, cell_keep (by assumption) s7, cell_keep (by assumption) s8, cell_keep (by assumption) s9, cell_keep (by assumption) s10, cell_keep (by assumption) s11, cell_keep (by assumption) s12, s13.keep (by assumption)⟩))
    (first
      | (go_at_call 31; refine (CD.out _ _ (by first | exact HLX.out | exact HLY.out) ((‹_ ∧ _ ∧ _ ∧ _ ∧ _ ∧ _ ∧ _ ∧ _ ∧ _ ∧ _ ∧ _ ∧ _ ∧ St _ _›).2.2.2.2.2.2.2.2.2.2.2.2.tabs)).mono ?_; rintro e w5 ⟨rfl, b5⟩))
  have HSZ7 := Lib.hid (‹_ ∧ _ ∧ _ ∧ _ ∧ _ ∧ _ ∧ _ ∧ _ ∧ _ ∧ _ ∧ _ ∧ _ ∧ St _ _›)
  clear c0 c1 c2 c3 c4 c5 d0 d1 d2 d3 d4 d5
  all_goals
    obtain ⟨c0, c1, c2, c3, c4, c5, d0, d1, d2, d3, d4, d5, -⟩ := HSZ7.out
    go_wp2
    go_region_held3 (fun w' => (w').cell? ⟨w.heap.size, 0, none⟩ = some (.bool xd) ∧ (w').cell? ⟨w.heap.size, 1, none⟩ = some (.string xn) ∧ (w').cell? ⟨w.heap.size, 2, none⟩ = some (.int .i64 (gx : Int)) ∧ (w').cell? ⟨w.heap.size, 3, none⟩ = some (.string xw) ∧ (w').cell? ⟨w.heap.size, 4, none⟩ = some (.string xc) ∧ (w').cell? ⟨w.heap.size, 5, none⟩ = some (.int .u64 (cx : Int)) ∧ (w').cell? ⟨w.heap.size + 1, 0, none⟩ = some (.bool yd) ∧ (w').cell? ⟨w.heap.size + 1, 1, none⟩ = some (.string yn) ∧ (w').cell? ⟨w.heap.size + 1, 2, none⟩ = some (.int .i64 (gy : Int)) ∧ (w').cell? ⟨w.heap.size + 1, 3, none⟩ = some (.string yw) ∧ (w').cell? ⟨w.heap.size + 1, 4, none⟩ = some (.string yc) ∧ (w').cell? ⟨w.heap.size + 1, 5, none⟩ = some (.int .u64 (cy : Int)) ∧ St w3 (w'))
      (first | exact HSD.out _ HSZ7.out 1 | (obtain ⟨s1, s2, s3, s4, s5, s6, s7, s8, s9, s10, s11, s12, s13⟩ := (‹_ ∧ _ ∧ _ ∧ _ ∧ _ ∧ _ ∧ _ ∧ _ ∧ _ ∧ _ ∧ _ ∧ _ ∧ St _ _›); exact ⟨cell_keep (by assumption) s1, cell_keep (by assumption) s2, cell_keep (by assumption) s3, cell_keep (by assumption) s4, cell_keep (by assumption) s5, cell_keep (by assumption) s6, cell_keep (by assumption) s7, cell_keep (by assumption) s8, cell_keep (by assumption) s9, cell_keep (by assumption) s10, cell_keep (by assumption) s11, cell_keep (by assumption) s12, s13.keep (by assumption)⟩))
      (first
        | (go_at_call 31; refine (CL.out _ _ (by first | exact HLX.out | exact HLY.out) ((‹_ ∧ _ ∧ _ ∧ _ ∧ _ ∧ _ ∧ _ ∧ _ ∧ _ ∧ _ ∧ _ ∧ _ ∧ St _ _›).2.2.2.2.2.2.2.2.2.2.2.2.tabs)).mono ?_; rintro e w5 ⟨rfl, b5⟩))
    have HSZ8 := Lib.hid (‹_ ∧ _ ∧ _ ∧ _ ∧ _ ∧ _ ∧ _ ∧ _ ∧ _ ∧ _ ∧ _ ∧ _ ∧ St _ _›)
    all_goals
      clear c0 c1 c2 c3 c4 c5 d0 d1 d2 d3 d4 d5
      obtain ⟨c0, c1, c2, c3, c4, c5, d0, d1, d2, d3, d4, d5, -⟩ := HSZ8.out
      go_wp2_with fail
      refine (STd.out _ D (BD.out _ (HSZ8.out.2.2.2.2.2.2.2.2.2.2.2.2))).mono ?_
      rintro e w' ⟨rfl, rfl⟩
      go_wp2_with fail
      refine (STl.out _ K (BK.out _ (HSZ8.out.2.2.2.2.2.2.2.2.2.2.2.2))).mono ?_
      rintro e w' ⟨rfl, rfl⟩
      go_wp2
      go_region_held3 (fun w' => (w').cell? ⟨w.heap.size, 0, none⟩ = some (.bool xd) ∧ (w').cell? ⟨w.heap.size, 1, none⟩ = some (.string xn) ∧ (w').cell? ⟨w.heap.size, 2, none⟩ = some (.int .i64 (gx : Int)) ∧ (w').cell? ⟨w.heap.size, 3, none⟩ = some (.string xw) ∧ (w').cell? ⟨w.heap.size, 4, none⟩ = some (.string xc) ∧ (w').cell? ⟨w.heap.size, 5, none⟩ = some (.int .u64 (cx : Int)) ∧ (w').cell? ⟨w.heap.size + 1, 0, none⟩ = some (.bool yd) ∧ (w').cell? ⟨w.heap.size + 1, 1, none⟩ = some (.string yn) ∧ (w').cell? ⟨w.heap.size + 1, 2, none⟩ = some (.int .i64 (gy : Int)) ∧ (w').cell? ⟨w.heap.size + 1, 3, none⟩ = some (.string yw) ∧ (w').cell? ⟨w.heap.size + 1, 4, none⟩ = some (.string yc) ∧ (w').cell? ⟨w.heap.size + 1, 5, none⟩ = some (.int .u64 (cy : Int)) ∧ St w3 (w'))
        (first | exact HSD.out _ HSZ8.out 1 | (obtain ⟨s1, s2, s3, s4, s5, s6, s7, s8, s9, s10, s11, s12, s13⟩ := (‹_ ∧ _ ∧ _ ∧ _ ∧ _ ∧ _ ∧ _ ∧ _ ∧ _ ∧ _ ∧ _ ∧ _ ∧ St _ _›); exact ⟨cell_keep (by assumption) s1, cell_keep (by assumption) s2, cell_keep (by assumption) s3, cell_keep (by assumption) s4, cell_keep (by assumption) s5, cell_keep (by assumption) s6, cell_keep (by assumption) s7, cell_keep (by assumption) s8, cell_keep (by assumption) s9, cell_keep (by assumption) s10, cell_keep (by assumption) s11, cell_keep (by assumption) s12, s13.keep (by assumption)⟩))
        (first
          | (go_at_call 11; refine (AW.out _ ((‹_ ∧ _ ∧ _ ∧ _ ∧ _ ∧ _ ∧ _ ∧ _ ∧ _ ∧ _ ∧ _ ∧ _ ∧ St _ _›).2.2.2.2.2.2.2.2.2.2.2.2.tabs)).mono ?_; rintro e w7 ⟨rfl, b7⟩)
          | (go_at_call_of 17 (Value.pointer (some ⟨D, 0, none⟩)); refine (PD.out D _ ((SS3.out.below ((‹_ ∧ _ ∧ _ ∧ _ ∧ _ ∧ _ ∧ _ ∧ _ ∧ _ ∧ _ ∧ _ ∧ _ ∧ St _ _›).2.2.2.2.2.2.2.2.2.2.2.2.bel)).get 0 rfl)).mono ?_; rintro e w6 ⟨rfl, b6⟩)
          | (go_at_call_of 17 (Value.pointer (some ⟨K, 0, none⟩)); refine (PK.out K _ ((SS3.out.below ((‹_ ∧ _ ∧ _ ∧ _ ∧ _ ∧ _ ∧ _ ∧ _ ∧ _ ∧ _ ∧ _ ∧ _ ∧ St _ _›).2.2.2.2.2.2.2.2.2.2.2.2.bel)).get 1 rfl)).mono ?_; rintro e w6 ⟨rfl, b6⟩))
      all_goals
        have stz := (‹_ ∧ _ ∧ _ ∧ _ ∧ _ ∧ _ ∧ _ ∧ _ ∧ _ ∧ _ ∧ _ ∧ _ ∧ St _ _›).2.2.2.2.2.2.2.2.2.2.2.2
        go_wp2
        go_ret
        exact ⟨rfl, (S3.out.keep stz.bel).bel⟩
set_option maxRecDepth 100000 in
set_option maxHeartbeats 4000000 in
theorem both_m3 (xd yd : Bool) (xn xw xc yn yw yc : ByteArray) (gx gy cx cy : Nat) (how : Int) (w : World) (ht : Tabs w) (sx : StgSz (⟨xd, xn, gx, xw, xc, cx⟩ : Stg)) (sy : StgSz (⟨yd, yn, gy, yw, yc, cy⟩ : Stg)) (hlx : longB (⟨xd, xn, gx, xw, xc, cx⟩ : Stg) = false) (hly : longB (⟨yd, yn, gy, yw, yc, cy⟩ : Stg) = false)
    (hx : cx ≤ 18446744073709551615) (hy : cy ≤ 18446744073709551615) (hd : dialB xn gx xw = true) (hv : (nameF yn && genI gy) = true) (m1 : seqB xw yn = true) (m2 : seqB xn yn = false) (m3 : (how == 1) = true) (m4 : seqB (proofD ⟨xn, gx⟩ ⟨yn, gy⟩ xc cx cy) (proofD ⟨xn, gx⟩ ⟨yn, gy⟩ yc cx cy) = true) (m5 : seqB (proofL ⟨xn, gx⟩ ⟨yn, gy⟩ xc cx cy) (proofL ⟨xn, gx⟩ ⟨yn, gy⟩ yc cx cy) = true) (m6 : seqB xc yc = false) :
    Calls Tryd.prog 9 #[stgV (⟨xd, xn, gx, xw, xc, cx⟩ : Stg), stgV (⟨yd, yn, gy, yw, yc, cy⟩ : Stg), .int .i64 how] w fun e w' => e = .returned (.bool true) ∧ Below w.heap.size w w' := by
  obtain rfl : how = 1 := by simpa using m3
  have X0 := Lib.hid (Bx.of (x := (⟨xd, xn, gx, xw, xc, cx⟩ : Stg)) ((Blk.new w 26 #[.bool xd, .string xn, .int .i64 gx, .string xw, .string xc, .int .u64 (cx : Int)]).alloc (.cells #[.bool yd, .string yn, .int .i64 gy, .string yw, .string yc, .int .u64 (cy : Int)] 26)))
  have Y0 := Lib.hid (Bx.of (x := (⟨yd, yn, gy, yw, yc, cy⟩ : Stg)) (Blk.new (w.alloc (.cells #[.bool xd, .string xn, .int .i64 gx, .string xw, .string xc, .int .u64 (cx : Int)] 26)) 26 #[.bool yd, .string yn, .int .i64 gy, .string yw, .string yc, .int .u64 (cy : Int)]))
  have S0 := Lib.hid (((St.refl ht).alloc (.cells #[.bool xd, .string xn, .int .i64 gx, .string xw, .string xc, .int .u64 (cx : Int)] 26)).alloc (.cells #[.bool yd, .string yn, .int .i64 gy, .string yw, .string yc, .int .u64 (cy : Int)] 26))
  have CX : Hid (∀ W, Calls Tryd.prog 10 #[.agg #[.bool xd, .string xn, .int .i64 gx, .string xw, .string xc, .int .u64 (cx : Int)], .slice none 0 0] W fun e w' => e = .returned (.bool false) ∧ Below W.heap.size W w') := by
    refine Lib.hid fun W => ?_
    have := longN_any (⟨xd, xn, gx, xw, xc, cx⟩ : Stg) sx.n sx.w sx.c W
    rw [hlx] at this
    exact this
  have CY : Hid (∀ W, Calls Tryd.prog 10 #[.agg #[.bool yd, .string yn, .int .i64 gy, .string yw, .string yc, .int .u64 (cy : Int)], .slice none 0 0] W fun e w' => e = .returned (.bool false) ∧ Below W.heap.size W w') := by
    refine Lib.hid fun W => ?_
    have := longN_any (⟨yd, yn, gy, yw, yc, cy⟩ : Stg) sy.n sy.w sy.c W
    rw [hly] at this
    exact this
  have AW := Lib.hid (fun W (t : Tabs W) => awakeS_any W t)
  have lx : xw.size + xc.size + xn.size ≤ 6000 := by
    have := of_decide_eq_false hlx
    dsimp only at this
    omega
  have ly : yw.size + yc.size + yn.size ≤ 6000 := by
    have := of_decide_eq_false hly
    dsimp only at this
    omega
  obtain ⟨p1, p2, p3⟩ := dialB_parts hd
  have okx := prOk_of p1
  have oky := prOk_of hv
  have PL := run_plain ⟨xn, gx⟩ ⟨yn, gy⟩ okx oky xw xc yc cx cy hx hy p2 1
  have RM := Lib.hid (fun W (t : Tabs W) => runP_made xd yd xn xw xc yn yw yc gx gy cx cy 1 W t mId_size ⟨by omega, by omega, by omega⟩ (by omega) hx hy hd hv)
  unfold stgV at RM
  obtain ⟨⟨d, l, said⟩, hr⟩ : ∃ r, r = runF (dialS ⟨xn, gx⟩ xw xc cx) (listenS ⟨yn, gy⟩ yc cy) (helloF ⟨xn, gx⟩ xw) 1 mId := ⟨_, rfl⟩
  rw [← hr] at PL RM
  simp only at PL RM
  obtain ⟨pd, hpd⟩ : ∃ f : ByteArray → ByteArray, f = fun c => proofD ⟨xn, gx⟩ ⟨yn, gy⟩ c cx cy := ⟨_, rfl⟩
  have CD : Hid (∀ W c, c.size ≤ 6000 → Tabs W → Calls Tryd.prog 31 #[.bool true, .agg #[.bool xd, .string xn, .int .i64 (gx : Int), .string xw, .string xc, .int .u64 (cx : Int)], .agg #[.bool yd, .string yn, .int .i64 (gy : Int), .string yw, .string yc, .int .u64 (cy : Int)], .string c] W fun e w' => e = .returned (.string (pd c)) ∧ Below W.heap.size W w') :=
    Lib.hid (fun W c hc t => by rw [hpd]; exact proved_D xd yd xn xw xc yn yw yc gx gy cx cy (nameF_size _ okx.1).2 (nameF_size _ oky.1).2 okx.2.2 oky.2.2 hx hy c hc W t)
  obtain ⟨pl, hpl⟩ : ∃ f : ByteArray → ByteArray, f = fun c => proofL ⟨xn, gx⟩ ⟨yn, gy⟩ c cx cy := ⟨_, rfl⟩
  have CL : Hid (∀ W c, c.size ≤ 6000 → Tabs W → Calls Tryd.prog 31 #[.bool false, .agg #[.bool xd, .string xn, .int .i64 (gx : Int), .string xw, .string xc, .int .u64 (cx : Int)], .agg #[.bool yd, .string yn, .int .i64 (gy : Int), .string yw, .string yc, .int .u64 (cy : Int)], .string c] W fun e w' => e = .returned (.string (pl c)) ∧ Below W.heap.size W w') :=
    Lib.hid (fun W c hc t => by rw [hpl]; exact proved_L xd yd xn xw xc yn yw yc gx gy cx cy (nameF_size _ okx.1).2 (nameF_size _ oky.1).2 okx.2.2 oky.2.2 hx hy c hc W t)
  have f1 : (xw.toList == yn.toList) = true := m1
  have f2 : (xn.toList != yn.toList) = true := by unfold seqB at m2; simp only [bne, m2]; rfl
  have f2b : (xn.toList == yn.toList) = false := m2
  have hfirst : firstB ⟨xn, gx⟩ ⟨yn, gy⟩ xw xc yc cx cy 1 = true := by unfold firstB metB; rw [m4, m1, m2, m3]; rfl
  have f4 : ((pd xc).toList == (pd yc).toList) = true := by rw [hpd]; exact m4
  have hboth : bothB ⟨xn, gx⟩ ⟨yn, gy⟩ xw xc yc cx cy 1 = true := by unfold bothB; rw [m5, hfirst]; rfl
  have f6 : ((pl xc).toList == (pl yc).toList) = true := by rw [hpl]; exact m5
  have f5 : (xc.toList == yc.toList) = false := m6
  have LX : xc.size ≤ 6000 := by omega
  have LY : yc.size ≤ 6000 := by omega
  have HLX := Lib.hid LX
  have HLY := Lib.hid LY
  have b1 : (yn.toList == yn.toList) = true := by simp
  have b2 : (xn.toList == xn.toList) = true := by simp
  have b3 : ((gx : Int) == gx) = true := by simp
  have b4 : ((gy : Int) == gy) = true := by simp
  have PD : Hid (∀ D W, Blk W D 46 (sdC d) → Calls Tryd.prog 17 #[.pointer (some ⟨D, 0, none⟩)] W fun e w' => e = .returned (.agg #[.string yn, .int .i64 (gy : Int)]) ∧ Below W.heap.size W w') :=
    Lib.hid (fun D W h => by have := peerP_any d D W h; rw [(PL.2.2 hfirst).1] at this; exact this)
  have PK : Hid (∀ D W, Blk W D 46 (sdC l) → Calls Tryd.prog 17 #[.pointer (some ⟨D, 0, none⟩)] W fun e w' => e = .returned (.agg #[.string xn, .int .i64 (gx : Int)]) ∧ Below W.heap.size W w') :=
    Lib.hid (fun D W h => by have := peerP_any l D W h; rw [(PL.2.2 hfirst).2] at this; exact this)
  obtain ⟨sd, hsd⟩ : ∃ n : Nat, n = d.state := ⟨_, rfl⟩
  obtain ⟨sl, hsl⟩ : ∃ n : Nat, n = l.state := ⟨_, rfl⟩
  have e1 : ((sd : Int) == 3) = true := by rw [beq_iff_eq, hsd, PL.1.2 hboth]; rfl
  have e2 : ((sl : Int) == 3) = true := by rw [beq_iff_eq, hsl, PL.2.1.2 hfirst]; rfl
  have ST : Hid (∀ W D s, Blk W D 46 (sdC s) → Calls Tryd.prog 16 #[.pointer (some ⟨D, 0, none⟩)] W fun e w' => e = .returned (.int .i64 s.state) ∧ W = w') := Lib.hid (fun W D s h => state_any s D W h)
  have STd : Hid (∀ W D, Blk W D 46 (sdC d) → Calls Tryd.prog 16 #[.pointer (some ⟨D, 0, none⟩)] W fun e w' => e = .returned (.int .i64 sd) ∧ W = w') := Lib.hid (fun W D h => by rw [hsd]; exact ST.out W D d h)
  have STl : Hid (∀ W D, Blk W D 46 (sdC l) → Calls Tryd.prog 16 #[.pointer (some ⟨D, 0, none⟩)] W fun e w' => e = .returned (.int .i64 sl) ∧ W = w') := Lib.hid (fun W D h => by rw [hsl]; exact ST.out W D l h)
  clear ht sx sy hlx hly hd hv lx ly p1 p2 p3 okx oky PL hr hx hy hsd hsl ST LX LY hfirst hboth hpd hpl
  clear m1 m2 m3 m4 m5 m6
  unfold stgV
  go_enter Tryd.func9, Tryd.ntmps9
  obtain ⟨c0, c1, c2, c3, c4, c5⟩ := X0.out
  obtain ⟨d0, d1, d2, d3, d4, d5⟩ := Y0.out
  dsimp only at c0 c1 c2 c3 c4 c5
  simp only [World.size_alloc] at d0 d1 d2 d3 d4 d5
  go_wp2_with fail
  refine (CX.out _).mono ?_
  rintro e w1 ⟨rfl, b1⟩
  have S1 := Lib.hid (S0.out.keep b1)
  clear c0 c1 c2 c3 c4 c5 d0 d1 d2 d3 d4 d5
  have X1 := Lib.hid (X0.out.below b1)
  have Y1 := Lib.hid (Y0.out.below b1)
  obtain ⟨c0, c1, c2, c3, c4, c5⟩ := X1.out
  obtain ⟨d0, d1, d2, d3, d4, d5⟩ := Y1.out
  dsimp only at c0 c1 c2 c3 c4 c5
  simp only [World.size_alloc] at d0 d1 d2 d3 d4 d5
  clear b1 S0 X0 Y0
  go_wp2_with fail
  refine (CY.out _).mono ?_
  rintro e w2 ⟨rfl, b2⟩
  have S2 := Lib.hid (S1.out.keep b2)
  clear c0 c1 c2 c3 c4 c5 d0 d1 d2 d3 d4 d5
  have X2 := Lib.hid (X1.out.below b2)
  have Y2 := Lib.hid (Y1.out.below b2)
  obtain ⟨c0, c1, c2, c3, c4, c5⟩ := X2.out
  obtain ⟨d0, d1, d2, d3, d4, d5⟩ := Y2.out
  dsimp only at c0 c1 c2 c3 c4 c5
  simp only [World.size_alloc] at d0 d1 d2 d3 d4 d5
  clear b2 S1 X1 Y1
  go_wp2_with fail
  refine (RM.out _ S2.out.tabs).mono ?_
  rintro e w3 ⟨D, K, rfl, ss⟩
  have SS3 := Lib.hid ss
  have S3 := Lib.hid (S2.out.keep ss.st.bel)
  have X3 := Lib.hid (X2.out.below ss.st.bel)
  have Y3 := Lib.hid (Y2.out.below ss.st.bel)
  clear c0 c1 c2 c3 c4 c5 d0 d1 d2 d3 d4 d5
  clear ss S2 X2 Y2
  obtain ⟨c0, c1, c2, c3, c4, c5⟩ := X3.out
  obtain ⟨d0, d1, d2, d3, d4, d5⟩ := Y3.out
  dsimp only at c0 c1 c2 c3 c4 c5
  simp only [World.size_alloc] at d0 d1 d2 d3 d4 d5
  have HSD : Hid (∀ W, ((W).cell? ⟨w.heap.size, 0, none⟩ = some (.bool xd) ∧ (W).cell? ⟨w.heap.size, 1, none⟩ = some (.string xn) ∧ (W).cell? ⟨w.heap.size, 2, none⟩ = some (.int .i64 (gx : Int)) ∧ (W).cell? ⟨w.heap.size, 3, none⟩ = some (.string xw) ∧ (W).cell? ⟨w.heap.size, 4, none⟩ = some (.string xc) ∧ (W).cell? ⟨w.heap.size, 5, none⟩ = some (.int .u64 (cx : Int)) ∧ (W).cell? ⟨w.heap.size + 1, 0, none⟩ = some (.bool yd) ∧ (W).cell? ⟨w.heap.size + 1, 1, none⟩ = some (.string yn) ∧ (W).cell? ⟨w.heap.size + 1, 2, none⟩ = some (.int .i64 (gy : Int)) ∧ (W).cell? ⟨w.heap.size + 1, 3, none⟩ = some (.string yw) ∧ (W).cell? ⟨w.heap.size + 1, 4, none⟩ = some (.string yc) ∧ (W).cell? ⟨w.heap.size + 1, 5, none⟩ = some (.int .u64 (cy : Int)) ∧ St w3 (W)) → ∀ n, (W.drewN n).cell? ⟨w.heap.size, 0, none⟩ = some (.bool xd) ∧ (W.drewN n).cell? ⟨w.heap.size, 1, none⟩ = some (.string xn) ∧ (W.drewN n).cell? ⟨w.heap.size, 2, none⟩ = some (.int .i64 (gx : Int)) ∧ (W.drewN n).cell? ⟨w.heap.size, 3, none⟩ = some (.string xw) ∧ (W.drewN n).cell? ⟨w.heap.size, 4, none⟩ = some (.string xc) ∧ (W.drewN n).cell? ⟨w.heap.size, 5, none⟩ = some (.int .u64 (cx : Int)) ∧ (W.drewN n).cell? ⟨w.heap.size + 1, 0, none⟩ = some (.bool yd) ∧ (W.drewN n).cell? ⟨w.heap.size + 1, 1, none⟩ = some (.string yn) ∧ (W.drewN n).cell? ⟨w.heap.size + 1, 2, none⟩ = some (.int .i64 (gy : Int)) ∧ (W.drewN n).cell? ⟨w.heap.size + 1, 3, none⟩ = some (.string yw) ∧ (W.drewN n).cell? ⟨w.heap.size + 1, 4, none⟩ = some (.string yc) ∧ (W.drewN n).cell? ⟨w.heap.size + 1, 5, none⟩ = some (.int .u64 (cy : Int)) ∧ St w3 (W.drewN n)) :=
    Lib.hid (fun W ⟨s1, s2, s3, s4, s5, s6, s7, s8, s9, s10, s11, s12, s13⟩ n => ⟨s1, s2, s3, s4, s5, s6, s7, s8, s9, s10, s11, s12, s13.drewN n⟩)
  have HS0 : Hid ((w3).cell? ⟨w.heap.size, 0, none⟩ = some (.bool xd) ∧ (w3).cell? ⟨w.heap.size, 1, none⟩ = some (.string xn) ∧ (w3).cell? ⟨w.heap.size, 2, none⟩ = some (.int .i64 (gx : Int)) ∧ (w3).cell? ⟨w.heap.size, 3, none⟩ = some (.string xw) ∧ (w3).cell? ⟨w.heap.size, 4, none⟩ = some (.string xc) ∧ (w3).cell? ⟨w.heap.size, 5, none⟩ = some (.int .u64 (cx : Int)) ∧ (w3).cell? ⟨w.heap.size + 1, 0, none⟩ = some (.bool yd) ∧ (w3).cell? ⟨w.heap.size + 1, 1, none⟩ = some (.string yn) ∧ (w3).cell? ⟨w.heap.size + 1, 2, none⟩ = some (.int .i64 (gy : Int)) ∧ (w3).cell? ⟨w.heap.size + 1, 3, none⟩ = some (.string yw) ∧ (w3).cell? ⟨w.heap.size + 1, 4, none⟩ = some (.string yc) ∧ (w3).cell? ⟨w.heap.size + 1, 5, none⟩ = some (.int .u64 (cy : Int)) ∧ St w3 (w3)) := Lib.hid ⟨c0, c1, c2, c3, c4, c5, d0, d1, d2, d3, d4, d5, St.refl S3.out.tabs⟩
  go_wp2
  have BD : Hid (∀ W, St w3 W → Blk W D 46 (sdC d)) := Lib.hid (fun W h => (SS3.out.below h.bel).get 0 rfl)
  have BK : Hid (∀ W, St w3 W → Blk W K 46 (sdC l)) := Lib.hid (fun W h => (SS3.out.below h.bel).get 1 rfl)
  go_region_held3 (fun w' => (w').cell? ⟨w.heap.size, 0, none⟩ = some (.bool xd) ∧ (w').cell? ⟨w.heap.size, 1, none⟩ = some (.string xn) ∧ (w').cell? ⟨w.heap.size, 2, none⟩ = some (.int .i64 (gx : Int)) ∧ (w').cell? ⟨w.heap.size, 3, none⟩ = some (.string xw) ∧ (w').cell? ⟨w.heap.size, 4, none⟩ = some (.string xc) ∧ (w').cell? ⟨w.heap.size, 5, none⟩ = some (.int .u64 (cx : Int)) ∧ (w').cell? ⟨w.heap.size + 1, 0, none⟩ = some (.bool yd) ∧ (w').cell? ⟨w.heap.size + 1, 1, none⟩ = some (.string yn) ∧ (w').cell? ⟨w.heap.size + 1, 2, none⟩ = some (.int .i64 (gy : Int)) ∧ (w').cell? ⟨w.heap.size + 1, 3, none⟩ = some (.string yw) ∧ (w').cell? ⟨w.heap.size + 1, 4, none⟩ = some (.string yc) ∧ (w').cell? ⟨w.heap.size + 1, 5, none⟩ = some (.int .u64 (cy : Int)) ∧ St w3 (w'))
    (first | exact HSD.out _ HS0.out 1 | (obtain ⟨s1, s2, s3, s4, s5, s6, s7, s8, s9, s10, s11, s12, s13⟩ := (‹_ ∧ _ ∧ _ ∧ _ ∧ _ ∧ _ ∧ _ ∧ _ ∧ _ ∧ _ ∧ _ ∧ _ ∧ St _ _›); exact ⟨cell_keep (by assumption) s1, cell_keep (by assumption) s2, cell_keep (by assumption) s3, cell_keep (by assumption) s4, cell_keep (by assumption) s5, cell_keep (by assumption) s6, cell_keep (by assumption) s7, cell_keep (by assumption) s8, cell_keep (by assumption) s9, cell_keep (by assumption) s10, cell_keep (by assumption) s11, cell_keep (by assumption) s12, s13.keep (by assumption)⟩))
    (first
      | (go_at_call 31; refine (CD.out _ _ (by first | exact HLX.out | exact HLY.out) ((‹_ ∧ _ ∧ _ ∧ _ ∧ _ ∧ _ ∧ _ ∧ _ ∧ _ ∧ _ ∧ _ ∧ _ ∧ St _ _›).2.2.2.2.2.2.2.2.2.2.2.2.tabs)).mono ?_; rintro e w5 ⟨rfl, b5⟩))
  have HSZ7 := Lib.hid (‹_ ∧ _ ∧ _ ∧ _ ∧ _ ∧ _ ∧ _ ∧ _ ∧ _ ∧ _ ∧ _ ∧ _ ∧ St _ _›)
  clear c0 c1 c2 c3 c4 c5 d0 d1 d2 d3 d4 d5
  all_goals
    obtain ⟨c0, c1, c2, c3, c4, c5, d0, d1, d2, d3, d4, d5, -⟩ := HSZ7.out
    go_wp2
    go_region_held3 (fun w' => (w').cell? ⟨w.heap.size, 0, none⟩ = some (.bool xd) ∧ (w').cell? ⟨w.heap.size, 1, none⟩ = some (.string xn) ∧ (w').cell? ⟨w.heap.size, 2, none⟩ = some (.int .i64 (gx : Int)) ∧ (w').cell? ⟨w.heap.size, 3, none⟩ = some (.string xw) ∧ (w').cell? ⟨w.heap.size, 4, none⟩ = some (.string xc) ∧ (w').cell? ⟨w.heap.size, 5, none⟩ = some (.int .u64 (cx : Int)) ∧ (w').cell? ⟨w.heap.size + 1, 0, none⟩ = some (.bool yd) ∧ (w').cell? ⟨w.heap.size + 1, 1, none⟩ = some (.string yn) ∧ (w').cell? ⟨w.heap.size + 1, 2, none⟩ = some (.int .i64 (gy : Int)) ∧ (w').cell? ⟨w.heap.size + 1, 3, none⟩ = some (.string yw) ∧ (w').cell? ⟨w.heap.size + 1, 4, none⟩ = some (.string yc) ∧ (w').cell? ⟨w.heap.size + 1, 5, none⟩ = some (.int .u64 (cy : Int)) ∧ St w3 (w'))
      (first | exact HSD.out _ HSZ7.out 1 | (obtain ⟨s1, s2, s3, s4, s5, s6, s7, s8, s9, s10, s11, s12, s13⟩ := (‹_ ∧ _ ∧ _ ∧ _ ∧ _ ∧ _ ∧ _ ∧ _ ∧ _ ∧ _ ∧ _ ∧ _ ∧ St _ _›); exact ⟨cell_keep (by assumption) s1, cell_keep (by assumption) s2, cell_keep (by assumption) s3, cell_keep (by assumption) s4, cell_keep (by assumption) s5, cell_keep (by assumption) s6, cell_keep (by assumption) s7, cell_keep (by assumption) s8, cell_keep (by assumption) s9, cell_keep (by assumption) s10, cell_keep (by assumption) s11, cell_keep (by assumption) s12, s13.keep (by assumption)⟩))
      (first
        | (go_at_call 31; refine (CL.out _ _ (by first | exact HLX.out | exact HLY.out) ((‹_ ∧ _ ∧ _ ∧ _ ∧ _ ∧ _ ∧ _ ∧ _ ∧ _ ∧ _ ∧ _ ∧ _ ∧ St _ _›).2.2.2.2.2.2.2.2.2.2.2.2.tabs)).mono ?_; rintro e w5 ⟨rfl, b5⟩))
    have HSZ8 := Lib.hid (‹_ ∧ _ ∧ _ ∧ _ ∧ _ ∧ _ ∧ _ ∧ _ ∧ _ ∧ _ ∧ _ ∧ _ ∧ St _ _›)
    all_goals
      clear c0 c1 c2 c3 c4 c5 d0 d1 d2 d3 d4 d5
      obtain ⟨c0, c1, c2, c3, c4, c5, d0, d1, d2, d3, d4, d5, -⟩ := HSZ8.out
      go_wp2_with fail
      refine (STd.out _ D (BD.out _ (HSZ8.out.2.2.2.2.2.2.2.2.2.2.2.2))).mono ?_
      rintro e w' ⟨rfl, rfl⟩
      go_wp2_with fail
      refine (STl.out _ K (BK.out _ (HSZ8.out.2.2.2.2.2.2.2.2.2.2.2.2))).mono ?_
      rintro e w' ⟨rfl, rfl⟩
      go_wp2
      go_region_held3 (fun w' => (w').cell? ⟨w.heap.size, 0, none⟩ = some (.bool xd) ∧ (w').cell? ⟨w.heap.size, 1, none⟩ = some (.string xn) ∧ (w').cell? ⟨w.heap.size, 2, none⟩ = some (.int .i64 (gx : Int)) ∧ (w').cell? ⟨w.heap.size, 3, none⟩ = some (.string xw) ∧ (w').cell? ⟨w.heap.size, 4, none⟩ = some (.string xc) ∧ (w').cell? ⟨w.heap.size, 5, none⟩ = some (.int .u64 (cx : Int)) ∧ (w').cell? ⟨w.heap.size + 1, 0, none⟩ = some (.bool yd) ∧ (w').cell? ⟨w.heap.size + 1, 1, none⟩ = some (.string yn) ∧ (w').cell? ⟨w.heap.size + 1, 2, none⟩ = some (.int .i64 (gy : Int)) ∧ (w').cell? ⟨w.heap.size + 1, 3, none⟩ = some (.string yw) ∧ (w').cell? ⟨w.heap.size + 1, 4, none⟩ = some (.string yc) ∧ (w').cell? ⟨w.heap.size + 1, 5, none⟩ = some (.int .u64 (cy : Int)) ∧ St w3 (w'))
        (first | exact HSD.out _ HSZ8.out 1 | (obtain ⟨s1, s2, s3, s4, s5, s6, s7, s8, s9, s10, s11, s12, s13⟩ := (‹_ ∧ _ ∧ _ ∧ _ ∧ _ ∧ _ ∧ _ ∧ _ ∧ _ ∧ _ ∧ _ ∧ _ ∧ St _ _›); exact ⟨cell_keep (by assumption) s1, cell_keep (by assumption) s2, cell_keep (by assumption) s3, cell_keep (by assumption) s4, cell_keep (by assumption) s5, cell_keep (by assumption) s6, cell_keep (by assumption) s7, cell_keep (by assumption) s8, cell_keep (by assumption) s9, cell_keep (by assumption) s10, cell_keep (by assumption) s11, cell_keep (by assumption) s12, s13.keep (by assumption)⟩))
        (first
          | (go_at_call 11; refine (AW.out _ ((‹_ ∧ _ ∧ _ ∧ _ ∧ _ ∧ _ ∧ _ ∧ _ ∧ _ ∧ _ ∧ _ ∧ _ ∧ St _ _›).2.2.2.2.2.2.2.2.2.2.2.2.tabs)).mono ?_; rintro e w7 ⟨rfl, b7⟩)
          | (go_at_call_of 17 (Value.pointer (some ⟨D, 0, none⟩)); refine (PD.out D _ ((SS3.out.below ((‹_ ∧ _ ∧ _ ∧ _ ∧ _ ∧ _ ∧ _ ∧ _ ∧ _ ∧ _ ∧ _ ∧ _ ∧ St _ _›).2.2.2.2.2.2.2.2.2.2.2.2.bel)).get 0 rfl)).mono ?_; rintro e w6 ⟨rfl, b6⟩)
          | (go_at_call_of 17 (Value.pointer (some ⟨K, 0, none⟩)); refine (PK.out K _ ((SS3.out.below ((‹_ ∧ _ ∧ _ ∧ _ ∧ _ ∧ _ ∧ _ ∧ _ ∧ _ ∧ _ ∧ _ ∧ _ ∧ St _ _›).2.2.2.2.2.2.2.2.2.2.2.2.bel)).get 1 rfl)).mono ?_; rintro e w6 ⟨rfl, b6⟩))
      all_goals
        have stz := (‹_ ∧ _ ∧ _ ∧ _ ∧ _ ∧ _ ∧ _ ∧ _ ∧ _ ∧ _ ∧ _ ∧ _ ∧ St _ _›).2.2.2.2.2.2.2.2.2.2.2.2
        go_wp2
        go_ret
        exact ⟨rfl, (S3.out.keep stz.bel).bel⟩
set_option maxRecDepth 100000 in
set_option maxHeartbeats 4000000 in
theorem both_m4 (xd yd : Bool) (xn xw xc yn yw yc : ByteArray) (gx gy cx cy : Nat) (how : Int) (w : World) (ht : Tabs w) (sx : StgSz (⟨xd, xn, gx, xw, xc, cx⟩ : Stg)) (sy : StgSz (⟨yd, yn, gy, yw, yc, cy⟩ : Stg)) (hlx : longB (⟨xd, xn, gx, xw, xc, cx⟩ : Stg) = false) (hly : longB (⟨yd, yn, gy, yw, yc, cy⟩ : Stg) = false)
    (hx : cx ≤ 18446744073709551615) (hy : cy ≤ 18446744073709551615) (hd : dialB xn gx xw = true) (hv : (nameF yn && genI gy) = true) (m1 : seqB xw yn = true) (m2 : seqB xn yn = false) (m3 : (how == 1) = true) (m4 : seqB (proofD ⟨xn, gx⟩ ⟨yn, gy⟩ xc cx cy) (proofD ⟨xn, gx⟩ ⟨yn, gy⟩ yc cx cy) = true) (m5 : seqB (proofL ⟨xn, gx⟩ ⟨yn, gy⟩ xc cx cy) (proofL ⟨xn, gx⟩ ⟨yn, gy⟩ yc cx cy) = true) (m6 : seqB xc yc = true) :
    Calls Tryd.prog 9 #[stgV (⟨xd, xn, gx, xw, xc, cx⟩ : Stg), stgV (⟨yd, yn, gy, yw, yc, cy⟩ : Stg), .int .i64 how] w fun e w' => e = .returned (.bool true) ∧ Below w.heap.size w w' := by
  obtain rfl : how = 1 := by simpa using m3
  have X0 := Lib.hid (Bx.of (x := (⟨xd, xn, gx, xw, xc, cx⟩ : Stg)) ((Blk.new w 26 #[.bool xd, .string xn, .int .i64 gx, .string xw, .string xc, .int .u64 (cx : Int)]).alloc (.cells #[.bool yd, .string yn, .int .i64 gy, .string yw, .string yc, .int .u64 (cy : Int)] 26)))
  have Y0 := Lib.hid (Bx.of (x := (⟨yd, yn, gy, yw, yc, cy⟩ : Stg)) (Blk.new (w.alloc (.cells #[.bool xd, .string xn, .int .i64 gx, .string xw, .string xc, .int .u64 (cx : Int)] 26)) 26 #[.bool yd, .string yn, .int .i64 gy, .string yw, .string yc, .int .u64 (cy : Int)]))
  have S0 := Lib.hid (((St.refl ht).alloc (.cells #[.bool xd, .string xn, .int .i64 gx, .string xw, .string xc, .int .u64 (cx : Int)] 26)).alloc (.cells #[.bool yd, .string yn, .int .i64 gy, .string yw, .string yc, .int .u64 (cy : Int)] 26))
  have CX : Hid (∀ W, Calls Tryd.prog 10 #[.agg #[.bool xd, .string xn, .int .i64 gx, .string xw, .string xc, .int .u64 (cx : Int)], .slice none 0 0] W fun e w' => e = .returned (.bool false) ∧ Below W.heap.size W w') := by
    refine Lib.hid fun W => ?_
    have := longN_any (⟨xd, xn, gx, xw, xc, cx⟩ : Stg) sx.n sx.w sx.c W
    rw [hlx] at this
    exact this
  have CY : Hid (∀ W, Calls Tryd.prog 10 #[.agg #[.bool yd, .string yn, .int .i64 gy, .string yw, .string yc, .int .u64 (cy : Int)], .slice none 0 0] W fun e w' => e = .returned (.bool false) ∧ Below W.heap.size W w') := by
    refine Lib.hid fun W => ?_
    have := longN_any (⟨yd, yn, gy, yw, yc, cy⟩ : Stg) sy.n sy.w sy.c W
    rw [hly] at this
    exact this
  have AW := Lib.hid (fun W (t : Tabs W) => awakeS_any W t)
  have lx : xw.size + xc.size + xn.size ≤ 6000 := by
    have := of_decide_eq_false hlx
    dsimp only at this
    omega
  have ly : yw.size + yc.size + yn.size ≤ 6000 := by
    have := of_decide_eq_false hly
    dsimp only at this
    omega
  obtain ⟨p1, p2, p3⟩ := dialB_parts hd
  have okx := prOk_of p1
  have oky := prOk_of hv
  have PL := run_plain ⟨xn, gx⟩ ⟨yn, gy⟩ okx oky xw xc yc cx cy hx hy p2 1
  have RM := Lib.hid (fun W (t : Tabs W) => runP_made xd yd xn xw xc yn yw yc gx gy cx cy 1 W t mId_size ⟨by omega, by omega, by omega⟩ (by omega) hx hy hd hv)
  unfold stgV at RM
  obtain ⟨⟨d, l, said⟩, hr⟩ : ∃ r, r = runF (dialS ⟨xn, gx⟩ xw xc cx) (listenS ⟨yn, gy⟩ yc cy) (helloF ⟨xn, gx⟩ xw) 1 mId := ⟨_, rfl⟩
  rw [← hr] at PL RM
  simp only at PL RM
  obtain ⟨pd, hpd⟩ : ∃ f : ByteArray → ByteArray, f = fun c => proofD ⟨xn, gx⟩ ⟨yn, gy⟩ c cx cy := ⟨_, rfl⟩
  have CD : Hid (∀ W c, c.size ≤ 6000 → Tabs W → Calls Tryd.prog 31 #[.bool true, .agg #[.bool xd, .string xn, .int .i64 (gx : Int), .string xw, .string xc, .int .u64 (cx : Int)], .agg #[.bool yd, .string yn, .int .i64 (gy : Int), .string yw, .string yc, .int .u64 (cy : Int)], .string c] W fun e w' => e = .returned (.string (pd c)) ∧ Below W.heap.size W w') :=
    Lib.hid (fun W c hc t => by rw [hpd]; exact proved_D xd yd xn xw xc yn yw yc gx gy cx cy (nameF_size _ okx.1).2 (nameF_size _ oky.1).2 okx.2.2 oky.2.2 hx hy c hc W t)
  obtain ⟨pl, hpl⟩ : ∃ f : ByteArray → ByteArray, f = fun c => proofL ⟨xn, gx⟩ ⟨yn, gy⟩ c cx cy := ⟨_, rfl⟩
  have CL : Hid (∀ W c, c.size ≤ 6000 → Tabs W → Calls Tryd.prog 31 #[.bool false, .agg #[.bool xd, .string xn, .int .i64 (gx : Int), .string xw, .string xc, .int .u64 (cx : Int)], .agg #[.bool yd, .string yn, .int .i64 (gy : Int), .string yw, .string yc, .int .u64 (cy : Int)], .string c] W fun e w' => e = .returned (.string (pl c)) ∧ Below W.heap.size W w') :=
    Lib.hid (fun W c hc t => by rw [hpl]; exact proved_L xd yd xn xw xc yn yw yc gx gy cx cy (nameF_size _ okx.1).2 (nameF_size _ oky.1).2 okx.2.2 oky.2.2 hx hy c hc W t)
  have f1 : (xw.toList == yn.toList) = true := m1
  have f2 : (xn.toList != yn.toList) = true := by unfold seqB at m2; simp only [bne, m2]; rfl
  have f2b : (xn.toList == yn.toList) = false := m2
  have hfirst : firstB ⟨xn, gx⟩ ⟨yn, gy⟩ xw xc yc cx cy 1 = true := by unfold firstB metB; rw [m4, m1, m2, m3]; rfl
  have f4 : ((pd xc).toList == (pd yc).toList) = true := by rw [hpd]; exact m4
  have hboth : bothB ⟨xn, gx⟩ ⟨yn, gy⟩ xw xc yc cx cy 1 = true := by unfold bothB; rw [m5, hfirst]; rfl
  have f6 : ((pl xc).toList == (pl yc).toList) = true := by rw [hpl]; exact m5
  have f5 : (xc.toList == yc.toList) = true := m6
  have LX : xc.size ≤ 6000 := by omega
  have LY : yc.size ≤ 6000 := by omega
  have HLX := Lib.hid LX
  have HLY := Lib.hid LY
  have b1 : (yn.toList == yn.toList) = true := by simp
  have b2 : (xn.toList == xn.toList) = true := by simp
  have b3 : ((gx : Int) == gx) = true := by simp
  have b4 : ((gy : Int) == gy) = true := by simp
  have PD : Hid (∀ D W, Blk W D 46 (sdC d) → Calls Tryd.prog 17 #[.pointer (some ⟨D, 0, none⟩)] W fun e w' => e = .returned (.agg #[.string yn, .int .i64 (gy : Int)]) ∧ Below W.heap.size W w') :=
    Lib.hid (fun D W h => by have := peerP_any d D W h; rw [(PL.2.2 hfirst).1] at this; exact this)
  have PK : Hid (∀ D W, Blk W D 46 (sdC l) → Calls Tryd.prog 17 #[.pointer (some ⟨D, 0, none⟩)] W fun e w' => e = .returned (.agg #[.string xn, .int .i64 (gx : Int)]) ∧ Below W.heap.size W w') :=
    Lib.hid (fun D W h => by have := peerP_any l D W h; rw [(PL.2.2 hfirst).2] at this; exact this)
  obtain ⟨sd, hsd⟩ : ∃ n : Nat, n = d.state := ⟨_, rfl⟩
  obtain ⟨sl, hsl⟩ : ∃ n : Nat, n = l.state := ⟨_, rfl⟩
  have e1 : ((sd : Int) == 3) = true := by rw [beq_iff_eq, hsd, PL.1.2 hboth]; rfl
  have e2 : ((sl : Int) == 3) = true := by rw [beq_iff_eq, hsl, PL.2.1.2 hfirst]; rfl
  have ST : Hid (∀ W D s, Blk W D 46 (sdC s) → Calls Tryd.prog 16 #[.pointer (some ⟨D, 0, none⟩)] W fun e w' => e = .returned (.int .i64 s.state) ∧ W = w') := Lib.hid (fun W D s h => state_any s D W h)
  have STd : Hid (∀ W D, Blk W D 46 (sdC d) → Calls Tryd.prog 16 #[.pointer (some ⟨D, 0, none⟩)] W fun e w' => e = .returned (.int .i64 sd) ∧ W = w') := Lib.hid (fun W D h => by rw [hsd]; exact ST.out W D d h)
  have STl : Hid (∀ W D, Blk W D 46 (sdC l) → Calls Tryd.prog 16 #[.pointer (some ⟨D, 0, none⟩)] W fun e w' => e = .returned (.int .i64 sl) ∧ W = w') := Lib.hid (fun W D h => by rw [hsl]; exact ST.out W D l h)
  clear ht sx sy hlx hly hd hv lx ly p1 p2 p3 okx oky PL hr hx hy hsd hsl ST LX LY hfirst hboth hpd hpl
  clear m1 m2 m3 m4 m5 m6
  unfold stgV
  go_enter Tryd.func9, Tryd.ntmps9
  obtain ⟨c0, c1, c2, c3, c4, c5⟩ := X0.out
  obtain ⟨d0, d1, d2, d3, d4, d5⟩ := Y0.out
  dsimp only at c0 c1 c2 c3 c4 c5
  simp only [World.size_alloc] at d0 d1 d2 d3 d4 d5
  go_wp2_with fail
  refine (CX.out _).mono ?_
  rintro e w1 ⟨rfl, b1⟩
  have S1 := Lib.hid (S0.out.keep b1)
  clear c0 c1 c2 c3 c4 c5 d0 d1 d2 d3 d4 d5
  have X1 := Lib.hid (X0.out.below b1)
  have Y1 := Lib.hid (Y0.out.below b1)
  obtain ⟨c0, c1, c2, c3, c4, c5⟩ := X1.out
  obtain ⟨d0, d1, d2, d3, d4, d5⟩ := Y1.out
  dsimp only at c0 c1 c2 c3 c4 c5
  simp only [World.size_alloc] at d0 d1 d2 d3 d4 d5
  clear b1 S0 X0 Y0
  go_wp2_with fail
  refine (CY.out _).mono ?_
  rintro e w2 ⟨rfl, b2⟩
  have S2 := Lib.hid (S1.out.keep b2)
  clear c0 c1 c2 c3 c4 c5 d0 d1 d2 d3 d4 d5
  have X2 := Lib.hid (X1.out.below b2)
  have Y2 := Lib.hid (Y1.out.below b2)
  obtain ⟨c0, c1, c2, c3, c4, c5⟩ := X2.out
  obtain ⟨d0, d1, d2, d3, d4, d5⟩ := Y2.out
  dsimp only at c0 c1 c2 c3 c4 c5
  simp only [World.size_alloc] at d0 d1 d2 d3 d4 d5
  clear b2 S1 X1 Y1
  go_wp2_with fail
  refine (RM.out _ S2.out.tabs).mono ?_
  rintro e w3 ⟨D, K, rfl, ss⟩
  have SS3 := Lib.hid ss
  have S3 := Lib.hid (S2.out.keep ss.st.bel)
  have X3 := Lib.hid (X2.out.below ss.st.bel)
  have Y3 := Lib.hid (Y2.out.below ss.st.bel)
  clear c0 c1 c2 c3 c4 c5 d0 d1 d2 d3 d4 d5
  clear ss S2 X2 Y2
  obtain ⟨c0, c1, c2, c3, c4, c5⟩ := X3.out
  obtain ⟨d0, d1, d2, d3, d4, d5⟩ := Y3.out
  dsimp only at c0 c1 c2 c3 c4 c5
  simp only [World.size_alloc] at d0 d1 d2 d3 d4 d5
  have HSD : Hid (∀ W, ((W).cell? ⟨w.heap.size, 0, none⟩ = some (.bool xd) ∧ (W).cell? ⟨w.heap.size, 1, none⟩ = some (.string xn) ∧ (W).cell? ⟨w.heap.size, 2, none⟩ = some (.int .i64 (gx : Int)) ∧ (W).cell? ⟨w.heap.size, 3, none⟩ = some (.string xw) ∧ (W).cell? ⟨w.heap.size, 4, none⟩ = some (.string xc) ∧ (W).cell? ⟨w.heap.size, 5, none⟩ = some (.int .u64 (cx : Int)) ∧ (W).cell? ⟨w.heap.size + 1, 0, none⟩ = some (.bool yd) ∧ (W).cell? ⟨w.heap.size + 1, 1, none⟩ = some (.string yn) ∧ (W).cell? ⟨w.heap.size + 1, 2, none⟩ = some (.int .i64 (gy : Int)) ∧ (W).cell? ⟨w.heap.size + 1, 3, none⟩ = some (.string yw) ∧ (W).cell? ⟨w.heap.size + 1, 4, none⟩ = some (.string yc) ∧ (W).cell? ⟨w.heap.size + 1, 5, none⟩ = some (.int .u64 (cy : Int)) ∧ St w3 (W)) → ∀ n, (W.drewN n).cell? ⟨w.heap.size, 0, none⟩ = some (.bool xd) ∧ (W.drewN n).cell? ⟨w.heap.size, 1, none⟩ = some (.string xn) ∧ (W.drewN n).cell? ⟨w.heap.size, 2, none⟩ = some (.int .i64 (gx : Int)) ∧ (W.drewN n).cell? ⟨w.heap.size, 3, none⟩ = some (.string xw) ∧ (W.drewN n).cell? ⟨w.heap.size, 4, none⟩ = some (.string xc) ∧ (W.drewN n).cell? ⟨w.heap.size, 5, none⟩ = some (.int .u64 (cx : Int)) ∧ (W.drewN n).cell? ⟨w.heap.size + 1, 0, none⟩ = some (.bool yd) ∧ (W.drewN n).cell? ⟨w.heap.size + 1, 1, none⟩ = some (.string yn) ∧ (W.drewN n).cell? ⟨w.heap.size + 1, 2, none⟩ = some (.int .i64 (gy : Int)) ∧ (W.drewN n).cell? ⟨w.heap.size + 1, 3, none⟩ = some (.string yw) ∧ (W.drewN n).cell? ⟨w.heap.size + 1, 4, none⟩ = some (.string yc) ∧ (W.drewN n).cell? ⟨w.heap.size + 1, 5, none⟩ = some (.int .u64 (cy : Int)) ∧ St w3 (W.drewN n)) :=
    Lib.hid (fun W ⟨s1, s2, s3, s4, s5, s6, s7, s8, s9, s10, s11, s12, s13⟩ n => ⟨s1, s2, s3, s4, s5, s6, s7, s8, s9, s10, s11, s12, s13.drewN n⟩)
  have HS0 : Hid ((w3).cell? ⟨w.heap.size, 0, none⟩ = some (.bool xd) ∧ (w3).cell? ⟨w.heap.size, 1, none⟩ = some (.string xn) ∧ (w3).cell? ⟨w.heap.size, 2, none⟩ = some (.int .i64 (gx : Int)) ∧ (w3).cell? ⟨w.heap.size, 3, none⟩ = some (.string xw) ∧ (w3).cell? ⟨w.heap.size, 4, none⟩ = some (.string xc) ∧ (w3).cell? ⟨w.heap.size, 5, none⟩ = some (.int .u64 (cx : Int)) ∧ (w3).cell? ⟨w.heap.size + 1, 0, none⟩ = some (.bool yd) ∧ (w3).cell? ⟨w.heap.size + 1, 1, none⟩ = some (.string yn) ∧ (w3).cell? ⟨w.heap.size + 1, 2, none⟩ = some (.int .i64 (gy : Int)) ∧ (w3).cell? ⟨w.heap.size + 1, 3, none⟩ = some (.string yw) ∧ (w3).cell? ⟨w.heap.size + 1, 4, none⟩ = some (.string yc) ∧ (w3).cell? ⟨w.heap.size + 1, 5, none⟩ = some (.int .u64 (cy : Int)) ∧ St w3 (w3)) := Lib.hid ⟨c0, c1, c2, c3, c4, c5, d0, d1, d2, d3, d4, d5, St.refl S3.out.tabs⟩
  go_wp2
  have BD : Hid (∀ W, St w3 W → Blk W D 46 (sdC d)) := Lib.hid (fun W h => (SS3.out.below h.bel).get 0 rfl)
  have BK : Hid (∀ W, St w3 W → Blk W K 46 (sdC l)) := Lib.hid (fun W h => (SS3.out.below h.bel).get 1 rfl)
  go_region_held3 (fun w' => (w').cell? ⟨w.heap.size, 0, none⟩ = some (.bool xd) ∧ (w').cell? ⟨w.heap.size, 1, none⟩ = some (.string xn) ∧ (w').cell? ⟨w.heap.size, 2, none⟩ = some (.int .i64 (gx : Int)) ∧ (w').cell? ⟨w.heap.size, 3, none⟩ = some (.string xw) ∧ (w').cell? ⟨w.heap.size, 4, none⟩ = some (.string xc) ∧ (w').cell? ⟨w.heap.size, 5, none⟩ = some (.int .u64 (cx : Int)) ∧ (w').cell? ⟨w.heap.size + 1, 0, none⟩ = some (.bool yd) ∧ (w').cell? ⟨w.heap.size + 1, 1, none⟩ = some (.string yn) ∧ (w').cell? ⟨w.heap.size + 1, 2, none⟩ = some (.int .i64 (gy : Int)) ∧ (w').cell? ⟨w.heap.size + 1, 3, none⟩ = some (.string yw) ∧ (w').cell? ⟨w.heap.size + 1, 4, none⟩ = some (.string yc) ∧ (w').cell? ⟨w.heap.size + 1, 5, none⟩ = some (.int .u64 (cy : Int)) ∧ St w3 (w'))
    (first | exact HSD.out _ HS0.out 1 | (obtain ⟨s1, s2, s3, s4, s5, s6, s7, s8, s9, s10, s11, s12, s13⟩ := (‹_ ∧ _ ∧ _ ∧ _ ∧ _ ∧ _ ∧ _ ∧ _ ∧ _ ∧ _ ∧ _ ∧ _ ∧ St _ _›); exact ⟨cell_keep (by assumption) s1, cell_keep (by assumption) s2, cell_keep (by assumption) s3, cell_keep (by assumption) s4, cell_keep (by assumption) s5, cell_keep (by assumption) s6, cell_keep (by assumption) s7, cell_keep (by assumption) s8, cell_keep (by assumption) s9, cell_keep (by assumption) s10, cell_keep (by assumption) s11, cell_keep (by assumption) s12, s13.keep (by assumption)⟩))
    (first
      | (go_at_call 31; refine (CD.out _ _ (by first | exact HLX.out | exact HLY.out) ((‹_ ∧ _ ∧ _ ∧ _ ∧ _ ∧ _ ∧ _ ∧ _ ∧ _ ∧ _ ∧ _ ∧ _ ∧ St _ _›).2.2.2.2.2.2.2.2.2.2.2.2.tabs)).mono ?_; rintro e w5 ⟨rfl, b5⟩))
  have HSZ7 := Lib.hid (‹_ ∧ _ ∧ _ ∧ _ ∧ _ ∧ _ ∧ _ ∧ _ ∧ _ ∧ _ ∧ _ ∧ _ ∧ St _ _›)
  clear c0 c1 c2 c3 c4 c5 d0 d1 d2 d3 d4 d5
  all_goals
    obtain ⟨c0, c1, c2, c3, c4, c5, d0, d1, d2, d3, d4, d5, -⟩ := HSZ7.out
    go_wp2
    go_region_held3 (fun w' => (w').cell? ⟨w.heap.size, 0, none⟩ = some (.bool xd) ∧ (w').cell? ⟨w.heap.size, 1, none⟩ = some (.string xn) ∧ (w').cell? ⟨w.heap.size, 2, none⟩ = some (.int .i64 (gx : Int)) ∧ (w').cell? ⟨w.heap.size, 3, none⟩ = some (.string xw) ∧ (w').cell? ⟨w.heap.size, 4, none⟩ = some (.string xc) ∧ (w').cell? ⟨w.heap.size, 5, none⟩ = some (.int .u64 (cx : Int)) ∧ (w').cell? ⟨w.heap.size + 1, 0, none⟩ = some (.bool yd) ∧ (w').cell? ⟨w.heap.size + 1, 1, none⟩ = some (.string yn) ∧ (w').cell? ⟨w.heap.size + 1, 2, none⟩ = some (.int .i64 (gy : Int)) ∧ (w').cell? ⟨w.heap.size + 1, 3, none⟩ = some (.string yw) ∧ (w').cell? ⟨w.heap.size + 1, 4, none⟩ = some (.string yc) ∧ (w').cell? ⟨w.heap.size + 1, 5, none⟩ = some (.int .u64 (cy : Int)) ∧ St w3 (w'))
      (first | exact HSD.out _ HSZ7.out 1 | (obtain ⟨s1, s2, s3, s4, s5, s6, s7, s8, s9, s10, s11, s12, s13⟩ := (‹_ ∧ _ ∧ _ ∧ _ ∧ _ ∧ _ ∧ _ ∧ _ ∧ _ ∧ _ ∧ _ ∧ _ ∧ St _ _›); exact ⟨cell_keep (by assumption) s1, cell_keep (by assumption) s2, cell_keep (by assumption) s3, cell_keep (by assumption) s4, cell_keep (by assumption) s5, cell_keep (by assumption) s6, cell_keep (by assumption) s7, cell_keep (by assumption) s8, cell_keep (by assumption) s9, cell_keep (by assumption) s10, cell_keep (by assumption) s11, cell_keep (by assumption) s12, s13.keep (by assumption)⟩))
      (first
        | (go_at_call 31; refine (CL.out _ _ (by first | exact HLX.out | exact HLY.out) ((‹_ ∧ _ ∧ _ ∧ _ ∧ _ ∧ _ ∧ _ ∧ _ ∧ _ ∧ _ ∧ _ ∧ _ ∧ St _ _›).2.2.2.2.2.2.2.2.2.2.2.2.tabs)).mono ?_; rintro e w5 ⟨rfl, b5⟩))
    have HSZ8 := Lib.hid (‹_ ∧ _ ∧ _ ∧ _ ∧ _ ∧ _ ∧ _ ∧ _ ∧ _ ∧ _ ∧ _ ∧ _ ∧ St _ _›)
    all_goals
      clear c0 c1 c2 c3 c4 c5 d0 d1 d2 d3 d4 d5
      obtain ⟨c0, c1, c2, c3, c4, c5, d0, d1, d2, d3, d4, d5, -⟩ := HSZ8.out
      go_wp2_with fail
      refine (STd.out _ D (BD.out _ (HSZ8.out.2.2.2.2.2.2.2.2.2.2.2.2))).mono ?_
      rintro e w' ⟨rfl, rfl⟩
      go_wp2_with fail
      refine (STl.out _ K (BK.out _ (HSZ8.out.2.2.2.2.2.2.2.2.2.2.2.2))).mono ?_
      rintro e w' ⟨rfl, rfl⟩
      go_wp2
      go_region_held3 (fun w' => (w').cell? ⟨w.heap.size, 0, none⟩ = some (.bool xd) ∧ (w').cell? ⟨w.heap.size, 1, none⟩ = some (.string xn) ∧ (w').cell? ⟨w.heap.size, 2, none⟩ = some (.int .i64 (gx : Int)) ∧ (w').cell? ⟨w.heap.size, 3, none⟩ = some (.string xw) ∧ (w').cell? ⟨w.heap.size, 4, none⟩ = some (.string xc) ∧ (w').cell? ⟨w.heap.size, 5, none⟩ = some (.int .u64 (cx : Int)) ∧ (w').cell? ⟨w.heap.size + 1, 0, none⟩ = some (.bool yd) ∧ (w').cell? ⟨w.heap.size + 1, 1, none⟩ = some (.string yn) ∧ (w').cell? ⟨w.heap.size + 1, 2, none⟩ = some (.int .i64 (gy : Int)) ∧ (w').cell? ⟨w.heap.size + 1, 3, none⟩ = some (.string yw) ∧ (w').cell? ⟨w.heap.size + 1, 4, none⟩ = some (.string yc) ∧ (w').cell? ⟨w.heap.size + 1, 5, none⟩ = some (.int .u64 (cy : Int)) ∧ St w3 (w'))
        (first | exact HSD.out _ HSZ8.out 1 | (obtain ⟨s1, s2, s3, s4, s5, s6, s7, s8, s9, s10, s11, s12, s13⟩ := (‹_ ∧ _ ∧ _ ∧ _ ∧ _ ∧ _ ∧ _ ∧ _ ∧ _ ∧ _ ∧ _ ∧ _ ∧ St _ _›); exact ⟨cell_keep (by assumption) s1, cell_keep (by assumption) s2, cell_keep (by assumption) s3, cell_keep (by assumption) s4, cell_keep (by assumption) s5, cell_keep (by assumption) s6, cell_keep (by assumption) s7, cell_keep (by assumption) s8, cell_keep (by assumption) s9, cell_keep (by assumption) s10, cell_keep (by assumption) s11, cell_keep (by assumption) s12, s13.keep (by assumption)⟩))
        (first
          | (go_at_call 11; refine (AW.out _ ((‹_ ∧ _ ∧ _ ∧ _ ∧ _ ∧ _ ∧ _ ∧ _ ∧ _ ∧ _ ∧ _ ∧ _ ∧ St _ _›).2.2.2.2.2.2.2.2.2.2.2.2.tabs)).mono ?_; rintro e w7 ⟨rfl, b7⟩)
          | (go_at_call_of 17 (Value.pointer (some ⟨D, 0, none⟩)); refine (PD.out D _ ((SS3.out.below ((‹_ ∧ _ ∧ _ ∧ _ ∧ _ ∧ _ ∧ _ ∧ _ ∧ _ ∧ _ ∧ _ ∧ _ ∧ St _ _›).2.2.2.2.2.2.2.2.2.2.2.2.bel)).get 0 rfl)).mono ?_; rintro e w6 ⟨rfl, b6⟩)
          | (go_at_call_of 17 (Value.pointer (some ⟨K, 0, none⟩)); refine (PK.out K _ ((SS3.out.below ((‹_ ∧ _ ∧ _ ∧ _ ∧ _ ∧ _ ∧ _ ∧ _ ∧ _ ∧ _ ∧ _ ∧ _ ∧ St _ _›).2.2.2.2.2.2.2.2.2.2.2.2.bel)).get 1 rfl)).mono ?_; rintro e w6 ⟨rfl, b6⟩))
      all_goals
        have stz := (‹_ ∧ _ ∧ _ ∧ _ ∧ _ ∧ _ ∧ _ ∧ _ ∧ _ ∧ _ ∧ _ ∧ _ ∧ St _ _›).2.2.2.2.2.2.2.2.2.2.2.2
        go_wp2
        go_ret
        exact ⟨rfl, (S3.out.keep stz.bel).bel⟩
/-- Every case. -/
theorem both_walk (x y : Stg) (ox : StgOk x) (oy : StgOk y) (how : Int) (w : World) (ht : Tabs w) (sx : StgSz x) (sy : StgSz y) :
    Calls Tryd.prog 9 #[stgV x, stgV y, .int .i64 how] w fun e w' => e = .returned (.bool true) ∧ Below w.heap.size w w' := by
  cases hl : (longB x || longB y) with
  | true => exact both_long x y how w ht sx sy hl
  | false =>
    rw [Bool.or_eq_false_iff] at hl
    obtain ⟨xd, xn, gx, xw, xc, cx⟩ := x
    obtain ⟨yd, yn, gy, yw, yc, cy⟩ := y
    obtain ⟨cx, rfl, hx⟩ := u64_nat ox.c
    obtain ⟨cy, rfl, hy⟩ := u64_nat oy.c
    cases hd : dialB xn gx xw with
    | false => exact both_nodial xd yd xn xw xc yn yw yc gx gy cx cy how w ht sx sy hl.1 hl.2 hd
    | true =>
      obtain ⟨gx, rfl, _⟩ := dialB_nat hd
      cases hv : (nameF yn && genI gy) with
      | false => exact both_nolisten xd yd xn xw xc yn yw yc gx gy cx cy how w ht sx sy hl.1 hl.2 hd hv
      | true =>
        obtain ⟨gy, rfl, _⟩ := genI_nat (by rw [Bool.and_eq_true] at hv; exact hv.2)
        cases m1 : seqB xw yn with
        | false => exact both_nm1 xd yd xn xw xc yn yw yc gx gy cx cy how w ht sx sy hl.1 hl.2 hx hy hd hv m1
        | true =>
          cases m2 : seqB xn yn with
          | true => exact both_nm2 xd yd xn xw xc yn yw yc gx gy cx cy how w ht sx sy hl.1 hl.2 hx hy hd hv m1 m2
          | false =>
            cases m3 : (how == 1) with
            | false => exact both_nm3 xd yd xn xw xc yn yw yc gx gy cx cy how w ht sx sy hl.1 hl.2 hx hy hd hv m1 m2 m3
            | true =>
              cases m4 : seqB (proofD ⟨xn, gx⟩ ⟨yn, gy⟩ xc cx cy) (proofD ⟨xn, gx⟩ ⟨yn, gy⟩ yc cx cy) with
              | false => exact both_m1 xd yd xn xw xc yn yw yc gx gy cx cy how w ht sx sy hl.1 hl.2 hx hy hd hv m1 m2 m3 m4
              | true =>
                cases m5 : seqB (proofL ⟨xn, gx⟩ ⟨yn, gy⟩ xc cx cy) (proofL ⟨xn, gx⟩ ⟨yn, gy⟩ yc cx cy) with
                | false => exact both_m2 xd yd xn xw xc yn yw yc gx gy cx cy how w ht sx sy hl.1 hl.2 hx hy hd hv m1 m2 m3 m4 m5
                | true =>
                  cases m6 : seqB xc yc with
                  | false => exact both_m3 xd yd xn xw xc yn yw yc gx gy cx cy how w ht sx sy hl.1 hl.2 hx hy hd hv m1 m2 m3 m4 m5 m6
                  | true => exact both_m4 xd yd xn xw xc yn yw yc gx gy cx cy how w ht sx sy hl.1 hl.2 hx hy hd hv m1 m2 m3 m4 m5 m6
end Go.Proofs.YtnkkbkceapcahaaDoor
