/- ShakeSilent: every case of it. -/
import Derived.Test.YtnkkbkceapcahaaDoorMeetsR
import Derived.Deep.DeepCutAuto
import Derived.BigRegion
namespace Go.Proofs.YtnkkbkceapcahaaDoor
open Go.RowKit Go.Rt Go.Rw

/-- A side with another cookie. -/
def withC (s : Sd) (c : ByteArray) : Sd := { s with cookie := c }
theorem take_withC (y : Pr) (c c' : ByteArray) (k : Nat) (b : ByteArray) : takeF (listenS y c' k) b = (withC (takeF (listenS y c k) b).1 c', (takeF (listenS y c k) b).2) := by
  rw [take_hello _ rfl rfl rfl, take_hello _ rfl rfl rfl]
  unfold greetF
  cases h : readHF b with
  | none => rfl
  | some p =>
    obtain ⟨p, want⟩ := p
    show (if seqB want y.name = false ∨ seqB p.name y.name = true then _ else _) = _
    by_cases q : seqB want y.name = false ∨ seqB p.name y.name = true
    · rw [if_pos q]
      have e : (if seqB want (listenS y c k).self.name = false ∨ seqB p.name (listenS y c k).self.name = true then failS (listenS y c k) 351 else ({ listenS y c k with other := p, state := 2 }, ⟨#[]⟩, 0)) = failS (listenS y c k) 351 := if_pos q
      simp only [e]
      rfl
    · rw [if_neg q]
      have e : (if seqB want (listenS y c k).self.name = false ∨ seqB p.name (listenS y c k).self.name = true then failS (listenS y c k) 351 else ({ listenS y c k with other := p, state := 2 }, ⟨#[]⟩, 0)) = ({ listenS y c k with other := p, state := 2 }, ⟨#[]⟩, 0) := if_neg q
      simp only [e]
      rfl
theorem answer_withC (s : Sd) (c : ByteArray) (how : Int) : answerF (withC s c) how = (withC (answerF s how).1 c, (answerF s how).2) := by
  unfold answerF
  by_cases h : s.state ≠ 2 ∨ how < 1 ∨ 3 < how
  · rw [if_pos h, if_pos (show (withC s c).state ≠ 2 ∨ how < 1 ∨ 3 < how from h)]
  · rw [if_neg h, if_neg (show ¬ ((withC s c).state ≠ 2 ∨ how < 1 ∨ 3 < how) from h)]
    by_cases h1 : how ≠ 1
    · rw [if_pos h1, if_pos h1]; rfl
    · rw [if_neg h1, if_neg h1]; rfl
theorem withC_state (s : Sd) (c : ByteArray) : (withC s c).state = s.state := rfl
set_option maxRecDepth 100000 in
set_option maxHeartbeats 4000000 in
theorem silent_any (xd yd : Bool) (xn xw xc yn yw yc : ByteArray) (gx gy : Int) (cx cy : Nat) (how : Int) (ck : ByteArray) (w : World) (ht : Tabs w) (sx : StgSz (⟨xd, xn, gx, xw, xc, cx⟩ : Stg)) (sy : StgSz (⟨yd, yn, gy, yw, yc, cy⟩ : Stg)) (hck : ck.size ≤ 140737488355328) (h64x : cx ≤ 18446744073709551615) (h64y : cy ≤ 18446744073709551615) :
    Calls Tryd.prog 3 #[.agg #[.bool xd, .string xn, .int .i64 gx, .string xw, .string xc, .int .u64 (cx : Int), .bool yd, .string yn, .int .i64 gy, .string yw, .string yc, .int .u64 (cy : Int), .int .i64 how, .string ck]] w fun e w' => e = .returned (.bool true) ∧ Below w.heap.size w w' := by
  have H1 : Hid (Bx ((((w.alloc (.cells #[.bool xd, .string xn, .int .i64 gx, .string xw, .string xc, .int .u64 (cx : Int), .bool yd, .string yn, .int .i64 gy, .string yw, .string yc, .int .u64 (cy : Int), .int .i64 how, .string ck] 28)).alloc (.cells #[.bool xd, .string xn, .int .i64 gx, .string xw, .string xc, .int .u64 (cx : Int)] 26)).alloc (.cells #[.bool yd, .string yn, .int .i64 gy, .string yw, .string yc, .int .u64 (cy : Int)] 26)).drew) (w.heap.size + 1) (⟨xd, xn, gx, xw, xc, cx⟩ : Stg) ∧ Bx ((((w.alloc (.cells #[.bool xd, .string xn, .int .i64 gx, .string xw, .string xc, .int .u64 (cx : Int), .bool yd, .string yn, .int .i64 gy, .string yw, .string yc, .int .u64 (cy : Int), .int .i64 how, .string ck] 28)).alloc (.cells #[.bool xd, .string xn, .int .i64 gx, .string xw, .string xc, .int .u64 (cx : Int)] 26)).alloc (.cells #[.bool yd, .string yn, .int .i64 gy, .string yw, .string yc, .int .u64 (cy : Int)] 26)).drew) (w.heap.size + 1 + 1) (⟨yd, yn, gy, yw, yc, cy⟩ : Stg) ∧ St w ((((w.alloc (.cells #[.bool xd, .string xn, .int .i64 gx, .string xw, .string xc, .int .u64 (cx : Int), .bool yd, .string yn, .int .i64 gy, .string yw, .string yc, .int .u64 (cy : Int), .int .i64 how, .string ck] 28)).alloc (.cells #[.bool xd, .string xn, .int .i64 gx, .string xw, .string xc, .int .u64 (cx : Int)] 26)).alloc (.cells #[.bool yd, .string yn, .int .i64 gy, .string yw, .string yc, .int .u64 (cy : Int)] 26)).drew)) := by
    have b3 := Bx.of (x := (⟨xd, xn, gx, xw, xc, cx⟩ : Stg)) (((Blk.new (w.alloc (.cells #[.bool xd, .string xn, .int .i64 gx, .string xw, .string xc, .int .u64 (cx : Int), .bool yd, .string yn, .int .i64 gy, .string yw, .string yc, .int .u64 (cy : Int), .int .i64 how, .string ck] 28)) 26 #[.bool xd, .string xn, .int .i64 gx, .string xw, .string xc, .int .u64 (cx : Int)]).alloc (.cells #[.bool yd, .string yn, .int .i64 gy, .string yw, .string yc, .int .u64 (cy : Int)] 26)).drew)
    have b4 := Bx.of (x := (⟨yd, yn, gy, yw, yc, cy⟩ : Stg)) ((Blk.new ((w.alloc (.cells #[.bool xd, .string xn, .int .i64 gx, .string xw, .string xc, .int .u64 (cx : Int), .bool yd, .string yn, .int .i64 gy, .string yw, .string yc, .int .u64 (cy : Int), .int .i64 how, .string ck] 28)).alloc (.cells #[.bool xd, .string xn, .int .i64 gx, .string xw, .string xc, .int .u64 (cx : Int)] 26)) 26 #[.bool yd, .string yn, .int .i64 gy, .string yw, .string yc, .int .u64 (cy : Int)]).drew)
    simp only [World.size_alloc] at b3 b4
    exact Lib.hid ⟨b3, b4, ((((St.refl ht).alloc _).alloc _).alloc _).drew⟩
  have H2 : Hid (Bx ((((w.alloc (.cells #[.bool xd, .string xn, .int .i64 gx, .string xw, .string xc, .int .u64 (cx : Int), .bool yd, .string yn, .int .i64 gy, .string yw, .string yc, .int .u64 (cy : Int), .int .i64 how, .string ck] 28)).alloc (.cells #[.bool yd, .string yn, .int .i64 gy, .string yw, .string yc, .int .u64 (cy : Int)] 26)).alloc (.cells #[.bool xd, .string xn, .int .i64 gx, .string xw, .string xc, .int .u64 (cx : Int)] 26)).drew) (w.heap.size + 1 + 1) (⟨xd, xn, gx, xw, xc, cx⟩ : Stg) ∧ Bx ((((w.alloc (.cells #[.bool xd, .string xn, .int .i64 gx, .string xw, .string xc, .int .u64 (cx : Int), .bool yd, .string yn, .int .i64 gy, .string yw, .string yc, .int .u64 (cy : Int), .int .i64 how, .string ck] 28)).alloc (.cells #[.bool yd, .string yn, .int .i64 gy, .string yw, .string yc, .int .u64 (cy : Int)] 26)).alloc (.cells #[.bool xd, .string xn, .int .i64 gx, .string xw, .string xc, .int .u64 (cx : Int)] 26)).drew) (w.heap.size + 1) (⟨yd, yn, gy, yw, yc, cy⟩ : Stg) ∧ St w ((((w.alloc (.cells #[.bool xd, .string xn, .int .i64 gx, .string xw, .string xc, .int .u64 (cx : Int), .bool yd, .string yn, .int .i64 gy, .string yw, .string yc, .int .u64 (cy : Int), .int .i64 how, .string ck] 28)).alloc (.cells #[.bool yd, .string yn, .int .i64 gy, .string yw, .string yc, .int .u64 (cy : Int)] 26)).alloc (.cells #[.bool xd, .string xn, .int .i64 gx, .string xw, .string xc, .int .u64 (cx : Int)] 26)).drew)) := by
    have b3 := Bx.of (x := (⟨yd, yn, gy, yw, yc, cy⟩ : Stg)) (((Blk.new (w.alloc (.cells #[.bool xd, .string xn, .int .i64 gx, .string xw, .string xc, .int .u64 (cx : Int), .bool yd, .string yn, .int .i64 gy, .string yw, .string yc, .int .u64 (cy : Int), .int .i64 how, .string ck] 28)) 26 #[.bool yd, .string yn, .int .i64 gy, .string yw, .string yc, .int .u64 (cy : Int)]).alloc (.cells #[.bool xd, .string xn, .int .i64 gx, .string xw, .string xc, .int .u64 (cx : Int)] 26)).drew)
    have b4 := Bx.of (x := (⟨xd, xn, gx, xw, xc, cx⟩ : Stg)) ((Blk.new ((w.alloc (.cells #[.bool xd, .string xn, .int .i64 gx, .string xw, .string xc, .int .u64 (cx : Int), .bool yd, .string yn, .int .i64 gy, .string yw, .string yc, .int .u64 (cy : Int), .int .i64 how, .string ck] 28)).alloc (.cells #[.bool yd, .string yn, .int .i64 gy, .string yw, .string yc, .int .u64 (cy : Int)] 26)) 26 #[.bool xd, .string xn, .int .i64 gx, .string xw, .string xc, .int .u64 (cx : Int)]).drew)
    simp only [World.size_alloc] at b3 b4
    exact Lib.hid ⟨b4, b3, ((((St.refl ht).alloc _).alloc _).alloc _).drew⟩
  have CX : Hid (∀ W, Calls Tryd.prog 10 #[.agg #[.bool xd, .string xn, .int .i64 gx, .string xw, .string xc, .int .u64 (cx : Int)], .slice none 0 0] W fun e w' => e = .returned (.bool (longB (⟨xd, xn, gx, xw, xc, cx⟩ : Stg))) ∧ Below W.heap.size W w') := Lib.hid fun W => longN_any (⟨xd, xn, gx, xw, xc, cx⟩ : Stg) sx.n sx.w sx.c W
  have CY : Hid (∀ W, Calls Tryd.prog 10 #[.agg #[.bool yd, .string yn, .int .i64 gy, .string yw, .string yc, .int .u64 (cy : Int)], .slice none 0 0] W fun e w' => e = .returned (.bool (longB (⟨yd, yn, gy, yw, yc, cy⟩ : Stg))) ∧ Below W.heap.size W w') := Lib.hid fun W => longN_any (⟨yd, yn, gy, yw, yc, cy⟩ : Stg) sy.n sy.w sy.c W
  have AW := Lib.hid (fun W (t : Tabs W) => awakeS_any W t)
  have H64x := Lib.hid h64x
  have H64y := Lib.hid h64y
  have HCK := Lib.hid hck
  clear ht sx sy h64x h64y hck
  go_enter Tryd.func3, Tryd.ntmps3
  go_upto_region 1 with (fail)
  go_cut [3, 4, 5, 6] (fun s3 s4 s5 s6 wx => ∃ B3 B4 : Nat, s3 = .pointer (some ⟨B3, 0, none⟩) ∧ s4 = .pointer (some ⟨B4, 0, none⟩) ∧ s5 = .int .i64 how ∧ s6 = .string ck ∧ Bx wx B3 (⟨xd, xn, gx, xw, xc, cx⟩ : Stg) ∧ Bx wx B4 (⟨yd, yn, gy, yw, yc, cy⟩ : Stg) ∧ St w wx)
  case first =>
    go_region
    all_goals
      go_wp2_with fail
      go_meet
      first
        | exact ⟨_, _, rfl, rfl, rfl, rfl, H1.out⟩
        | exact ⟨_, _, rfl, rfl, rfl, rfl, H2.out⟩
  case rest =>
    obtain ⟨B3, B4, rfl, rfl, rfl, rfl, x0, y0, st0⟩ := hcut
    have X0 := Lib.hid x0
    have Y0 := Lib.hid y0
    have S0 := Lib.hid st0
    clear x0 y0 st0 H1 H2
    cases hlx : longB (⟨xd, xn, gx, xw, xc, cx⟩ : Stg) with
    | true =>
      rw [hlx] at CX
      clear hlx CY
      obtain ⟨c0, c1, c2, c3, c4, c5⟩ := X0.out
      obtain ⟨d0, d1, d2, d3, d4, d5⟩ := Y0.out
      dsimp only at c0 c1 c2 c3 c4 c5 d0 d1 d2 d3 d4 d5
      go_wp2_with fail
      refine (CX.out _).mono ?_
      rintro e w1 ⟨rfl, b1⟩
      have S1 := Lib.hid (S0.out.keep b1)
      clear c0 c1 c2 c3 c4 c5 d0 d1 d2 d3 d4 d5
      clear b1 S0 X0 Y0
      go_wp2_with fail
      refine (AW.out _ S1.out.tabs).mono ?_
      rintro e wl ⟨rfl, bl⟩
      have SL := Lib.hid (S1.out.keep bl)
      clear bl
      go_wp2
      go_ret
      exact ⟨rfl, SL.out.bel⟩
    | false =>
      rw [hlx] at CX
      cases hly : longB (⟨yd, yn, gy, yw, yc, cy⟩ : Stg) with
      | true =>
        rw [hly] at CY
        clear hlx hly
        obtain ⟨c0, c1, c2, c3, c4, c5⟩ := X0.out
        obtain ⟨d0, d1, d2, d3, d4, d5⟩ := Y0.out
        dsimp only at c0 c1 c2 c3 c4 c5 d0 d1 d2 d3 d4 d5
        go_wp2_with fail
        refine (CX.out _).mono ?_
        rintro e w1 ⟨rfl, b1⟩
        have S1 := Lib.hid (S0.out.keep b1)
        clear c0 c1 c2 c3 c4 c5 d0 d1 d2 d3 d4 d5
        have X1 := Lib.hid (X0.out.below b1)
        have Y1 := Lib.hid (Y0.out.below b1)
        obtain ⟨c0, c1, c2, c3, c4, c5⟩ := X1.out
        obtain ⟨d0, d1, d2, d3, d4, d5⟩ := Y1.out
        dsimp only at c0 c1 c2 c3 c4 c5 d0 d1 d2 d3 d4 d5
        clear b1 S0 X0 Y0
        go_wp2_with fail
        refine (CY.out _).mono ?_
        rintro e w2 ⟨rfl, b2⟩
        have S2 := Lib.hid (S1.out.keep b2)
        clear c0 c1 c2 c3 c4 c5 d0 d1 d2 d3 d4 d5
        clear b2 S1 X1 Y1
        go_wp2_with fail
        refine (AW.out _ S2.out.tabs).mono ?_
        rintro e wl ⟨rfl, bl⟩
        have SL := Lib.hid (S2.out.keep bl)
        clear bl
        go_wp2
        go_ret
        exact ⟨rfl, SL.out.bel⟩
      | false =>
        rw [hly] at CY
        by_cases hc : 2000 < ck.size
        · have hc' : (2000 : Int) < (ck.size : Int) := by omega
          have hcd := decide_eq_true hc'
          clear hc hlx hly
          obtain ⟨c0, c1, c2, c3, c4, c5⟩ := X0.out
          obtain ⟨d0, d1, d2, d3, d4, d5⟩ := Y0.out
          dsimp only at c0 c1 c2 c3 c4 c5 d0 d1 d2 d3 d4 d5
          go_wp2_with fail
          refine (CX.out _).mono ?_
          rintro e w1 ⟨rfl, b1⟩
          have S1 := Lib.hid (S0.out.keep b1)
          clear c0 c1 c2 c3 c4 c5 d0 d1 d2 d3 d4 d5
          have X1 := Lib.hid (X0.out.below b1)
          have Y1 := Lib.hid (Y0.out.below b1)
          obtain ⟨c0, c1, c2, c3, c4, c5⟩ := X1.out
          obtain ⟨d0, d1, d2, d3, d4, d5⟩ := Y1.out
          dsimp only at c0 c1 c2 c3 c4 c5 d0 d1 d2 d3 d4 d5
          clear b1 S0 X0 Y0
          go_wp2_with fail
          refine (CY.out _).mono ?_
          rintro e w2 ⟨rfl, b2⟩
          have S2 := Lib.hid (S1.out.keep b2)
          clear c0 c1 c2 c3 c4 c5 d0 d1 d2 d3 d4 d5
          clear b2 S1 X1 Y1
          go_wp2_with fail
          refine (AW.out _ S2.out.tabs).mono ?_
          rintro e wl ⟨rfl, bl⟩
          have SL := Lib.hid (S2.out.keep bl)
          clear bl
          go_wp2
          go_ret
          exact ⟨rfl, SL.out.bel⟩
        · have hc' : decide ((2000 : Int) < (ck.size : Int)) = false := decide_eq_false (by omega)
          have LK := Lib.hid hc
          clear hc
          have lx : xw.size + xc.size + xn.size ≤ 6000 := by
            have := of_decide_eq_false hlx
            dsimp only at this
            omega
          have ly : yw.size + yc.size + yn.size ≤ 6000 := by
            have := of_decide_eq_false hly
            dsimp only at this
            omega
          have LX := Lib.hid lx
          have LY := Lib.hid ly
          clear hlx hly lx ly
          cases hd : dialB xn gx xw with
          | false =>
            have D1 := Lib.hid (fun W => dial_no xn gx xw xc cx hd W)
            have D2 := Lib.hid (fun W => dial_no xn gx xw ck cx hd W)
            obtain ⟨k, hk⟩ : ∃ k, k = lisE yn gy := ⟨_, rfl⟩
            have L1 := Lib.hid (fun W => listen_e yn gy yc cy W)
            have L2 := Lib.hid (fun W => listen_e yn gy ck cy W)
            rw [← hk] at L1 L2
            have q1 : ((k : Int) != k) = false := by simp
            clear hd hk
            obtain ⟨c0, c1, c2, c3, c4, c5⟩ := X0.out
            obtain ⟨d0, d1, d2, d3, d4, d5⟩ := Y0.out
            dsimp only at c0 c1 c2 c3 c4 c5 d0 d1 d2 d3 d4 d5
            go_wp2_with fail
            refine (CX.out _).mono ?_
            rintro e w1 ⟨rfl, b1⟩
            have S1 := Lib.hid (S0.out.keep b1)
            clear c0 c1 c2 c3 c4 c5 d0 d1 d2 d3 d4 d5
            have X1 := Lib.hid (X0.out.below b1)
            have Y1 := Lib.hid (Y0.out.below b1)
            obtain ⟨c0, c1, c2, c3, c4, c5⟩ := X1.out
            obtain ⟨d0, d1, d2, d3, d4, d5⟩ := Y1.out
            dsimp only at c0 c1 c2 c3 c4 c5 d0 d1 d2 d3 d4 d5
            clear b1 S0 X0 Y0
            go_wp2_with fail
            refine (CY.out _).mono ?_
            rintro e w2 ⟨rfl, b2⟩
            have S2 := Lib.hid (S1.out.keep b2)
            clear c0 c1 c2 c3 c4 c5 d0 d1 d2 d3 d4 d5
            have X2 := Lib.hid (X1.out.below b2)
            have Y2 := Lib.hid (Y1.out.below b2)
            obtain ⟨c0, c1, c2, c3, c4, c5⟩ := X2.out
            obtain ⟨d0, d1, d2, d3, d4, d5⟩ := Y2.out
            dsimp only at c0 c1 c2 c3 c4 c5 d0 d1 d2 d3 d4 d5
            clear b2 S1 X1 Y1
            go_wp2_with fail
            refine (D1.out _).mono ?_
            rintro e w3 ⟨rfl, b3⟩
            have S3 := Lib.hid (S2.out.keep b3)
            clear c0 c1 c2 c3 c4 c5 d0 d1 d2 d3 d4 d5
            have X3 := Lib.hid (X2.out.below b3)
            have Y3 := Lib.hid (Y2.out.below b3)
            obtain ⟨c0, c1, c2, c3, c4, c5⟩ := X3.out
            obtain ⟨d0, d1, d2, d3, d4, d5⟩ := Y3.out
            dsimp only at c0 c1 c2 c3 c4 c5 d0 d1 d2 d3 d4 d5
            clear b3 S2 X2 Y2
            go_wp2_with fail
            refine (D2.out _).mono ?_
            rintro e w4 ⟨rfl, b4⟩
            have S4 := Lib.hid (S3.out.keep b4)
            clear c0 c1 c2 c3 c4 c5 d0 d1 d2 d3 d4 d5
            have X4 := Lib.hid (X3.out.below b4)
            have Y4 := Lib.hid (Y3.out.below b4)
            obtain ⟨c0, c1, c2, c3, c4, c5⟩ := X4.out
            obtain ⟨d0, d1, d2, d3, d4, d5⟩ := Y4.out
            dsimp only at c0 c1 c2 c3 c4 c5 d0 d1 d2 d3 d4 d5
            clear b4 S3 X3 Y3
            go_wp2_with fail
            refine (L1.out _).mono ?_
            rintro e w5 ⟨⟨q, rfl⟩, b5⟩
            have S5 := Lib.hid (S4.out.keep b5)
            clear c0 c1 c2 c3 c4 c5 d0 d1 d2 d3 d4 d5
            have X5 := Lib.hid (X4.out.below b5)
            have Y5 := Lib.hid (Y4.out.below b5)
            obtain ⟨c0, c1, c2, c3, c4, c5⟩ := X5.out
            obtain ⟨d0, d1, d2, d3, d4, d5⟩ := Y5.out
            dsimp only at c0 c1 c2 c3 c4 c5 d0 d1 d2 d3 d4 d5
            clear b5 S4 X4 Y4
            go_wp2_with fail
            refine (L2.out _).mono ?_
            rintro e w6 ⟨⟨q', rfl⟩, b6⟩
            have S6 := Lib.hid (S5.out.keep b6)
            clear c0 c1 c2 c3 c4 c5 d0 d1 d2 d3 d4 d5
            clear b6 S5 X5 Y5
            go_wp2_with fail
            refine (AW.out _ S6.out.tabs).mono ?_
            rintro e wl ⟨rfl, bl⟩
            have SL := Lib.hid (S6.out.keep bl)
            clear bl
            go_wp2
            go_ret
            exact ⟨rfl, SL.out.bel⟩
          | true =>
            obtain ⟨gx, rfl, _⟩ := dialB_nat hd
            obtain ⟨hel, hhel⟩ : ∃ h, h = helloF ⟨xn, gx⟩ xw := ⟨_, rfl⟩
            have zh : hel.size ≤ 100000 := by
              have := LX.out
              rw [hhel, helloF_size]
              show xn.size + _ + 8 ≤ _
              omega
            have ZH := Lib.hid zh
            have q0 : (hel.toList != hel.toList) = false := by simp
            have q0b : (hel.toList == hel.toList) = true := by simp
            have D1 := Lib.hid (fun W => dial_yes xn gx xw xc cx hd W)
            have D2 := Lib.hid (fun W => dial_yes xn gx xw ck cx hd W)
            rw [← hhel] at D1 D2
            obtain ⟨s1, hs1⟩ : ∃ s, s = dialS ⟨xn, gx⟩ xw xc cx := ⟨_, rfl⟩
            obtain ⟨s2, hs2⟩ : ∃ s, s = dialS ⟨xn, gx⟩ xw ck cx := ⟨_, rfl⟩
            rw [← hs1] at D1
            rw [← hs2] at D2
            clear zh hhel hd hs1 hs2
            cases hv : (nameF yn && genI gy) with
            | false =>
              have L1 := Lib.hid (fun W => listen_no yn gy yc cy hv W)
              have L2 := Lib.hid (fun W => listen_no yn gy ck cy hv W)
              clear hv
              obtain ⟨c0, c1, c2, c3, c4, c5⟩ := X0.out
              obtain ⟨d0, d1, d2, d3, d4, d5⟩ := Y0.out
              dsimp only at c0 c1 c2 c3 c4 c5 d0 d1 d2 d3 d4 d5
              go_wp2_with fail
              refine (CX.out _).mono ?_
              rintro e w1 ⟨rfl, b1⟩
              have S1 := Lib.hid (S0.out.keep b1)
              clear c0 c1 c2 c3 c4 c5 d0 d1 d2 d3 d4 d5
              have X1 := Lib.hid (X0.out.below b1)
              have Y1 := Lib.hid (Y0.out.below b1)
              obtain ⟨c0, c1, c2, c3, c4, c5⟩ := X1.out
              obtain ⟨d0, d1, d2, d3, d4, d5⟩ := Y1.out
              dsimp only at c0 c1 c2 c3 c4 c5 d0 d1 d2 d3 d4 d5
              clear b1 S0 X0 Y0
              go_wp2_with fail
              refine (CY.out _).mono ?_
              rintro e w2 ⟨rfl, b2⟩
              have S2 := Lib.hid (S1.out.keep b2)
              clear c0 c1 c2 c3 c4 c5 d0 d1 d2 d3 d4 d5
              have X2 := Lib.hid (X1.out.below b2)
              have Y2 := Lib.hid (Y1.out.below b2)
              obtain ⟨c0, c1, c2, c3, c4, c5⟩ := X2.out
              obtain ⟨d0, d1, d2, d3, d4, d5⟩ := Y2.out
              dsimp only at c0 c1 c2 c3 c4 c5 d0 d1 d2 d3 d4 d5
              clear b2 S1 X1 Y1
              go_wp2_with fail
              refine (D1.out _).mono ?_
              rintro e w3 ⟨D, rfl, -, -, b3⟩
              have S3 := Lib.hid (S2.out.keep b3)
              clear c0 c1 c2 c3 c4 c5 d0 d1 d2 d3 d4 d5
              have X3 := Lib.hid (X2.out.below b3)
              have Y3 := Lib.hid (Y2.out.below b3)
              obtain ⟨c0, c1, c2, c3, c4, c5⟩ := X3.out
              obtain ⟨d0, d1, d2, d3, d4, d5⟩ := Y3.out
              dsimp only at c0 c1 c2 c3 c4 c5 d0 d1 d2 d3 d4 d5
              clear b3 S2 X2 Y2
              go_wp2_with fail
              refine (D2.out _).mono ?_
              rintro e w4 ⟨P, rfl, -, -, b4⟩
              have S4 := Lib.hid (S3.out.keep b4)
              clear c0 c1 c2 c3 c4 c5 d0 d1 d2 d3 d4 d5
              have X4 := Lib.hid (X3.out.below b4)
              have Y4 := Lib.hid (Y3.out.below b4)
              obtain ⟨c0, c1, c2, c3, c4, c5⟩ := X4.out
              obtain ⟨d0, d1, d2, d3, d4, d5⟩ := Y4.out
              dsimp only at c0 c1 c2 c3 c4 c5 d0 d1 d2 d3 d4 d5
              clear b4 S3 X3 Y3
              go_wp2_with fail
              refine (L1.out _).mono ?_
              rintro e w5 ⟨rfl, b5⟩
              have S5 := Lib.hid (S4.out.keep b5)
              clear c0 c1 c2 c3 c4 c5 d0 d1 d2 d3 d4 d5
              have X5 := Lib.hid (X4.out.below b5)
              have Y5 := Lib.hid (Y4.out.below b5)
              obtain ⟨c0, c1, c2, c3, c4, c5⟩ := X5.out
              obtain ⟨d0, d1, d2, d3, d4, d5⟩ := Y5.out
              dsimp only at c0 c1 c2 c3 c4 c5 d0 d1 d2 d3 d4 d5
              clear b5 S4 X4 Y4
              go_wp2_with fail
              refine (L2.out _).mono ?_
              rintro e w6 ⟨rfl, b6⟩
              have S6 := Lib.hid (S5.out.keep b6)
              clear c0 c1 c2 c3 c4 c5 d0 d1 d2 d3 d4 d5
              clear b6 S5 X5 Y5
              go_wp2_with fail
              refine (AW.out _ S6.out.tabs).mono ?_
              rintro e wl ⟨rfl, bl⟩
              have SL := Lib.hid (S6.out.keep bl)
              clear bl
              go_wp2
              go_ret
              exact ⟨rfl, SL.out.bel⟩
            | true =>
              obtain ⟨gy, rfl, _⟩ := genI_nat (by rw [Bool.and_eq_true] at hv; exact hv.2)
              have oky : PrOk ⟨yn, gy⟩ := by
                have hv' := hv
                rw [Bool.and_eq_true] at hv'
                have := hv'.2
                unfold genI at this
                simp only [Bool.and_eq_true, decide_eq_true_eq] at this
                exact ⟨hv'.1, by show 1 ≤ gy; omega, by show gy ≤ _; omega⟩
              have L1 := Lib.hid (fun W => listen_yes yn gy yc cy hv W)
              have L2 := Lib.hid (fun W => listen_yes yn gy ck cy hv W)
              have G1 : Fine (listenS ⟨yn, gy⟩ yc cy) := Fine.listenS oky (by have := LY.out; omega) H64y.out
              have G2 : Fine (listenS ⟨yn, gy⟩ ck cy) := Fine.listenS oky (by have := LK.out; omega) H64y.out
              have TW := take_withC ⟨yn, gy⟩ yc ck cy hel
              obtain ⟨la, hla⟩ : ∃ s, s = listenS ⟨yn, gy⟩ yc cy := ⟨_, rfl⟩
              obtain ⟨lb, hlb⟩ : ∃ s, s = listenS ⟨yn, gy⟩ ck cy := ⟨_, rfl⟩
              rw [← hla, ← hlb] at TW
              rw [← hla] at L1 G1
              rw [← hlb] at L2 G2
              obtain ⟨⟨l1, o1, e1⟩, h1⟩ : ∃ r, r = takeF la hel := ⟨_, rfl⟩
              rw [← h1] at TW
              simp only at TW
              obtain ⟨⟨l2, o2, e2⟩, h2⟩ : ∃ r, r = answerF l1 how := ⟨_, rfl⟩
              have AWC := answer_withC l1 ck how
              rw [← h2] at AWC
              simp only at AWC
              have G3 : Fine l1 := by have := G1.take hel; rw [← h1] at this; exact this
              have G4 : Fine (withC l1 ck) := by have := G2.take hel; rw [TW] at this; exact this
              have A1 : Hid (∀ V M K, Ss w V [(K, 46, la), (M, 46, lb)] → Calls Tryd.prog 14 #[.pointer (some ⟨K, 0, none⟩), .string hel] V (Saw w [(K, 46, l1), (M, 46, lb)] (.tuple #[.string o1, .int .i64 e1]))) :=
                Lib.hid (fun V M K h => by have := h.take46 0 rfl G1 hel ZH.out; rw [← h1] at this; exact this)
              have A2 : Hid (∀ V M K, Ss w V [(K, 46, l1), (M, 46, lb)] → Calls Tryd.prog 14 #[.pointer (some ⟨M, 0, none⟩), .string hel] V (Saw w [(K, 46, l1), (M, 46, withC l1 ck)] (.tuple #[.string o1, .int .i64 e1]))) :=
                Lib.hid (fun V M K h => by have := h.take46 1 rfl G2 hel ZH.out; rw [TW] at this; exact this)
              have A3 : Hid (∀ V M K, Ss w V [(K, 46, l1), (M, 46, withC l1 ck)] → Calls Tryd.prog 15 #[.pointer (some ⟨K, 0, none⟩), .int .i64 how] V (Saw w [(K, 46, l2), (M, 46, withC l1 ck)] (.tuple #[.string o2, .int .i64 e2]))) :=
                Lib.hid (fun V M K h => by have := h.answer46 0 rfl G3 how; rw [← h2] at this; exact this)
              have A4 : Hid (∀ V M K, Ss w V [(K, 46, l2), (M, 46, withC l1 ck)] → Calls Tryd.prog 15 #[.pointer (some ⟨M, 0, none⟩), .int .i64 how] V (Saw w [(K, 46, l2), (M, 46, withC l2 ck)] (.tuple #[.string o2, .int .i64 e2]))) :=
                Lib.hid (fun V M K h => by have := h.answer46 1 rfl G4 how; rw [AWC] at this; exact this)
              obtain ⟨sl, hsl⟩ : ∃ n : Nat, n = l2.state := ⟨_, rfl⟩
              have ST1 : Hid (∀ W D, Blk W D 46 (sdC l2) → Calls Tryd.prog 16 #[.pointer (some ⟨D, 0, none⟩)] W fun e w' => e = .returned (.int .i64 sl) ∧ W = w') := Lib.hid (fun W D h => by rw [hsl]; exact state_any l2 D W h)
              have ST2 : Hid (∀ W D, Blk W D 46 (sdC (withC l2 ck)) → Calls Tryd.prog 16 #[.pointer (some ⟨D, 0, none⟩)] W fun e w' => e = .returned (.int .i64 sl) ∧ W = w') := Lib.hid (fun W D h => by rw [hsl]; exact state_any (withC l2 ck) D W h)
              have q1 : ((e1 : Int) == e1) = true := by simp
              have q2 : ((e2 : Int) == e2) = true := by simp
              have q3 : (o2.toList == o2.toList) = true := by simp
              have q4 : ((sl : Int) == sl) = true := by simp
              obtain ⟨m1, hm1⟩ : ∃ s, s = withC l1 ck := ⟨_, rfl⟩
              obtain ⟨m2, hm2⟩ : ∃ s, s = withC l2 ck := ⟨_, rfl⟩
              rw [← hm1] at A2 A3 A4
              rw [← hm2] at A4 ST2
              clear hv oky G1 G2 G3 G4 TW AWC h1 h2 hla hlb hsl hm1 hm2
              obtain ⟨c0, c1, c2, c3, c4, c5⟩ := X0.out
              obtain ⟨d0, d1, d2, d3, d4, d5⟩ := Y0.out
              dsimp only at c0 c1 c2 c3 c4 c5 d0 d1 d2 d3 d4 d5
              go_wp2_with fail
              refine (CX.out _).mono ?_
              rintro e w1 ⟨rfl, b1⟩
              have S1 := Lib.hid (S0.out.keep b1)
              clear c0 c1 c2 c3 c4 c5 d0 d1 d2 d3 d4 d5
              have X1 := Lib.hid (X0.out.below b1)
              have Y1 := Lib.hid (Y0.out.below b1)
              obtain ⟨c0, c1, c2, c3, c4, c5⟩ := X1.out
              obtain ⟨d0, d1, d2, d3, d4, d5⟩ := Y1.out
              dsimp only at c0 c1 c2 c3 c4 c5 d0 d1 d2 d3 d4 d5
              clear b1 S0 X0 Y0
              go_wp2_with fail
              refine (CY.out _).mono ?_
              rintro e w2 ⟨rfl, b2⟩
              have S2 := Lib.hid (S1.out.keep b2)
              clear c0 c1 c2 c3 c4 c5 d0 d1 d2 d3 d4 d5
              have X2 := Lib.hid (X1.out.below b2)
              have Y2 := Lib.hid (Y1.out.below b2)
              obtain ⟨c0, c1, c2, c3, c4, c5⟩ := X2.out
              obtain ⟨d0, d1, d2, d3, d4, d5⟩ := Y2.out
              dsimp only at c0 c1 c2 c3 c4 c5 d0 d1 d2 d3 d4 d5
              clear b2 S1 X1 Y1
              go_wp2_with fail
              refine (D1.out _).mono ?_
              rintro e w3 ⟨D, rfl, -, -, b3⟩
              have S3 := Lib.hid (S2.out.keep b3)
              clear c0 c1 c2 c3 c4 c5 d0 d1 d2 d3 d4 d5
              have X3 := Lib.hid (X2.out.below b3)
              have Y3 := Lib.hid (Y2.out.below b3)
              obtain ⟨c0, c1, c2, c3, c4, c5⟩ := X3.out
              obtain ⟨d0, d1, d2, d3, d4, d5⟩ := Y3.out
              dsimp only at c0 c1 c2 c3 c4 c5 d0 d1 d2 d3 d4 d5
              clear b3 S2 X2 Y2
              go_wp2_with fail
              refine (D2.out _).mono ?_
              rintro e w4 ⟨P, rfl, -, -, b4⟩
              have S4 := Lib.hid (S3.out.keep b4)
              clear c0 c1 c2 c3 c4 c5 d0 d1 d2 d3 d4 d5
              have X4 := Lib.hid (X3.out.below b4)
              have Y4 := Lib.hid (Y3.out.below b4)
              obtain ⟨c0, c1, c2, c3, c4, c5⟩ := X4.out
              obtain ⟨d0, d1, d2, d3, d4, d5⟩ := Y4.out
              dsimp only at c0 c1 c2 c3 c4 c5 d0 d1 d2 d3 d4 d5
              clear b4 S3 X3 Y3
              have SS4 := Lib.hid (Ss.ofSt S4.out)
              go_wp2_with fail
              refine (L1.out _).mono ?_
              rintro e w5 ⟨K, rfl, gB, kB, b5⟩
              have SS5 := Lib.hid (SS4.out.add kB gB b5)
              clear c0 c1 c2 c3 c4 c5 d0 d1 d2 d3 d4 d5
              have X5 := Lib.hid (X4.out.below b5)
              have Y5 := Lib.hid (Y4.out.below b5)
              obtain ⟨c0, c1, c2, c3, c4, c5⟩ := X5.out
              obtain ⟨d0, d1, d2, d3, d4, d5⟩ := Y5.out
              dsimp only at c0 c1 c2 c3 c4 c5 d0 d1 d2 d3 d4 d5
              clear b5 SS4 X4 Y4 gB kB
              go_wp2_with fail
              refine (L2.out _).mono ?_
              rintro e w6 ⟨M, rfl, gB, kB, b6⟩
              have SS6 := Lib.hid (SS5.out.add kB gB b6)
              clear c0 c1 c2 c3 c4 c5 d0 d1 d2 d3 d4 d5
              clear b6 SS5 X5 Y5 gB kB
              go_wp2_with fail
              refine (A1.out _ M K SS6.out).mono ?_
              rintro e w7 ⟨rfl, s7⟩
              have SS7 := Lib.hid s7
              clear s7 SS6
              go_wp2_with fail
              refine (A2.out _ M K SS7.out).mono ?_
              rintro e w8 ⟨rfl, s8⟩
              have SS8 := Lib.hid s8
              clear s8 SS7
              go_wp2_with fail
              refine (A3.out _ M K SS8.out).mono ?_
              rintro e w9 ⟨rfl, s9⟩
              have SS9 := Lib.hid s9
              clear s9 SS8
              go_wp2_with fail
              refine (A4.out _ M K SS9.out).mono ?_
              rintro e w10 ⟨rfl, s10⟩
              have SS10 := Lib.hid s10
              clear s10 SS9
              go_wp2_with fail
              refine (ST1.out _ K (SS10.out.get 0 rfl)).mono ?_
              rintro e w' ⟨rfl, rfl⟩
              go_wp2_with fail
              refine (ST2.out _ M (SS10.out.get 1 rfl)).mono ?_
              rintro e w' ⟨rfl, rfl⟩
              have S10 := Lib.hid SS10.out.st
              go_wp2_with fail
              refine (AW.out _ S10.out.tabs).mono ?_
              rintro e wl ⟨rfl, bl⟩
              have SL := Lib.hid (S10.out.keep bl)
              clear bl
              go_wp2
              go_ret
              exact ⟨rfl, SL.out.bel⟩
theorem silent_walk (x y : Stg) (ox : StgOk x) (oy : StgOk y) (how : Int) (ck : ByteArray) (hck : ck.size ≤ 140737488355328) (w : World) (ht : Tabs w) (sx : StgSz x) (sy : StgSz y) :
    Calls Tryd.prog 3 #[.agg #[.bool x.dials, .string x.name, .int .i64 x.gen, .string x.want, .string x.cookie, .int .u64 x.chal, .bool y.dials, .string y.name, .int .i64 y.gen, .string y.want, .string y.cookie, .int .u64 y.chal, .int .i64 how, .string ck]] w fun e w' => e = .returned (.bool true) ∧ Below w.heap.size w w' := by
  obtain ⟨xd, xn, gx, xw, xc, cx⟩ := x
  obtain ⟨yd, yn, gy, yw, yc, cy⟩ := y
  obtain ⟨cx, rfl, hx⟩ := u64_nat ox.c
  obtain ⟨cy, rfl, hy⟩ := u64_nat oy.c
  exact silent_any xd yd xn xw xc yn yw yc gx gy cx cy how ck w ht sx sy hck hx hy
end Go.Proofs.YtnkkbkceapcahaaDoor
