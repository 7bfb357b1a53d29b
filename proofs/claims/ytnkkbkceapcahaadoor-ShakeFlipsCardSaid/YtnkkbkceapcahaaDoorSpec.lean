/- The walk of specified. -/
import Derived.Test.YtnkkbkceapcahaaDoorRunF
namespace Go.Proofs.YtnkkbkceapcahaaDoor
open Go.RowKit Go.Rt Go.Rw

set_option maxRecDepth 100000 in
set_option maxHeartbeats 4000000 in
theorem spec0_A (xd yd : Bool) (xn xw xc yn yw yc : ByteArray) (gx gy cx cy : Nat) (bit : Nat) (hbit : bit ≤ 65535) (W : World) (ht : Tabs W) (d l : Sd) (hel : ByteArray)
    (hDY : ∀ W, Calls Tryd.prog 24 #[.agg #[.string xn, .int .i64 gx], .string xw, .string xc, .int .u64 cx] W (Made 83 d hel W)) (hLY : ∀ W, Calls Tryd.prog 25 #[.agg #[.string yn, .int .i64 gy], .string yc, .int .u64 cy] W (MadeL 83 l W))
    (F0 : Fine d) (G0 : Fine l) (zh : hel.size ≤ 100000) (l1 : Sd) (o1 : ByteArray) (e1 : Nat) (h1 : takeF l (flipF hel bit) = (l1, o1, e1)) (k1 : e1 ≠ 0) :
    Calls Tryd.prog 21 #[stgV (⟨xd, xn, gx, xw, xc, cx⟩ : Stg), stgV (⟨yd, yn, gy, yw, yc, cy⟩ : Stg), .int .i64 0, .int .u16 bit] W fun e W' => e = .returned (.tuple #[.int .i64 d.state, .int .i64 l1.state]) ∧ Below W.heap.size W W' := by
  have X0 := Lib.hid (Bx.of (x := (⟨xd, xn, gx, xw, xc, cx⟩ : Stg)) ((Blk.new W 26 #[.bool xd, .string xn, .int .i64 (gx : Int), .string xw, .string xc, .int .u64 (cx : Int)]).alloc (.cells #[.bool yd, .string yn, .int .i64 (gy : Int), .string yw, .string yc, .int .u64 (cy : Int)] 26)))
  have Y0 := Lib.hid (Bx.of (x := (⟨yd, yn, gy, yw, yc, cy⟩ : Stg)) (Blk.new (W.alloc (.cells #[.bool xd, .string xn, .int .i64 (gx : Int), .string xw, .string xc, .int .u64 (cx : Int)] 26)) 26 #[.bool yd, .string yn, .int .i64 (gy : Int), .string yw, .string yc, .int .u64 (cy : Int)]))
  have S0 := Lib.hid (((St.refl ht).alloc (.cells #[.bool xd, .string xn, .int .i64 (gx : Int), .string xw, .string xc, .int .u64 (cx : Int)] 26)).alloc (.cells #[.bool yd, .string yn, .int .i64 (gy : Int), .string yw, .string yc, .int .u64 (cy : Int)] 26))
  have DY := Lib.hid hDY
  have LY := Lib.hid hLY
  have FC := Lib.hid (fun W b hz => flipped_any b bit hz hbit W)
  have fine0 := F0
  clear fine0
  have z0 : (flipF hel bit).size ≤ 100000 := by have := flipF_size hel bit; omega
  have A1 : Hid (∀ V D K, Ss W V [(D, 83, d), (K, 83, l)] → Calls Tryd.prog 29 #[.pointer (some ⟨K, 0, none⟩), .string (flipF hel bit)] V (Saw W [(D, 83, d), (K, 83, l1)] (.tuple #[.string o1, .int .i64 e1]))) :=
    Lib.hid (fun V D K h => by have := h.take83 1 rfl G0 (flipF hel bit) z0; rw [h1] at this; exact this)
  have q1 : ((e1 : Int) != 0) = true := by rw [bne_iff_ne]; omega
  have p1 : ((e1 : Int) == 0) = false := by exact beq_eq_false_iff_ne.2 (by omega)
  have zh' := Lib.hid zh
  obtain ⟨cc, hcc⟩ : ∃ c, c = flipF hel bit := ⟨_, rfl⟩
  have FB : Hid (∀ W, hel.size ≤ 100000 → Calls Tryd.prog 20 #[.string hel, .int .u16 bit] W fun e w' => e = .returned (.string cc) ∧ Below W.heap.size W w') := Lib.hid (fun W h => by rw [hcc]; exact FC.out W hel h)
  rw [← hcc] at A1
  clear hcc
  clear ht hDY hLY F0 G0 zh hbit FC k1 h1 z0
  unfold stgV
  go_enter Tryd.func21, Tryd.ntmps21
  obtain ⟨c0, c1, c2, c3, c4, c5⟩ := X0.out
  obtain ⟨d0, d1, d2, d3, d4, d5⟩ := Y0.out
  dsimp only at c0 c1 c2 c3 c4 c5
  simp only [World.size_alloc] at d0 d1 d2 d3 d4 d5
  have SS0 := Lib.hid (Ss.ofSt S0.out)
  go_wp2_with fail
  refine (DY.out _).mono ?_
  rintro e w1 ⟨D, rfl, gB, kB, b1⟩
  have SS1 := Lib.hid (SS0.out.add kB gB b1)
  clear c0 c1 c2 c3 c4 c5 d0 d1 d2 d3 d4 d5
  have X1 := Lib.hid (X0.out.below b1)
  have Y1 := Lib.hid (Y0.out.below b1)
  obtain ⟨c0, c1, c2, c3, c4, c5⟩ := X1.out
  obtain ⟨d0, d1, d2, d3, d4, d5⟩ := Y1.out
  dsimp only at c0 c1 c2 c3 c4 c5
  simp only [World.size_alloc] at d0 d1 d2 d3 d4 d5
  clear b1 SS0 X0 Y0 gB kB
  go_wp2_with fail
  refine (LY.out _).mono ?_
  rintro e w2 ⟨K, rfl, gB, kB, b2⟩
  have SS2 := Lib.hid (SS1.out.add kB gB b2)
  clear c0 c1 c2 c3 c4 c5 d0 d1 d2 d3 d4 d5
  have X2 := Lib.hid (X1.out.below b2)
  have Y2 := Lib.hid (Y1.out.below b2)
  clear b2 SS1 X1 Y1 gB kB
  clear X2 Y2 S0
  go_wp2_with fail
  refine wp_loop_rounds 5 ?_
  rw [rounds_succ]
  go_wp2_with fail
  refine (FB.out _ zh'.out).mono ?_
  rintro e w3 ⟨rfl, b3⟩
  have SS3 := Lib.hid (SS2.out.below b3)
  clear b3 SS2
  go_wp2_with fail
  refine (A1.out _ D K SS3.out).mono ?_
  rintro e w4 ⟨rfl, s4⟩
  have SS4 := Lib.hid s4
  clear s4 SS3
  have j1 := (sd_cells (SS4.out.get 0 rfl)).c10
  have j2 := (sd_cells (SS4.out.get 1 rfl)).c10
  go_wp2_with fail
  go_quiet (fail)
  go_wp2
  go_ret2
  exact ⟨rfl, below_drewN SS4.out.st.bel _⟩
set_option maxRecDepth 100000 in
set_option maxHeartbeats 4000000 in
theorem spec0_B (xd yd : Bool) (xn xw xc yn yw yc : ByteArray) (gx gy cx cy : Nat) (bit : Nat) (hbit : bit ≤ 65535) (W : World) (ht : Tabs W) (d l : Sd) (hel : ByteArray)
    (hDY : ∀ W, Calls Tryd.prog 24 #[.agg #[.string xn, .int .i64 gx], .string xw, .string xc, .int .u64 cx] W (Made 83 d hel W)) (hLY : ∀ W, Calls Tryd.prog 25 #[.agg #[.string yn, .int .i64 gy], .string yc, .int .u64 cy] W (MadeL 83 l W))
    (F0 : Fine d) (G0 : Fine l) (zh : hel.size ≤ 100000) (l1 : Sd) (o1 : ByteArray) (e1 : Nat) (h1 : takeF l (flipF hel bit) = (l1, o1, e1)) (k1 : e1 = 0) (l2 : Sd) (o2 : ByteArray) (e2 : Nat) (h2 : answerF l1 1 = (l2, o2, e2)) (k2 : e2 = 0) (d1 : Sd) (o3 : ByteArray) (e3 : Nat) (h3 : takeF d o2 = (d1, o3, e3)) (k3 : e3 ≠ 0) :
    Calls Tryd.prog 21 #[stgV (⟨xd, xn, gx, xw, xc, cx⟩ : Stg), stgV (⟨yd, yn, gy, yw, yc, cy⟩ : Stg), .int .i64 0, .int .u16 bit] W fun e W' => e = .returned (.tuple #[.int .i64 d1.state, .int .i64 l2.state]) ∧ Below W.heap.size W W' := by
  have X0 := Lib.hid (Bx.of (x := (⟨xd, xn, gx, xw, xc, cx⟩ : Stg)) ((Blk.new W 26 #[.bool xd, .string xn, .int .i64 (gx : Int), .string xw, .string xc, .int .u64 (cx : Int)]).alloc (.cells #[.bool yd, .string yn, .int .i64 (gy : Int), .string yw, .string yc, .int .u64 (cy : Int)] 26)))
  have Y0 := Lib.hid (Bx.of (x := (⟨yd, yn, gy, yw, yc, cy⟩ : Stg)) (Blk.new (W.alloc (.cells #[.bool xd, .string xn, .int .i64 (gx : Int), .string xw, .string xc, .int .u64 (cx : Int)] 26)) 26 #[.bool yd, .string yn, .int .i64 (gy : Int), .string yw, .string yc, .int .u64 (cy : Int)]))
  have S0 := Lib.hid (((St.refl ht).alloc (.cells #[.bool xd, .string xn, .int .i64 (gx : Int), .string xw, .string xc, .int .u64 (cx : Int)] 26)).alloc (.cells #[.bool yd, .string yn, .int .i64 (gy : Int), .string yw, .string yc, .int .u64 (cy : Int)] 26))
  have DY := Lib.hid hDY
  have LY := Lib.hid hLY
  have FC := Lib.hid (fun W b hz => flipped_any b bit hz hbit W)
  have fine0 := F0
  clear fine0
  have z0 : (flipF hel bit).size ≤ 100000 := by have := flipF_size hel bit; omega
  have A1 : Hid (∀ V D K, Ss W V [(D, 83, d), (K, 83, l)] → Calls Tryd.prog 29 #[.pointer (some ⟨K, 0, none⟩), .string (flipF hel bit)] V (Saw W [(D, 83, d), (K, 83, l1)] (.tuple #[.string o1, .int .i64 e1]))) :=
    Lib.hid (fun V D K h => by have := h.take83 1 rfl G0 (flipF hel bit) z0; rw [h1] at this; exact this)
  have G1 : Fine l1 := by have := G0.take (flipF hel bit); rw [h1] at this; exact this
  have A2 : Hid (∀ V D K, Ss W V [(D, 83, d), (K, 83, l1)] → Calls Tryd.prog 28 #[.pointer (some ⟨K, 0, none⟩), .int .i64 1] V (Saw W [(D, 83, d), (K, 83, l2)] (.tuple #[.string o2, .int .i64 e2]))) :=
    Lib.hid (fun V D K h => by have := h.answer83 1 rfl G1 1; rw [h2] at this; exact this)
  have y2 : o2.size ≤ 100 := by have := answer_out l1 G1 1; rw [h2] at this; exact this
  have z1 : o2.size ≤ 100000 := by omega
  have A3 : Hid (∀ V D K, Ss W V [(D, 83, d), (K, 83, l2)] → Calls Tryd.prog 29 #[.pointer (some ⟨D, 0, none⟩), .string o2] V (Saw W [(D, 83, d1), (K, 83, l2)] (.tuple #[.string o3, .int .i64 e3]))) :=
    Lib.hid (fun V D K h => by have := h.take83 0 rfl F0 o2 z1; rw [h3] at this; exact this)
  have y2' := Lib.hid y2
  have q1 : ((e1 : Int) != 0) = false := by rw [bne_eq_false_iff_eq]; omega
  have p1 : ((e1 : Int) == 0) = true := by rw [beq_iff_eq]; omega
  have q2 : ((e2 : Int) != 0) = false := by rw [bne_eq_false_iff_eq]; omega
  have p2 : ((e2 : Int) == 0) = true := by rw [beq_iff_eq]; omega
  have q3 : ((e3 : Int) != 0) = true := by rw [bne_iff_ne]; omega
  have p3 : ((e3 : Int) == 0) = false := by exact beq_eq_false_iff_ne.2 (by omega)
  have zh' := Lib.hid zh
  obtain ⟨cc, hcc⟩ : ∃ c, c = flipF hel bit := ⟨_, rfl⟩
  have FB : Hid (∀ W, hel.size ≤ 100000 → Calls Tryd.prog 20 #[.string hel, .int .u16 bit] W fun e w' => e = .returned (.string cc) ∧ Below W.heap.size W w') := Lib.hid (fun W h => by rw [hcc]; exact FC.out W hel h)
  rw [← hcc] at A1
  clear hcc
  clear ht hDY hLY F0 G0 zh hbit FC k1 k2 k3 h1 z0 G1 h2 y2 z1 h3
  unfold stgV
  go_enter Tryd.func21, Tryd.ntmps21
  obtain ⟨c0, c1, c2, c3, c4, c5⟩ := X0.out
  obtain ⟨d0, d1, d2, d3, d4, d5⟩ := Y0.out
  dsimp only at c0 c1 c2 c3 c4 c5
  simp only [World.size_alloc] at d0 d1 d2 d3 d4 d5
  have SS0 := Lib.hid (Ss.ofSt S0.out)
  go_wp2_with fail
  refine (DY.out _).mono ?_
  rintro e w1 ⟨D, rfl, gB, kB, b1⟩
  have SS1 := Lib.hid (SS0.out.add kB gB b1)
  clear c0 c1 c2 c3 c4 c5 d0 d1 d2 d3 d4 d5
  have X1 := Lib.hid (X0.out.below b1)
  have Y1 := Lib.hid (Y0.out.below b1)
  obtain ⟨c0, c1, c2, c3, c4, c5⟩ := X1.out
  obtain ⟨d0, d1, d2, d3, d4, d5⟩ := Y1.out
  dsimp only at c0 c1 c2 c3 c4 c5
  simp only [World.size_alloc] at d0 d1 d2 d3 d4 d5
  clear b1 SS0 X0 Y0 gB kB
  go_wp2_with fail
  refine (LY.out _).mono ?_
  rintro e w2 ⟨K, rfl, gB, kB, b2⟩
  have SS2 := Lib.hid (SS1.out.add kB gB b2)
  clear c0 c1 c2 c3 c4 c5 d0 d1 d2 d3 d4 d5
  have X2 := Lib.hid (X1.out.below b2)
  have Y2 := Lib.hid (Y1.out.below b2)
  clear b2 SS1 X1 Y1 gB kB
  clear X2 Y2 S0
  go_wp2_with fail
  refine wp_loop_rounds 5 ?_
  rw [rounds_succ]
  go_wp2_with fail
  refine (FB.out _ zh'.out).mono ?_
  rintro e w3 ⟨rfl, b3⟩
  have SS3 := Lib.hid (SS2.out.below b3)
  clear b3 SS2
  go_wp2_with fail
  refine (A1.out _ D K SS3.out).mono ?_
  rintro e w4 ⟨rfl, s4⟩
  have SS4 := Lib.hid s4
  clear s4 SS3
  go_wp2_with fail
  refine (A2.out _ D K SS4.out).mono ?_
  rintro e w5 ⟨rfl, s5⟩
  have SS5 := Lib.hid s5
  clear s5 SS4
  go_wp2_with fail
  rw [rounds_succ]
  go_wp2_with fail
  refine (A3.out _ D K SS5.out).mono ?_
  rintro e w6 ⟨rfl, s6⟩
  have SS6 := Lib.hid s6
  clear s6 SS5
  have j1 := (sd_cells (SS6.out.get 0 rfl)).c10
  have j2 := (sd_cells (SS6.out.get 1 rfl)).c10
  go_wp2_with fail
  go_quiet (fail)
  go_wp2
  go_ret2
  exact ⟨rfl, below_drewN SS6.out.st.bel _⟩
set_option maxRecDepth 100000 in
set_option maxHeartbeats 4000000 in
theorem spec0_C (xd yd : Bool) (xn xw xc yn yw yc : ByteArray) (gx gy cx cy : Nat) (bit : Nat) (hbit : bit ≤ 65535) (W : World) (ht : Tabs W) (d l : Sd) (hel : ByteArray)
    (hDY : ∀ W, Calls Tryd.prog 24 #[.agg #[.string xn, .int .i64 gx], .string xw, .string xc, .int .u64 cx] W (Made 83 d hel W)) (hLY : ∀ W, Calls Tryd.prog 25 #[.agg #[.string yn, .int .i64 gy], .string yc, .int .u64 cy] W (MadeL 83 l W))
    (F0 : Fine d) (G0 : Fine l) (zh : hel.size ≤ 100000) (l1 : Sd) (o1 : ByteArray) (e1 : Nat) (h1 : takeF l (flipF hel bit) = (l1, o1, e1)) (k1 : e1 = 0) (l2 : Sd) (o2 : ByteArray) (e2 : Nat) (h2 : answerF l1 1 = (l2, o2, e2)) (k2 : e2 = 0) (d1 : Sd) (o3 : ByteArray) (e3 : Nat) (h3 : takeF d o2 = (d1, o3, e3)) (k3 : e3 = 0) (l3 : Sd) (o4 : ByteArray) (e4 : Nat) (h4 : takeF l2 o3 = (l3, o4, e4)) (k4 : e4 ≠ 0) :
    Calls Tryd.prog 21 #[stgV (⟨xd, xn, gx, xw, xc, cx⟩ : Stg), stgV (⟨yd, yn, gy, yw, yc, cy⟩ : Stg), .int .i64 0, .int .u16 bit] W fun e W' => e = .returned (.tuple #[.int .i64 d1.state, .int .i64 l3.state]) ∧ Below W.heap.size W W' := by
  have X0 := Lib.hid (Bx.of (x := (⟨xd, xn, gx, xw, xc, cx⟩ : Stg)) ((Blk.new W 26 #[.bool xd, .string xn, .int .i64 (gx : Int), .string xw, .string xc, .int .u64 (cx : Int)]).alloc (.cells #[.bool yd, .string yn, .int .i64 (gy : Int), .string yw, .string yc, .int .u64 (cy : Int)] 26)))
  have Y0 := Lib.hid (Bx.of (x := (⟨yd, yn, gy, yw, yc, cy⟩ : Stg)) (Blk.new (W.alloc (.cells #[.bool xd, .string xn, .int .i64 (gx : Int), .string xw, .string xc, .int .u64 (cx : Int)] 26)) 26 #[.bool yd, .string yn, .int .i64 (gy : Int), .string yw, .string yc, .int .u64 (cy : Int)]))
  have S0 := Lib.hid (((St.refl ht).alloc (.cells #[.bool xd, .string xn, .int .i64 (gx : Int), .string xw, .string xc, .int .u64 (cx : Int)] 26)).alloc (.cells #[.bool yd, .string yn, .int .i64 (gy : Int), .string yw, .string yc, .int .u64 (cy : Int)] 26))
  have DY := Lib.hid hDY
  have LY := Lib.hid hLY
  have FC := Lib.hid (fun W b hz => flipped_any b bit hz hbit W)
  have fine0 := F0
  clear fine0
  have z0 : (flipF hel bit).size ≤ 100000 := by have := flipF_size hel bit; omega
  have A1 : Hid (∀ V D K, Ss W V [(D, 83, d), (K, 83, l)] → Calls Tryd.prog 29 #[.pointer (some ⟨K, 0, none⟩), .string (flipF hel bit)] V (Saw W [(D, 83, d), (K, 83, l1)] (.tuple #[.string o1, .int .i64 e1]))) :=
    Lib.hid (fun V D K h => by have := h.take83 1 rfl G0 (flipF hel bit) z0; rw [h1] at this; exact this)
  have G1 : Fine l1 := by have := G0.take (flipF hel bit); rw [h1] at this; exact this
  have A2 : Hid (∀ V D K, Ss W V [(D, 83, d), (K, 83, l1)] → Calls Tryd.prog 28 #[.pointer (some ⟨K, 0, none⟩), .int .i64 1] V (Saw W [(D, 83, d), (K, 83, l2)] (.tuple #[.string o2, .int .i64 e2]))) :=
    Lib.hid (fun V D K h => by have := h.answer83 1 rfl G1 1; rw [h2] at this; exact this)
  have y2 : o2.size ≤ 100 := by have := answer_out l1 G1 1; rw [h2] at this; exact this
  have z1 : o2.size ≤ 100000 := by omega
  have A3 : Hid (∀ V D K, Ss W V [(D, 83, d), (K, 83, l2)] → Calls Tryd.prog 29 #[.pointer (some ⟨D, 0, none⟩), .string o2] V (Saw W [(D, 83, d1), (K, 83, l2)] (.tuple #[.string o3, .int .i64 e3]))) :=
    Lib.hid (fun V D K h => by have := h.take83 0 rfl F0 o2 z1; rw [h3] at this; exact this)
  have y2' := Lib.hid y2
  have G2 : Fine l2 := by have := G1.answer 1; rw [h2] at this; exact this
  have y3 : o3.size ≤ 100 := by have := take_out d o2; rw [h3] at this; exact this
  have z2 : o3.size ≤ 100000 := by omega
  have y3' := Lib.hid y3
  have A4 : Hid (∀ V D K, Ss W V [(D, 83, d1), (K, 83, l2)] → Calls Tryd.prog 29 #[.pointer (some ⟨K, 0, none⟩), .string o3] V (Saw W [(D, 83, d1), (K, 83, l3)] (.tuple #[.string o4, .int .i64 e4]))) :=
    Lib.hid (fun V D K h => by have := h.take83 1 rfl G2 o3 z2; rw [h4] at this; exact this)
  have q1 : ((e1 : Int) != 0) = false := by rw [bne_eq_false_iff_eq]; omega
  have p1 : ((e1 : Int) == 0) = true := by rw [beq_iff_eq]; omega
  have q2 : ((e2 : Int) != 0) = false := by rw [bne_eq_false_iff_eq]; omega
  have p2 : ((e2 : Int) == 0) = true := by rw [beq_iff_eq]; omega
  have q3 : ((e3 : Int) != 0) = false := by rw [bne_eq_false_iff_eq]; omega
  have p3 : ((e3 : Int) == 0) = true := by rw [beq_iff_eq]; omega
  have q4 : ((e4 : Int) != 0) = true := by rw [bne_iff_ne]; omega
  have p4 : ((e4 : Int) == 0) = false := by exact beq_eq_false_iff_ne.2 (by omega)
  have zh' := Lib.hid zh
  obtain ⟨cc, hcc⟩ : ∃ c, c = flipF hel bit := ⟨_, rfl⟩
  have FB : Hid (∀ W, hel.size ≤ 100000 → Calls Tryd.prog 20 #[.string hel, .int .u16 bit] W fun e w' => e = .returned (.string cc) ∧ Below W.heap.size W w') := Lib.hid (fun W h => by rw [hcc]; exact FC.out W hel h)
  rw [← hcc] at A1
  clear hcc
  clear ht hDY hLY F0 G0 zh hbit FC k1 k2 k3 k4 h1 z0 G1 h2 y2 z1 h3 G2 y3 z2 h4
  unfold stgV
  go_enter Tryd.func21, Tryd.ntmps21
  obtain ⟨c0, c1, c2, c3, c4, c5⟩ := X0.out
  obtain ⟨d0, d1, d2, d3, d4, d5⟩ := Y0.out
  dsimp only at c0 c1 c2 c3 c4 c5
  simp only [World.size_alloc] at d0 d1 d2 d3 d4 d5
  have SS0 := Lib.hid (Ss.ofSt S0.out)
  go_wp2_with fail
  refine (DY.out _).mono ?_
  rintro e w1 ⟨D, rfl, gB, kB, b1⟩
  have SS1 := Lib.hid (SS0.out.add kB gB b1)
  clear c0 c1 c2 c3 c4 c5 d0 d1 d2 d3 d4 d5
  have X1 := Lib.hid (X0.out.below b1)
  have Y1 := Lib.hid (Y0.out.below b1)
  obtain ⟨c0, c1, c2, c3, c4, c5⟩ := X1.out
  obtain ⟨d0, d1, d2, d3, d4, d5⟩ := Y1.out
  dsimp only at c0 c1 c2 c3 c4 c5
  simp only [World.size_alloc] at d0 d1 d2 d3 d4 d5
  clear b1 SS0 X0 Y0 gB kB
  go_wp2_with fail
  refine (LY.out _).mono ?_
  rintro e w2 ⟨K, rfl, gB, kB, b2⟩
  have SS2 := Lib.hid (SS1.out.add kB gB b2)
  clear c0 c1 c2 c3 c4 c5 d0 d1 d2 d3 d4 d5
  have X2 := Lib.hid (X1.out.below b2)
  have Y2 := Lib.hid (Y1.out.below b2)
  clear b2 SS1 X1 Y1 gB kB
  clear X2 Y2 S0
  go_wp2_with fail
  refine wp_loop_rounds 5 ?_
  rw [rounds_succ]
  go_wp2_with fail
  refine (FB.out _ zh'.out).mono ?_
  rintro e w3 ⟨rfl, b3⟩
  have SS3 := Lib.hid (SS2.out.below b3)
  clear b3 SS2
  go_wp2_with fail
  refine (A1.out _ D K SS3.out).mono ?_
  rintro e w4 ⟨rfl, s4⟩
  have SS4 := Lib.hid s4
  clear s4 SS3
  go_wp2_with fail
  refine (A2.out _ D K SS4.out).mono ?_
  rintro e w5 ⟨rfl, s5⟩
  have SS5 := Lib.hid s5
  clear s5 SS4
  go_wp2_with fail
  rw [rounds_succ]
  go_wp2_with fail
  refine (A3.out _ D K SS5.out).mono ?_
  rintro e w6 ⟨rfl, s6⟩
  have SS6 := Lib.hid s6
  clear s6 SS5
  go_wp2_with fail
  rw [rounds_succ]
  go_wp2_with fail
  refine (A4.out _ D K SS6.out).mono ?_
  rintro e w7 ⟨rfl, s7⟩
  have SS7 := Lib.hid s7
  clear s7 SS6
  have j1 := (sd_cells (SS7.out.get 0 rfl)).c10
  have j2 := (sd_cells (SS7.out.get 1 rfl)).c10
  go_wp2_with fail
  go_quiet (fail)
  go_wp2
  go_ret2
  exact ⟨rfl, below_drewN SS7.out.st.bel _⟩
set_option maxRecDepth 100000 in
set_option maxHeartbeats 4000000 in
theorem spec0_D (xd yd : Bool) (xn xw xc yn yw yc : ByteArray) (gx gy cx cy : Nat) (bit : Nat) (hbit : bit ≤ 65535) (W : World) (ht : Tabs W) (d l : Sd) (hel : ByteArray)
    (hDY : ∀ W, Calls Tryd.prog 24 #[.agg #[.string xn, .int .i64 gx], .string xw, .string xc, .int .u64 cx] W (Made 83 d hel W)) (hLY : ∀ W, Calls Tryd.prog 25 #[.agg #[.string yn, .int .i64 gy], .string yc, .int .u64 cy] W (MadeL 83 l W))
    (F0 : Fine d) (G0 : Fine l) (zh : hel.size ≤ 100000) (l1 : Sd) (o1 : ByteArray) (e1 : Nat) (h1 : takeF l (flipF hel bit) = (l1, o1, e1)) (k1 : e1 = 0) (l2 : Sd) (o2 : ByteArray) (e2 : Nat) (h2 : answerF l1 1 = (l2, o2, e2)) (k2 : e2 = 0) (d1 : Sd) (o3 : ByteArray) (e3 : Nat) (h3 : takeF d o2 = (d1, o3, e3)) (k3 : e3 = 0) (l3 : Sd) (o4 : ByteArray) (e4 : Nat) (h4 : takeF l2 o3 = (l3, o4, e4)) (k4 : e4 = 0) (d2 : Sd) (o5 : ByteArray) (e5 : Nat) (h5 : takeF d1 o4 = (d2, o5, e5)) (k5 : e5 = 0) :
    Calls Tryd.prog 21 #[stgV (⟨xd, xn, gx, xw, xc, cx⟩ : Stg), stgV (⟨yd, yn, gy, yw, yc, cy⟩ : Stg), .int .i64 0, .int .u16 bit] W fun e W' => e = .returned (.tuple #[.int .i64 d2.state, .int .i64 l3.state]) ∧ Below W.heap.size W W' := by
  have X0 := Lib.hid (Bx.of (x := (⟨xd, xn, gx, xw, xc, cx⟩ : Stg)) ((Blk.new W 26 #[.bool xd, .string xn, .int .i64 (gx : Int), .string xw, .string xc, .int .u64 (cx : Int)]).alloc (.cells #[.bool yd, .string yn, .int .i64 (gy : Int), .string yw, .string yc, .int .u64 (cy : Int)] 26)))
  have Y0 := Lib.hid (Bx.of (x := (⟨yd, yn, gy, yw, yc, cy⟩ : Stg)) (Blk.new (W.alloc (.cells #[.bool xd, .string xn, .int .i64 (gx : Int), .string xw, .string xc, .int .u64 (cx : Int)] 26)) 26 #[.bool yd, .string yn, .int .i64 (gy : Int), .string yw, .string yc, .int .u64 (cy : Int)]))
  have S0 := Lib.hid (((St.refl ht).alloc (.cells #[.bool xd, .string xn, .int .i64 (gx : Int), .string xw, .string xc, .int .u64 (cx : Int)] 26)).alloc (.cells #[.bool yd, .string yn, .int .i64 (gy : Int), .string yw, .string yc, .int .u64 (cy : Int)] 26))
  have DY := Lib.hid hDY
  have LY := Lib.hid hLY
  have FC := Lib.hid (fun W b hz => flipped_any b bit hz hbit W)
  have fine0 := F0
  clear fine0
  have z0 : (flipF hel bit).size ≤ 100000 := by have := flipF_size hel bit; omega
  have A1 : Hid (∀ V D K, Ss W V [(D, 83, d), (K, 83, l)] → Calls Tryd.prog 29 #[.pointer (some ⟨K, 0, none⟩), .string (flipF hel bit)] V (Saw W [(D, 83, d), (K, 83, l1)] (.tuple #[.string o1, .int .i64 e1]))) :=
    Lib.hid (fun V D K h => by have := h.take83 1 rfl G0 (flipF hel bit) z0; rw [h1] at this; exact this)
  have G1 : Fine l1 := by have := G0.take (flipF hel bit); rw [h1] at this; exact this
  have A2 : Hid (∀ V D K, Ss W V [(D, 83, d), (K, 83, l1)] → Calls Tryd.prog 28 #[.pointer (some ⟨K, 0, none⟩), .int .i64 1] V (Saw W [(D, 83, d), (K, 83, l2)] (.tuple #[.string o2, .int .i64 e2]))) :=
    Lib.hid (fun V D K h => by have := h.answer83 1 rfl G1 1; rw [h2] at this; exact this)
  have y2 : o2.size ≤ 100 := by have := answer_out l1 G1 1; rw [h2] at this; exact this
  have z1 : o2.size ≤ 100000 := by omega
  have A3 : Hid (∀ V D K, Ss W V [(D, 83, d), (K, 83, l2)] → Calls Tryd.prog 29 #[.pointer (some ⟨D, 0, none⟩), .string o2] V (Saw W [(D, 83, d1), (K, 83, l2)] (.tuple #[.string o3, .int .i64 e3]))) :=
    Lib.hid (fun V D K h => by have := h.take83 0 rfl F0 o2 z1; rw [h3] at this; exact this)
  have y2' := Lib.hid y2
  have G2 : Fine l2 := by have := G1.answer 1; rw [h2] at this; exact this
  have y3 : o3.size ≤ 100 := by have := take_out d o2; rw [h3] at this; exact this
  have z2 : o3.size ≤ 100000 := by omega
  have y3' := Lib.hid y3
  have A4 : Hid (∀ V D K, Ss W V [(D, 83, d1), (K, 83, l2)] → Calls Tryd.prog 29 #[.pointer (some ⟨K, 0, none⟩), .string o3] V (Saw W [(D, 83, d1), (K, 83, l3)] (.tuple #[.string o4, .int .i64 e4]))) :=
    Lib.hid (fun V D K h => by have := h.take83 1 rfl G2 o3 z2; rw [h4] at this; exact this)
  have F1 : Fine d1 := by have := F0.take o2; rw [h3] at this; exact this
  have y4 : o4.size ≤ 100 := by have := take_out l2 o3; rw [h4] at this; exact this
  have z3 : o4.size ≤ 100000 := by omega
  have y4' := Lib.hid y4
  have A5 : Hid (∀ V D K, Ss W V [(D, 83, d1), (K, 83, l3)] → Calls Tryd.prog 29 #[.pointer (some ⟨D, 0, none⟩), .string o4] V (Saw W [(D, 83, d2), (K, 83, l3)] (.tuple #[.string o5, .int .i64 e5]))) :=
    Lib.hid (fun V D K h => by have := h.take83 0 rfl F1 o4 z3; rw [h5] at this; exact this)
  have q1 : ((e1 : Int) != 0) = false := by rw [bne_eq_false_iff_eq]; omega
  have p1 : ((e1 : Int) == 0) = true := by rw [beq_iff_eq]; omega
  have q2 : ((e2 : Int) != 0) = false := by rw [bne_eq_false_iff_eq]; omega
  have p2 : ((e2 : Int) == 0) = true := by rw [beq_iff_eq]; omega
  have q3 : ((e3 : Int) != 0) = false := by rw [bne_eq_false_iff_eq]; omega
  have p3 : ((e3 : Int) == 0) = true := by rw [beq_iff_eq]; omega
  have q4 : ((e4 : Int) != 0) = false := by rw [bne_eq_false_iff_eq]; omega
  have p4 : ((e4 : Int) == 0) = true := by rw [beq_iff_eq]; omega
  have q5 : ((e5 : Int) != 0) = false := by rw [bne_eq_false_iff_eq]; omega
  have p5 : ((e5 : Int) == 0) = true := by rw [beq_iff_eq]; omega
  have zh' := Lib.hid zh
  obtain ⟨cc, hcc⟩ : ∃ c, c = flipF hel bit := ⟨_, rfl⟩
  have FB : Hid (∀ W, hel.size ≤ 100000 → Calls Tryd.prog 20 #[.string hel, .int .u16 bit] W fun e w' => e = .returned (.string cc) ∧ Below W.heap.size W w') := Lib.hid (fun W h => by rw [hcc]; exact FC.out W hel h)
  rw [← hcc] at A1
  clear hcc
  clear ht hDY hLY F0 G0 zh hbit FC k1 k2 k3 k4 k5 h1 z0 G1 h2 y2 z1 h3 G2 y3 z2 h4 F1 y4 z3 h5
  unfold stgV
  go_enter Tryd.func21, Tryd.ntmps21
  obtain ⟨c0, c1, c2, c3, c4, c5⟩ := X0.out
  obtain ⟨d0, d1, d2, d3, d4, d5⟩ := Y0.out
  dsimp only at c0 c1 c2 c3 c4 c5
  simp only [World.size_alloc] at d0 d1 d2 d3 d4 d5
  have SS0 := Lib.hid (Ss.ofSt S0.out)
  go_wp2_with fail
  refine (DY.out _).mono ?_
  rintro e w1 ⟨D, rfl, gB, kB, b1⟩
  have SS1 := Lib.hid (SS0.out.add kB gB b1)
  clear c0 c1 c2 c3 c4 c5 d0 d1 d2 d3 d4 d5
  have X1 := Lib.hid (X0.out.below b1)
  have Y1 := Lib.hid (Y0.out.below b1)
  obtain ⟨c0, c1, c2, c3, c4, c5⟩ := X1.out
  obtain ⟨d0, d1, d2, d3, d4, d5⟩ := Y1.out
  dsimp only at c0 c1 c2 c3 c4 c5
  simp only [World.size_alloc] at d0 d1 d2 d3 d4 d5
  clear b1 SS0 X0 Y0 gB kB
  go_wp2_with fail
  refine (LY.out _).mono ?_
  rintro e w2 ⟨K, rfl, gB, kB, b2⟩
  have SS2 := Lib.hid (SS1.out.add kB gB b2)
  clear c0 c1 c2 c3 c4 c5 d0 d1 d2 d3 d4 d5
  have X2 := Lib.hid (X1.out.below b2)
  have Y2 := Lib.hid (Y1.out.below b2)
  clear b2 SS1 X1 Y1 gB kB
  clear X2 Y2 S0
  go_wp2_with fail
  refine wp_loop_rounds 5 ?_
  rw [rounds_succ]
  go_wp2_with fail
  refine (FB.out _ zh'.out).mono ?_
  rintro e w3 ⟨rfl, b3⟩
  have SS3 := Lib.hid (SS2.out.below b3)
  clear b3 SS2
  go_wp2_with fail
  refine (A1.out _ D K SS3.out).mono ?_
  rintro e w4 ⟨rfl, s4⟩
  have SS4 := Lib.hid s4
  clear s4 SS3
  go_wp2_with fail
  refine (A2.out _ D K SS4.out).mono ?_
  rintro e w5 ⟨rfl, s5⟩
  have SS5 := Lib.hid s5
  clear s5 SS4
  go_wp2_with fail
  rw [rounds_succ]
  go_wp2_with fail
  refine (A3.out _ D K SS5.out).mono ?_
  rintro e w6 ⟨rfl, s6⟩
  have SS6 := Lib.hid s6
  clear s6 SS5
  go_wp2_with fail
  rw [rounds_succ]
  go_wp2_with fail
  refine (A4.out _ D K SS6.out).mono ?_
  rintro e w7 ⟨rfl, s7⟩
  have SS7 := Lib.hid s7
  clear s7 SS6
  go_wp2_with fail
  rw [rounds_succ]
  go_wp2_with fail
  refine (A5.out _ D K SS7.out).mono ?_
  rintro e w8 ⟨rfl, s8⟩
  have SS8 := Lib.hid s8
  clear s8 SS7
  go_wp2_with fail
  rw [rounds_succ]
  have j1 := (sd_cells (SS8.out.get 0 rfl)).c10
  have j2 := (sd_cells (SS8.out.get 1 rfl)).c10
  go_wp2_with fail
  go_quiet (fail)
  go_wp2
  go_ret2
  exact ⟨rfl, below_drewN SS8.out.st.bel _⟩
set_option maxRecDepth 100000 in
set_option maxHeartbeats 4000000 in
theorem spec0_E (xd yd : Bool) (xn xw xc yn yw yc : ByteArray) (gx gy cx cy : Nat) (bit : Nat) (hbit : bit ≤ 65535) (W : World) (ht : Tabs W) (d l : Sd) (hel : ByteArray)
    (hDY : ∀ W, Calls Tryd.prog 24 #[.agg #[.string xn, .int .i64 gx], .string xw, .string xc, .int .u64 cx] W (Made 83 d hel W)) (hLY : ∀ W, Calls Tryd.prog 25 #[.agg #[.string yn, .int .i64 gy], .string yc, .int .u64 cy] W (MadeL 83 l W))
    (F0 : Fine d) (G0 : Fine l) (zh : hel.size ≤ 100000) (l1 : Sd) (o1 : ByteArray) (e1 : Nat) (h1 : takeF l (flipF hel bit) = (l1, o1, e1)) (k1 : e1 = 0) (l2 : Sd) (o2 : ByteArray) (e2 : Nat) (h2 : answerF l1 1 = (l2, o2, e2)) (k2 : e2 = 0) (d1 : Sd) (o3 : ByteArray) (e3 : Nat) (h3 : takeF d o2 = (d1, o3, e3)) (k3 : e3 = 0) (l3 : Sd) (o4 : ByteArray) (e4 : Nat) (h4 : takeF l2 o3 = (l3, o4, e4)) (k4 : e4 = 0) (d2 : Sd) (o5 : ByteArray) (e5 : Nat) (h5 : takeF d1 o4 = (d2, o5, e5)) (k5 : e5 ≠ 0) :
    Calls Tryd.prog 21 #[stgV (⟨xd, xn, gx, xw, xc, cx⟩ : Stg), stgV (⟨yd, yn, gy, yw, yc, cy⟩ : Stg), .int .i64 0, .int .u16 bit] W fun e W' => e = .returned (.tuple #[.int .i64 d2.state, .int .i64 l3.state]) ∧ Below W.heap.size W W' := by
  have X0 := Lib.hid (Bx.of (x := (⟨xd, xn, gx, xw, xc, cx⟩ : Stg)) ((Blk.new W 26 #[.bool xd, .string xn, .int .i64 (gx : Int), .string xw, .string xc, .int .u64 (cx : Int)]).alloc (.cells #[.bool yd, .string yn, .int .i64 (gy : Int), .string yw, .string yc, .int .u64 (cy : Int)] 26)))
  have Y0 := Lib.hid (Bx.of (x := (⟨yd, yn, gy, yw, yc, cy⟩ : Stg)) (Blk.new (W.alloc (.cells #[.bool xd, .string xn, .int .i64 (gx : Int), .string xw, .string xc, .int .u64 (cx : Int)] 26)) 26 #[.bool yd, .string yn, .int .i64 (gy : Int), .string yw, .string yc, .int .u64 (cy : Int)]))
  have S0 := Lib.hid (((St.refl ht).alloc (.cells #[.bool xd, .string xn, .int .i64 (gx : Int), .string xw, .string xc, .int .u64 (cx : Int)] 26)).alloc (.cells #[.bool yd, .string yn, .int .i64 (gy : Int), .string yw, .string yc, .int .u64 (cy : Int)] 26))
  have DY := Lib.hid hDY
  have LY := Lib.hid hLY
  have FC := Lib.hid (fun W b hz => flipped_any b bit hz hbit W)
  have fine0 := F0
  clear fine0
  have z0 : (flipF hel bit).size ≤ 100000 := by have := flipF_size hel bit; omega
  have A1 : Hid (∀ V D K, Ss W V [(D, 83, d), (K, 83, l)] → Calls Tryd.prog 29 #[.pointer (some ⟨K, 0, none⟩), .string (flipF hel bit)] V (Saw W [(D, 83, d), (K, 83, l1)] (.tuple #[.string o1, .int .i64 e1]))) :=
    Lib.hid (fun V D K h => by have := h.take83 1 rfl G0 (flipF hel bit) z0; rw [h1] at this; exact this)
  have G1 : Fine l1 := by have := G0.take (flipF hel bit); rw [h1] at this; exact this
  have A2 : Hid (∀ V D K, Ss W V [(D, 83, d), (K, 83, l1)] → Calls Tryd.prog 28 #[.pointer (some ⟨K, 0, none⟩), .int .i64 1] V (Saw W [(D, 83, d), (K, 83, l2)] (.tuple #[.string o2, .int .i64 e2]))) :=
    Lib.hid (fun V D K h => by have := h.answer83 1 rfl G1 1; rw [h2] at this; exact this)
  have y2 : o2.size ≤ 100 := by have := answer_out l1 G1 1; rw [h2] at this; exact this
  have z1 : o2.size ≤ 100000 := by omega
  have A3 : Hid (∀ V D K, Ss W V [(D, 83, d), (K, 83, l2)] → Calls Tryd.prog 29 #[.pointer (some ⟨D, 0, none⟩), .string o2] V (Saw W [(D, 83, d1), (K, 83, l2)] (.tuple #[.string o3, .int .i64 e3]))) :=
    Lib.hid (fun V D K h => by have := h.take83 0 rfl F0 o2 z1; rw [h3] at this; exact this)
  have y2' := Lib.hid y2
  have G2 : Fine l2 := by have := G1.answer 1; rw [h2] at this; exact this
  have y3 : o3.size ≤ 100 := by have := take_out d o2; rw [h3] at this; exact this
  have z2 : o3.size ≤ 100000 := by omega
  have y3' := Lib.hid y3
  have A4 : Hid (∀ V D K, Ss W V [(D, 83, d1), (K, 83, l2)] → Calls Tryd.prog 29 #[.pointer (some ⟨K, 0, none⟩), .string o3] V (Saw W [(D, 83, d1), (K, 83, l3)] (.tuple #[.string o4, .int .i64 e4]))) :=
    Lib.hid (fun V D K h => by have := h.take83 1 rfl G2 o3 z2; rw [h4] at this; exact this)
  have F1 : Fine d1 := by have := F0.take o2; rw [h3] at this; exact this
  have y4 : o4.size ≤ 100 := by have := take_out l2 o3; rw [h4] at this; exact this
  have z3 : o4.size ≤ 100000 := by omega
  have y4' := Lib.hid y4
  have A5 : Hid (∀ V D K, Ss W V [(D, 83, d1), (K, 83, l3)] → Calls Tryd.prog 29 #[.pointer (some ⟨D, 0, none⟩), .string o4] V (Saw W [(D, 83, d2), (K, 83, l3)] (.tuple #[.string o5, .int .i64 e5]))) :=
    Lib.hid (fun V D K h => by have := h.take83 0 rfl F1 o4 z3; rw [h5] at this; exact this)
  have q1 : ((e1 : Int) != 0) = false := by rw [bne_eq_false_iff_eq]; omega
  have p1 : ((e1 : Int) == 0) = true := by rw [beq_iff_eq]; omega
  have q2 : ((e2 : Int) != 0) = false := by rw [bne_eq_false_iff_eq]; omega
  have p2 : ((e2 : Int) == 0) = true := by rw [beq_iff_eq]; omega
  have q3 : ((e3 : Int) != 0) = false := by rw [bne_eq_false_iff_eq]; omega
  have p3 : ((e3 : Int) == 0) = true := by rw [beq_iff_eq]; omega
  have q4 : ((e4 : Int) != 0) = false := by rw [bne_eq_false_iff_eq]; omega
  have p4 : ((e4 : Int) == 0) = true := by rw [beq_iff_eq]; omega
  have q5 : ((e5 : Int) != 0) = true := by rw [bne_iff_ne]; omega
  have p5 : ((e5 : Int) == 0) = false := by exact beq_eq_false_iff_ne.2 (by omega)
  have zh' := Lib.hid zh
  obtain ⟨cc, hcc⟩ : ∃ c, c = flipF hel bit := ⟨_, rfl⟩
  have FB : Hid (∀ W, hel.size ≤ 100000 → Calls Tryd.prog 20 #[.string hel, .int .u16 bit] W fun e w' => e = .returned (.string cc) ∧ Below W.heap.size W w') := Lib.hid (fun W h => by rw [hcc]; exact FC.out W hel h)
  rw [← hcc] at A1
  clear hcc
  clear ht hDY hLY F0 G0 zh hbit FC k1 k2 k3 k4 k5 h1 z0 G1 h2 y2 z1 h3 G2 y3 z2 h4 F1 y4 z3 h5
  unfold stgV
  go_enter Tryd.func21, Tryd.ntmps21
  obtain ⟨c0, c1, c2, c3, c4, c5⟩ := X0.out
  obtain ⟨d0, d1, d2, d3, d4, d5⟩ := Y0.out
  dsimp only at c0 c1 c2 c3 c4 c5
  simp only [World.size_alloc] at d0 d1 d2 d3 d4 d5
  have SS0 := Lib.hid (Ss.ofSt S0.out)
  go_wp2_with fail
  refine (DY.out _).mono ?_
  rintro e w1 ⟨D, rfl, gB, kB, b1⟩
  have SS1 := Lib.hid (SS0.out.add kB gB b1)
  clear c0 c1 c2 c3 c4 c5 d0 d1 d2 d3 d4 d5
  have X1 := Lib.hid (X0.out.below b1)
  have Y1 := Lib.hid (Y0.out.below b1)
  obtain ⟨c0, c1, c2, c3, c4, c5⟩ := X1.out
  obtain ⟨d0, d1, d2, d3, d4, d5⟩ := Y1.out
  dsimp only at c0 c1 c2 c3 c4 c5
  simp only [World.size_alloc] at d0 d1 d2 d3 d4 d5
  clear b1 SS0 X0 Y0 gB kB
  go_wp2_with fail
  refine (LY.out _).mono ?_
  rintro e w2 ⟨K, rfl, gB, kB, b2⟩
  have SS2 := Lib.hid (SS1.out.add kB gB b2)
  clear c0 c1 c2 c3 c4 c5 d0 d1 d2 d3 d4 d5
  have X2 := Lib.hid (X1.out.below b2)
  have Y2 := Lib.hid (Y1.out.below b2)
  clear b2 SS1 X1 Y1 gB kB
  clear X2 Y2 S0
  go_wp2_with fail
  refine wp_loop_rounds 5 ?_
  rw [rounds_succ]
  go_wp2_with fail
  refine (FB.out _ zh'.out).mono ?_
  rintro e w3 ⟨rfl, b3⟩
  have SS3 := Lib.hid (SS2.out.below b3)
  clear b3 SS2
  go_wp2_with fail
  refine (A1.out _ D K SS3.out).mono ?_
  rintro e w4 ⟨rfl, s4⟩
  have SS4 := Lib.hid s4
  clear s4 SS3
  go_wp2_with fail
  refine (A2.out _ D K SS4.out).mono ?_
  rintro e w5 ⟨rfl, s5⟩
  have SS5 := Lib.hid s5
  clear s5 SS4
  go_wp2_with fail
  rw [rounds_succ]
  go_wp2_with fail
  refine (A3.out _ D K SS5.out).mono ?_
  rintro e w6 ⟨rfl, s6⟩
  have SS6 := Lib.hid s6
  clear s6 SS5
  go_wp2_with fail
  rw [rounds_succ]
  go_wp2_with fail
  refine (A4.out _ D K SS6.out).mono ?_
  rintro e w7 ⟨rfl, s7⟩
  have SS7 := Lib.hid s7
  clear s7 SS6
  go_wp2_with fail
  rw [rounds_succ]
  go_wp2_with fail
  refine (A5.out _ D K SS7.out).mono ?_
  rintro e w8 ⟨rfl, s8⟩
  have SS8 := Lib.hid s8
  clear s8 SS7
  have j1 := (sd_cells (SS8.out.get 0 rfl)).c10
  have j2 := (sd_cells (SS8.out.get 1 rfl)).c10
  go_wp2_with fail
  go_quiet (fail)
  go_wp2
  go_ret2
  exact ⟨rfl, below_drewN SS8.out.st.bel _⟩
set_option maxRecDepth 100000 in
set_option maxHeartbeats 4000000 in
theorem spec1_A (xd yd : Bool) (xn xw xc yn yw yc : ByteArray) (gx gy cx cy : Nat) (bit : Nat) (hbit : bit ≤ 65535) (W : World) (ht : Tabs W) (d l : Sd) (hel : ByteArray)
    (hDY : ∀ W, Calls Tryd.prog 24 #[.agg #[.string xn, .int .i64 gx], .string xw, .string xc, .int .u64 cx] W (Made 83 d hel W)) (hLY : ∀ W, Calls Tryd.prog 25 #[.agg #[.string yn, .int .i64 gy], .string yc, .int .u64 cy] W (MadeL 83 l W))
    (F0 : Fine d) (G0 : Fine l) (zh : hel.size ≤ 100000) (l1 : Sd) (o1 : ByteArray) (e1 : Nat) (h1 : takeF l hel = (l1, o1, e1)) (k1 : e1 ≠ 0) :
    Calls Tryd.prog 21 #[stgV (⟨xd, xn, gx, xw, xc, cx⟩ : Stg), stgV (⟨yd, yn, gy, yw, yc, cy⟩ : Stg), .int .i64 1, .int .u16 bit] W fun e W' => e = .returned (.tuple #[.int .i64 d.state, .int .i64 l1.state]) ∧ Below W.heap.size W W' := by
  have X0 := Lib.hid (Bx.of (x := (⟨xd, xn, gx, xw, xc, cx⟩ : Stg)) ((Blk.new W 26 #[.bool xd, .string xn, .int .i64 (gx : Int), .string xw, .string xc, .int .u64 (cx : Int)]).alloc (.cells #[.bool yd, .string yn, .int .i64 (gy : Int), .string yw, .string yc, .int .u64 (cy : Int)] 26)))
  have Y0 := Lib.hid (Bx.of (x := (⟨yd, yn, gy, yw, yc, cy⟩ : Stg)) (Blk.new (W.alloc (.cells #[.bool xd, .string xn, .int .i64 (gx : Int), .string xw, .string xc, .int .u64 (cx : Int)] 26)) 26 #[.bool yd, .string yn, .int .i64 (gy : Int), .string yw, .string yc, .int .u64 (cy : Int)]))
  have S0 := Lib.hid (((St.refl ht).alloc (.cells #[.bool xd, .string xn, .int .i64 (gx : Int), .string xw, .string xc, .int .u64 (cx : Int)] 26)).alloc (.cells #[.bool yd, .string yn, .int .i64 (gy : Int), .string yw, .string yc, .int .u64 (cy : Int)] 26))
  have DY := Lib.hid hDY
  have LY := Lib.hid hLY
  have FC := Lib.hid (fun W b hz => flipped_any b bit hz hbit W)
  have fine0 := F0
  clear fine0
  have z0 : hel.size ≤ 100000 := by omega
  have A1 : Hid (∀ V D K, Ss W V [(D, 83, d), (K, 83, l)] → Calls Tryd.prog 29 #[.pointer (some ⟨K, 0, none⟩), .string hel] V (Saw W [(D, 83, d), (K, 83, l1)] (.tuple #[.string o1, .int .i64 e1]))) :=
    Lib.hid (fun V D K h => by have := h.take83 1 rfl G0 hel z0; rw [h1] at this; exact this)
  have q1 : ((e1 : Int) != 0) = true := by rw [bne_iff_ne]; omega
  have p1 : ((e1 : Int) == 0) = false := by exact beq_eq_false_iff_ne.2 (by omega)
  have zh' := Lib.hid zh
  clear ht hDY hLY F0 G0 zh hbit FC k1 h1 z0
  unfold stgV
  go_enter Tryd.func21, Tryd.ntmps21
  obtain ⟨c0, c1, c2, c3, c4, c5⟩ := X0.out
  obtain ⟨d0, d1, d2, d3, d4, d5⟩ := Y0.out
  dsimp only at c0 c1 c2 c3 c4 c5
  simp only [World.size_alloc] at d0 d1 d2 d3 d4 d5
  have SS0 := Lib.hid (Ss.ofSt S0.out)
  go_wp2_with fail
  refine (DY.out _).mono ?_
  rintro e w1 ⟨D, rfl, gB, kB, b1⟩
  have SS1 := Lib.hid (SS0.out.add kB gB b1)
  clear c0 c1 c2 c3 c4 c5 d0 d1 d2 d3 d4 d5
  have X1 := Lib.hid (X0.out.below b1)
  have Y1 := Lib.hid (Y0.out.below b1)
  obtain ⟨c0, c1, c2, c3, c4, c5⟩ := X1.out
  obtain ⟨d0, d1, d2, d3, d4, d5⟩ := Y1.out
  dsimp only at c0 c1 c2 c3 c4 c5
  simp only [World.size_alloc] at d0 d1 d2 d3 d4 d5
  clear b1 SS0 X0 Y0 gB kB
  go_wp2_with fail
  refine (LY.out _).mono ?_
  rintro e w2 ⟨K, rfl, gB, kB, b2⟩
  have SS2 := Lib.hid (SS1.out.add kB gB b2)
  clear c0 c1 c2 c3 c4 c5 d0 d1 d2 d3 d4 d5
  have X2 := Lib.hid (X1.out.below b2)
  have Y2 := Lib.hid (Y1.out.below b2)
  clear b2 SS1 X1 Y1 gB kB
  clear X2 Y2 S0
  go_wp2_with fail
  refine wp_loop_rounds 5 ?_
  rw [rounds_succ]
  go_wp2_with fail
  refine (A1.out _ D K SS2.out).mono ?_
  rintro e w3 ⟨rfl, s3⟩
  have SS3 := Lib.hid s3
  clear s3 SS2
  have j1 := (sd_cells (SS3.out.get 0 rfl)).c10
  have j2 := (sd_cells (SS3.out.get 1 rfl)).c10
  go_wp2_with fail
  go_quiet (fail)
  go_wp2
  go_ret2
  exact ⟨rfl, below_drewN SS3.out.st.bel _⟩
set_option maxRecDepth 100000 in
set_option maxHeartbeats 4000000 in
theorem spec1_B (xd yd : Bool) (xn xw xc yn yw yc : ByteArray) (gx gy cx cy : Nat) (bit : Nat) (hbit : bit ≤ 65535) (W : World) (ht : Tabs W) (d l : Sd) (hel : ByteArray)
    (hDY : ∀ W, Calls Tryd.prog 24 #[.agg #[.string xn, .int .i64 gx], .string xw, .string xc, .int .u64 cx] W (Made 83 d hel W)) (hLY : ∀ W, Calls Tryd.prog 25 #[.agg #[.string yn, .int .i64 gy], .string yc, .int .u64 cy] W (MadeL 83 l W))
    (F0 : Fine d) (G0 : Fine l) (zh : hel.size ≤ 100000) (l1 : Sd) (o1 : ByteArray) (e1 : Nat) (h1 : takeF l hel = (l1, o1, e1)) (k1 : e1 = 0) (l2 : Sd) (o2 : ByteArray) (e2 : Nat) (h2 : answerF l1 1 = (l2, o2, e2)) (k2 : e2 = 0) (d1 : Sd) (o3 : ByteArray) (e3 : Nat) (h3 : takeF d (flipF o2 bit) = (d1, o3, e3)) (k3 : e3 ≠ 0) :
    Calls Tryd.prog 21 #[stgV (⟨xd, xn, gx, xw, xc, cx⟩ : Stg), stgV (⟨yd, yn, gy, yw, yc, cy⟩ : Stg), .int .i64 1, .int .u16 bit] W fun e W' => e = .returned (.tuple #[.int .i64 d1.state, .int .i64 l2.state]) ∧ Below W.heap.size W W' := by
  have X0 := Lib.hid (Bx.of (x := (⟨xd, xn, gx, xw, xc, cx⟩ : Stg)) ((Blk.new W 26 #[.bool xd, .string xn, .int .i64 (gx : Int), .string xw, .string xc, .int .u64 (cx : Int)]).alloc (.cells #[.bool yd, .string yn, .int .i64 (gy : Int), .string yw, .string yc, .int .u64 (cy : Int)] 26)))
  have Y0 := Lib.hid (Bx.of (x := (⟨yd, yn, gy, yw, yc, cy⟩ : Stg)) (Blk.new (W.alloc (.cells #[.bool xd, .string xn, .int .i64 (gx : Int), .string xw, .string xc, .int .u64 (cx : Int)] 26)) 26 #[.bool yd, .string yn, .int .i64 (gy : Int), .string yw, .string yc, .int .u64 (cy : Int)]))
  have S0 := Lib.hid (((St.refl ht).alloc (.cells #[.bool xd, .string xn, .int .i64 (gx : Int), .string xw, .string xc, .int .u64 (cx : Int)] 26)).alloc (.cells #[.bool yd, .string yn, .int .i64 (gy : Int), .string yw, .string yc, .int .u64 (cy : Int)] 26))
  have DY := Lib.hid hDY
  have LY := Lib.hid hLY
  have FC := Lib.hid (fun W b hz => flipped_any b bit hz hbit W)
  have fine0 := F0
  clear fine0
  have z0 : hel.size ≤ 100000 := by omega
  have A1 : Hid (∀ V D K, Ss W V [(D, 83, d), (K, 83, l)] → Calls Tryd.prog 29 #[.pointer (some ⟨K, 0, none⟩), .string hel] V (Saw W [(D, 83, d), (K, 83, l1)] (.tuple #[.string o1, .int .i64 e1]))) :=
    Lib.hid (fun V D K h => by have := h.take83 1 rfl G0 hel z0; rw [h1] at this; exact this)
  have G1 : Fine l1 := by have := G0.take hel; rw [h1] at this; exact this
  have A2 : Hid (∀ V D K, Ss W V [(D, 83, d), (K, 83, l1)] → Calls Tryd.prog 28 #[.pointer (some ⟨K, 0, none⟩), .int .i64 1] V (Saw W [(D, 83, d), (K, 83, l2)] (.tuple #[.string o2, .int .i64 e2]))) :=
    Lib.hid (fun V D K h => by have := h.answer83 1 rfl G1 1; rw [h2] at this; exact this)
  have y2 : o2.size ≤ 100 := by have := answer_out l1 G1 1; rw [h2] at this; exact this
  have z1 : (flipF o2 bit).size ≤ 100000 := by have := flipF_size o2 bit; omega
  have A3 : Hid (∀ V D K, Ss W V [(D, 83, d), (K, 83, l2)] → Calls Tryd.prog 29 #[.pointer (some ⟨D, 0, none⟩), .string (flipF o2 bit)] V (Saw W [(D, 83, d1), (K, 83, l2)] (.tuple #[.string o3, .int .i64 e3]))) :=
    Lib.hid (fun V D K h => by have := h.take83 0 rfl F0 (flipF o2 bit) z1; rw [h3] at this; exact this)
  have y2' := Lib.hid y2
  have q1 : ((e1 : Int) != 0) = false := by rw [bne_eq_false_iff_eq]; omega
  have p1 : ((e1 : Int) == 0) = true := by rw [beq_iff_eq]; omega
  have q2 : ((e2 : Int) != 0) = false := by rw [bne_eq_false_iff_eq]; omega
  have p2 : ((e2 : Int) == 0) = true := by rw [beq_iff_eq]; omega
  have q3 : ((e3 : Int) != 0) = true := by rw [bne_iff_ne]; omega
  have p3 : ((e3 : Int) == 0) = false := by exact beq_eq_false_iff_ne.2 (by omega)
  have zh' := Lib.hid zh
  obtain ⟨cc, hcc⟩ : ∃ c, c = flipF o2 bit := ⟨_, rfl⟩
  have FB : Hid (∀ W, o2.size ≤ 100000 → Calls Tryd.prog 20 #[.string o2, .int .u16 bit] W fun e w' => e = .returned (.string cc) ∧ Below W.heap.size W w') := Lib.hid (fun W h => by rw [hcc]; exact FC.out W o2 h)
  rw [← hcc] at A3
  clear hcc
  clear ht hDY hLY F0 G0 zh hbit FC k1 k2 k3 h1 z0 G1 h2 y2 z1 h3
  unfold stgV
  go_enter Tryd.func21, Tryd.ntmps21
  obtain ⟨c0, c1, c2, c3, c4, c5⟩ := X0.out
  obtain ⟨d0, d1, d2, d3, d4, d5⟩ := Y0.out
  dsimp only at c0 c1 c2 c3 c4 c5
  simp only [World.size_alloc] at d0 d1 d2 d3 d4 d5
  have SS0 := Lib.hid (Ss.ofSt S0.out)
  go_wp2_with fail
  refine (DY.out _).mono ?_
  rintro e w1 ⟨D, rfl, gB, kB, b1⟩
  have SS1 := Lib.hid (SS0.out.add kB gB b1)
  clear c0 c1 c2 c3 c4 c5 d0 d1 d2 d3 d4 d5
  have X1 := Lib.hid (X0.out.below b1)
  have Y1 := Lib.hid (Y0.out.below b1)
  obtain ⟨c0, c1, c2, c3, c4, c5⟩ := X1.out
  obtain ⟨d0, d1, d2, d3, d4, d5⟩ := Y1.out
  dsimp only at c0 c1 c2 c3 c4 c5
  simp only [World.size_alloc] at d0 d1 d2 d3 d4 d5
  clear b1 SS0 X0 Y0 gB kB
  go_wp2_with fail
  refine (LY.out _).mono ?_
  rintro e w2 ⟨K, rfl, gB, kB, b2⟩
  have SS2 := Lib.hid (SS1.out.add kB gB b2)
  clear c0 c1 c2 c3 c4 c5 d0 d1 d2 d3 d4 d5
  have X2 := Lib.hid (X1.out.below b2)
  have Y2 := Lib.hid (Y1.out.below b2)
  clear b2 SS1 X1 Y1 gB kB
  clear X2 Y2 S0
  go_wp2_with fail
  refine wp_loop_rounds 5 ?_
  rw [rounds_succ]
  go_wp2_with fail
  refine (A1.out _ D K SS2.out).mono ?_
  rintro e w3 ⟨rfl, s3⟩
  have SS3 := Lib.hid s3
  clear s3 SS2
  go_wp2_with fail
  refine (A2.out _ D K SS3.out).mono ?_
  rintro e w4 ⟨rfl, s4⟩
  have SS4 := Lib.hid s4
  clear s4 SS3
  go_wp2_with fail
  rw [rounds_succ]
  go_wp2_with fail
  refine (FB.out _ (by have := y2'.out; omega)).mono ?_
  rintro e w5 ⟨rfl, b5⟩
  have SS5 := Lib.hid (SS4.out.below b5)
  clear b5 SS4
  go_wp2_with fail
  refine (A3.out _ D K SS5.out).mono ?_
  rintro e w6 ⟨rfl, s6⟩
  have SS6 := Lib.hid s6
  clear s6 SS5
  have j1 := (sd_cells (SS6.out.get 0 rfl)).c10
  have j2 := (sd_cells (SS6.out.get 1 rfl)).c10
  go_wp2_with fail
  go_quiet (fail)
  go_wp2
  go_ret2
  exact ⟨rfl, below_drewN SS6.out.st.bel _⟩
set_option maxRecDepth 100000 in
set_option maxHeartbeats 4000000 in
theorem spec1_C (xd yd : Bool) (xn xw xc yn yw yc : ByteArray) (gx gy cx cy : Nat) (bit : Nat) (hbit : bit ≤ 65535) (W : World) (ht : Tabs W) (d l : Sd) (hel : ByteArray)
    (hDY : ∀ W, Calls Tryd.prog 24 #[.agg #[.string xn, .int .i64 gx], .string xw, .string xc, .int .u64 cx] W (Made 83 d hel W)) (hLY : ∀ W, Calls Tryd.prog 25 #[.agg #[.string yn, .int .i64 gy], .string yc, .int .u64 cy] W (MadeL 83 l W))
    (F0 : Fine d) (G0 : Fine l) (zh : hel.size ≤ 100000) (l1 : Sd) (o1 : ByteArray) (e1 : Nat) (h1 : takeF l hel = (l1, o1, e1)) (k1 : e1 = 0) (l2 : Sd) (o2 : ByteArray) (e2 : Nat) (h2 : answerF l1 1 = (l2, o2, e2)) (k2 : e2 = 0) (d1 : Sd) (o3 : ByteArray) (e3 : Nat) (h3 : takeF d (flipF o2 bit) = (d1, o3, e3)) (k3 : e3 = 0) (l3 : Sd) (o4 : ByteArray) (e4 : Nat) (h4 : takeF l2 o3 = (l3, o4, e4)) (k4 : e4 ≠ 0) :
    Calls Tryd.prog 21 #[stgV (⟨xd, xn, gx, xw, xc, cx⟩ : Stg), stgV (⟨yd, yn, gy, yw, yc, cy⟩ : Stg), .int .i64 1, .int .u16 bit] W fun e W' => e = .returned (.tuple #[.int .i64 d1.state, .int .i64 l3.state]) ∧ Below W.heap.size W W' := by
  have X0 := Lib.hid (Bx.of (x := (⟨xd, xn, gx, xw, xc, cx⟩ : Stg)) ((Blk.new W 26 #[.bool xd, .string xn, .int .i64 (gx : Int), .string xw, .string xc, .int .u64 (cx : Int)]).alloc (.cells #[.bool yd, .string yn, .int .i64 (gy : Int), .string yw, .string yc, .int .u64 (cy : Int)] 26)))
  have Y0 := Lib.hid (Bx.of (x := (⟨yd, yn, gy, yw, yc, cy⟩ : Stg)) (Blk.new (W.alloc (.cells #[.bool xd, .string xn, .int .i64 (gx : Int), .string xw, .string xc, .int .u64 (cx : Int)] 26)) 26 #[.bool yd, .string yn, .int .i64 (gy : Int), .string yw, .string yc, .int .u64 (cy : Int)]))
  have S0 := Lib.hid (((St.refl ht).alloc (.cells #[.bool xd, .string xn, .int .i64 (gx : Int), .string xw, .string xc, .int .u64 (cx : Int)] 26)).alloc (.cells #[.bool yd, .string yn, .int .i64 (gy : Int), .string yw, .string yc, .int .u64 (cy : Int)] 26))
  have DY := Lib.hid hDY
  have LY := Lib.hid hLY
  have FC := Lib.hid (fun W b hz => flipped_any b bit hz hbit W)
  have fine0 := F0
  clear fine0
  have z0 : hel.size ≤ 100000 := by omega
  have A1 : Hid (∀ V D K, Ss W V [(D, 83, d), (K, 83, l)] → Calls Tryd.prog 29 #[.pointer (some ⟨K, 0, none⟩), .string hel] V (Saw W [(D, 83, d), (K, 83, l1)] (.tuple #[.string o1, .int .i64 e1]))) :=
    Lib.hid (fun V D K h => by have := h.take83 1 rfl G0 hel z0; rw [h1] at this; exact this)
  have G1 : Fine l1 := by have := G0.take hel; rw [h1] at this; exact this
  have A2 : Hid (∀ V D K, Ss W V [(D, 83, d), (K, 83, l1)] → Calls Tryd.prog 28 #[.pointer (some ⟨K, 0, none⟩), .int .i64 1] V (Saw W [(D, 83, d), (K, 83, l2)] (.tuple #[.string o2, .int .i64 e2]))) :=
    Lib.hid (fun V D K h => by have := h.answer83 1 rfl G1 1; rw [h2] at this; exact this)
  have y2 : o2.size ≤ 100 := by have := answer_out l1 G1 1; rw [h2] at this; exact this
  have z1 : (flipF o2 bit).size ≤ 100000 := by have := flipF_size o2 bit; omega
  have A3 : Hid (∀ V D K, Ss W V [(D, 83, d), (K, 83, l2)] → Calls Tryd.prog 29 #[.pointer (some ⟨D, 0, none⟩), .string (flipF o2 bit)] V (Saw W [(D, 83, d1), (K, 83, l2)] (.tuple #[.string o3, .int .i64 e3]))) :=
    Lib.hid (fun V D K h => by have := h.take83 0 rfl F0 (flipF o2 bit) z1; rw [h3] at this; exact this)
  have y2' := Lib.hid y2
  have G2 : Fine l2 := by have := G1.answer 1; rw [h2] at this; exact this
  have y3 : o3.size ≤ 100 := by have := take_out d (flipF o2 bit); rw [h3] at this; exact this
  have z2 : o3.size ≤ 100000 := by omega
  have y3' := Lib.hid y3
  have A4 : Hid (∀ V D K, Ss W V [(D, 83, d1), (K, 83, l2)] → Calls Tryd.prog 29 #[.pointer (some ⟨K, 0, none⟩), .string o3] V (Saw W [(D, 83, d1), (K, 83, l3)] (.tuple #[.string o4, .int .i64 e4]))) :=
    Lib.hid (fun V D K h => by have := h.take83 1 rfl G2 o3 z2; rw [h4] at this; exact this)
  have q1 : ((e1 : Int) != 0) = false := by rw [bne_eq_false_iff_eq]; omega
  have p1 : ((e1 : Int) == 0) = true := by rw [beq_iff_eq]; omega
  have q2 : ((e2 : Int) != 0) = false := by rw [bne_eq_false_iff_eq]; omega
  have p2 : ((e2 : Int) == 0) = true := by rw [beq_iff_eq]; omega
  have q3 : ((e3 : Int) != 0) = false := by rw [bne_eq_false_iff_eq]; omega
  have p3 : ((e3 : Int) == 0) = true := by rw [beq_iff_eq]; omega
  have q4 : ((e4 : Int) != 0) = true := by rw [bne_iff_ne]; omega
  have p4 : ((e4 : Int) == 0) = false := by exact beq_eq_false_iff_ne.2 (by omega)
  have zh' := Lib.hid zh
  obtain ⟨cc, hcc⟩ : ∃ c, c = flipF o2 bit := ⟨_, rfl⟩
  have FB : Hid (∀ W, o2.size ≤ 100000 → Calls Tryd.prog 20 #[.string o2, .int .u16 bit] W fun e w' => e = .returned (.string cc) ∧ Below W.heap.size W w') := Lib.hid (fun W h => by rw [hcc]; exact FC.out W o2 h)
  rw [← hcc] at A3
  clear hcc
  clear ht hDY hLY F0 G0 zh hbit FC k1 k2 k3 k4 h1 z0 G1 h2 y2 z1 h3 G2 y3 z2 h4
  unfold stgV
  go_enter Tryd.func21, Tryd.ntmps21
  obtain ⟨c0, c1, c2, c3, c4, c5⟩ := X0.out
  obtain ⟨d0, d1, d2, d3, d4, d5⟩ := Y0.out
  dsimp only at c0 c1 c2 c3 c4 c5
  simp only [World.size_alloc] at d0 d1 d2 d3 d4 d5
  have SS0 := Lib.hid (Ss.ofSt S0.out)
  go_wp2_with fail
  refine (DY.out _).mono ?_
  rintro e w1 ⟨D, rfl, gB, kB, b1⟩
  have SS1 := Lib.hid (SS0.out.add kB gB b1)
  clear c0 c1 c2 c3 c4 c5 d0 d1 d2 d3 d4 d5
  have X1 := Lib.hid (X0.out.below b1)
  have Y1 := Lib.hid (Y0.out.below b1)
  obtain ⟨c0, c1, c2, c3, c4, c5⟩ := X1.out
  obtain ⟨d0, d1, d2, d3, d4, d5⟩ := Y1.out
  dsimp only at c0 c1 c2 c3 c4 c5
  simp only [World.size_alloc] at d0 d1 d2 d3 d4 d5
  clear b1 SS0 X0 Y0 gB kB
  go_wp2_with fail
  refine (LY.out _).mono ?_
  rintro e w2 ⟨K, rfl, gB, kB, b2⟩
  have SS2 := Lib.hid (SS1.out.add kB gB b2)
  clear c0 c1 c2 c3 c4 c5 d0 d1 d2 d3 d4 d5
  have X2 := Lib.hid (X1.out.below b2)
  have Y2 := Lib.hid (Y1.out.below b2)
  clear b2 SS1 X1 Y1 gB kB
  clear X2 Y2 S0
  go_wp2_with fail
  refine wp_loop_rounds 5 ?_
  rw [rounds_succ]
  go_wp2_with fail
  refine (A1.out _ D K SS2.out).mono ?_
  rintro e w3 ⟨rfl, s3⟩
  have SS3 := Lib.hid s3
  clear s3 SS2
  go_wp2_with fail
  refine (A2.out _ D K SS3.out).mono ?_
  rintro e w4 ⟨rfl, s4⟩
  have SS4 := Lib.hid s4
  clear s4 SS3
  go_wp2_with fail
  rw [rounds_succ]
  go_wp2_with fail
  refine (FB.out _ (by have := y2'.out; omega)).mono ?_
  rintro e w5 ⟨rfl, b5⟩
  have SS5 := Lib.hid (SS4.out.below b5)
  clear b5 SS4
  go_wp2_with fail
  refine (A3.out _ D K SS5.out).mono ?_
  rintro e w6 ⟨rfl, s6⟩
  have SS6 := Lib.hid s6
  clear s6 SS5
  go_wp2_with fail
  rw [rounds_succ]
  go_wp2_with fail
  refine (A4.out _ D K SS6.out).mono ?_
  rintro e w7 ⟨rfl, s7⟩
  have SS7 := Lib.hid s7
  clear s7 SS6
  have j1 := (sd_cells (SS7.out.get 0 rfl)).c10
  have j2 := (sd_cells (SS7.out.get 1 rfl)).c10
  go_wp2_with fail
  go_quiet (fail)
  go_wp2
  go_ret2
  exact ⟨rfl, below_drewN SS7.out.st.bel _⟩
set_option maxRecDepth 100000 in
set_option maxHeartbeats 4000000 in
theorem spec1_D (xd yd : Bool) (xn xw xc yn yw yc : ByteArray) (gx gy cx cy : Nat) (bit : Nat) (hbit : bit ≤ 65535) (W : World) (ht : Tabs W) (d l : Sd) (hel : ByteArray)
    (hDY : ∀ W, Calls Tryd.prog 24 #[.agg #[.string xn, .int .i64 gx], .string xw, .string xc, .int .u64 cx] W (Made 83 d hel W)) (hLY : ∀ W, Calls Tryd.prog 25 #[.agg #[.string yn, .int .i64 gy], .string yc, .int .u64 cy] W (MadeL 83 l W))
    (F0 : Fine d) (G0 : Fine l) (zh : hel.size ≤ 100000) (l1 : Sd) (o1 : ByteArray) (e1 : Nat) (h1 : takeF l hel = (l1, o1, e1)) (k1 : e1 = 0) (l2 : Sd) (o2 : ByteArray) (e2 : Nat) (h2 : answerF l1 1 = (l2, o2, e2)) (k2 : e2 = 0) (d1 : Sd) (o3 : ByteArray) (e3 : Nat) (h3 : takeF d (flipF o2 bit) = (d1, o3, e3)) (k3 : e3 = 0) (l3 : Sd) (o4 : ByteArray) (e4 : Nat) (h4 : takeF l2 o3 = (l3, o4, e4)) (k4 : e4 = 0) (d2 : Sd) (o5 : ByteArray) (e5 : Nat) (h5 : takeF d1 o4 = (d2, o5, e5)) (k5 : e5 = 0) :
    Calls Tryd.prog 21 #[stgV (⟨xd, xn, gx, xw, xc, cx⟩ : Stg), stgV (⟨yd, yn, gy, yw, yc, cy⟩ : Stg), .int .i64 1, .int .u16 bit] W fun e W' => e = .returned (.tuple #[.int .i64 d2.state, .int .i64 l3.state]) ∧ Below W.heap.size W W' := by
  have X0 := Lib.hid (Bx.of (x := (⟨xd, xn, gx, xw, xc, cx⟩ : Stg)) ((Blk.new W 26 #[.bool xd, .string xn, .int .i64 (gx : Int), .string xw, .string xc, .int .u64 (cx : Int)]).alloc (.cells #[.bool yd, .string yn, .int .i64 (gy : Int), .string yw, .string yc, .int .u64 (cy : Int)] 26)))
  have Y0 := Lib.hid (Bx.of (x := (⟨yd, yn, gy, yw, yc, cy⟩ : Stg)) (Blk.new (W.alloc (.cells #[.bool xd, .string xn, .int .i64 (gx : Int), .string xw, .string xc, .int .u64 (cx : Int)] 26)) 26 #[.bool yd, .string yn, .int .i64 (gy : Int), .string yw, .string yc, .int .u64 (cy : Int)]))
  have S0 := Lib.hid (((St.refl ht).alloc (.cells #[.bool xd, .string xn, .int .i64 (gx : Int), .string xw, .string xc, .int .u64 (cx : Int)] 26)).alloc (.cells #[.bool yd, .string yn, .int .i64 (gy : Int), .string yw, .string yc, .int .u64 (cy : Int)] 26))
  have DY := Lib.hid hDY
  have LY := Lib.hid hLY
  have FC := Lib.hid (fun W b hz => flipped_any b bit hz hbit W)
  have fine0 := F0
  clear fine0
  have z0 : hel.size ≤ 100000 := by omega
  have A1 : Hid (∀ V D K, Ss W V [(D, 83, d), (K, 83, l)] → Calls Tryd.prog 29 #[.pointer (some ⟨K, 0, none⟩), .string hel] V (Saw W [(D, 83, d), (K, 83, l1)] (.tuple #[.string o1, .int .i64 e1]))) :=
    Lib.hid (fun V D K h => by have := h.take83 1 rfl G0 hel z0; rw [h1] at this; exact this)
  have G1 : Fine l1 := by have := G0.take hel; rw [h1] at this; exact this
  have A2 : Hid (∀ V D K, Ss W V [(D, 83, d), (K, 83, l1)] → Calls Tryd.prog 28 #[.pointer (some ⟨K, 0, none⟩), .int .i64 1] V (Saw W [(D, 83, d), (K, 83, l2)] (.tuple #[.string o2, .int .i64 e2]))) :=
    Lib.hid (fun V D K h => by have := h.answer83 1 rfl G1 1; rw [h2] at this; exact this)
  have y2 : o2.size ≤ 100 := by have := answer_out l1 G1 1; rw [h2] at this; exact this
  have z1 : (flipF o2 bit).size ≤ 100000 := by have := flipF_size o2 bit; omega
  have A3 : Hid (∀ V D K, Ss W V [(D, 83, d), (K, 83, l2)] → Calls Tryd.prog 29 #[.pointer (some ⟨D, 0, none⟩), .string (flipF o2 bit)] V (Saw W [(D, 83, d1), (K, 83, l2)] (.tuple #[.string o3, .int .i64 e3]))) :=
    Lib.hid (fun V D K h => by have := h.take83 0 rfl F0 (flipF o2 bit) z1; rw [h3] at this; exact this)
  have y2' := Lib.hid y2
  have G2 : Fine l2 := by have := G1.answer 1; rw [h2] at this; exact this
  have y3 : o3.size ≤ 100 := by have := take_out d (flipF o2 bit); rw [h3] at this; exact this
  have z2 : o3.size ≤ 100000 := by omega
  have y3' := Lib.hid y3
  have A4 : Hid (∀ V D K, Ss W V [(D, 83, d1), (K, 83, l2)] → Calls Tryd.prog 29 #[.pointer (some ⟨K, 0, none⟩), .string o3] V (Saw W [(D, 83, d1), (K, 83, l3)] (.tuple #[.string o4, .int .i64 e4]))) :=
    Lib.hid (fun V D K h => by have := h.take83 1 rfl G2 o3 z2; rw [h4] at this; exact this)
  have F1 : Fine d1 := by have := F0.take (flipF o2 bit); rw [h3] at this; exact this
  have y4 : o4.size ≤ 100 := by have := take_out l2 o3; rw [h4] at this; exact this
  have z3 : o4.size ≤ 100000 := by omega
  have y4' := Lib.hid y4
  have A5 : Hid (∀ V D K, Ss W V [(D, 83, d1), (K, 83, l3)] → Calls Tryd.prog 29 #[.pointer (some ⟨D, 0, none⟩), .string o4] V (Saw W [(D, 83, d2), (K, 83, l3)] (.tuple #[.string o5, .int .i64 e5]))) :=
    Lib.hid (fun V D K h => by have := h.take83 0 rfl F1 o4 z3; rw [h5] at this; exact this)
  have q1 : ((e1 : Int) != 0) = false := by rw [bne_eq_false_iff_eq]; omega
  have p1 : ((e1 : Int) == 0) = true := by rw [beq_iff_eq]; omega
  have q2 : ((e2 : Int) != 0) = false := by rw [bne_eq_false_iff_eq]; omega
  have p2 : ((e2 : Int) == 0) = true := by rw [beq_iff_eq]; omega
  have q3 : ((e3 : Int) != 0) = false := by rw [bne_eq_false_iff_eq]; omega
  have p3 : ((e3 : Int) == 0) = true := by rw [beq_iff_eq]; omega
  have q4 : ((e4 : Int) != 0) = false := by rw [bne_eq_false_iff_eq]; omega
  have p4 : ((e4 : Int) == 0) = true := by rw [beq_iff_eq]; omega
  have q5 : ((e5 : Int) != 0) = false := by rw [bne_eq_false_iff_eq]; omega
  have p5 : ((e5 : Int) == 0) = true := by rw [beq_iff_eq]; omega
  have zh' := Lib.hid zh
  obtain ⟨cc, hcc⟩ : ∃ c, c = flipF o2 bit := ⟨_, rfl⟩
  have FB : Hid (∀ W, o2.size ≤ 100000 → Calls Tryd.prog 20 #[.string o2, .int .u16 bit] W fun e w' => e = .returned (.string cc) ∧ Below W.heap.size W w') := Lib.hid (fun W h => by rw [hcc]; exact FC.out W o2 h)
  rw [← hcc] at A3
  clear hcc
  clear ht hDY hLY F0 G0 zh hbit FC k1 k2 k3 k4 k5 h1 z0 G1 h2 y2 z1 h3 G2 y3 z2 h4 F1 y4 z3 h5
  unfold stgV
  go_enter Tryd.func21, Tryd.ntmps21
  obtain ⟨c0, c1, c2, c3, c4, c5⟩ := X0.out
  obtain ⟨d0, d1, d2, d3, d4, d5⟩ := Y0.out
  dsimp only at c0 c1 c2 c3 c4 c5
  simp only [World.size_alloc] at d0 d1 d2 d3 d4 d5
  have SS0 := Lib.hid (Ss.ofSt S0.out)
  go_wp2_with fail
  refine (DY.out _).mono ?_
  rintro e w1 ⟨D, rfl, gB, kB, b1⟩
  have SS1 := Lib.hid (SS0.out.add kB gB b1)
  clear c0 c1 c2 c3 c4 c5 d0 d1 d2 d3 d4 d5
  have X1 := Lib.hid (X0.out.below b1)
  have Y1 := Lib.hid (Y0.out.below b1)
  obtain ⟨c0, c1, c2, c3, c4, c5⟩ := X1.out
  obtain ⟨d0, d1, d2, d3, d4, d5⟩ := Y1.out
  dsimp only at c0 c1 c2 c3 c4 c5
  simp only [World.size_alloc] at d0 d1 d2 d3 d4 d5
  clear b1 SS0 X0 Y0 gB kB
  go_wp2_with fail
  refine (LY.out _).mono ?_
  rintro e w2 ⟨K, rfl, gB, kB, b2⟩
  have SS2 := Lib.hid (SS1.out.add kB gB b2)
  clear c0 c1 c2 c3 c4 c5 d0 d1 d2 d3 d4 d5
  have X2 := Lib.hid (X1.out.below b2)
  have Y2 := Lib.hid (Y1.out.below b2)
  clear b2 SS1 X1 Y1 gB kB
  clear X2 Y2 S0
  go_wp2_with fail
  refine wp_loop_rounds 5 ?_
  rw [rounds_succ]
  go_wp2_with fail
  refine (A1.out _ D K SS2.out).mono ?_
  rintro e w3 ⟨rfl, s3⟩
  have SS3 := Lib.hid s3
  clear s3 SS2
  go_wp2_with fail
  refine (A2.out _ D K SS3.out).mono ?_
  rintro e w4 ⟨rfl, s4⟩
  have SS4 := Lib.hid s4
  clear s4 SS3
  go_wp2_with fail
  rw [rounds_succ]
  go_wp2_with fail
  refine (FB.out _ (by have := y2'.out; omega)).mono ?_
  rintro e w5 ⟨rfl, b5⟩
  have SS5 := Lib.hid (SS4.out.below b5)
  clear b5 SS4
  go_wp2_with fail
  refine (A3.out _ D K SS5.out).mono ?_
  rintro e w6 ⟨rfl, s6⟩
  have SS6 := Lib.hid s6
  clear s6 SS5
  go_wp2_with fail
  rw [rounds_succ]
  go_wp2_with fail
  refine (A4.out _ D K SS6.out).mono ?_
  rintro e w7 ⟨rfl, s7⟩
  have SS7 := Lib.hid s7
  clear s7 SS6
  go_wp2_with fail
  rw [rounds_succ]
  go_wp2_with fail
  refine (A5.out _ D K SS7.out).mono ?_
  rintro e w8 ⟨rfl, s8⟩
  have SS8 := Lib.hid s8
  clear s8 SS7
  go_wp2_with fail
  rw [rounds_succ]
  have j1 := (sd_cells (SS8.out.get 0 rfl)).c10
  have j2 := (sd_cells (SS8.out.get 1 rfl)).c10
  go_wp2_with fail
  go_quiet (fail)
  go_wp2
  go_ret2
  exact ⟨rfl, below_drewN SS8.out.st.bel _⟩
set_option maxRecDepth 100000 in
set_option maxHeartbeats 4000000 in
theorem spec1_E (xd yd : Bool) (xn xw xc yn yw yc : ByteArray) (gx gy cx cy : Nat) (bit : Nat) (hbit : bit ≤ 65535) (W : World) (ht : Tabs W) (d l : Sd) (hel : ByteArray)
    (hDY : ∀ W, Calls Tryd.prog 24 #[.agg #[.string xn, .int .i64 gx], .string xw, .string xc, .int .u64 cx] W (Made 83 d hel W)) (hLY : ∀ W, Calls Tryd.prog 25 #[.agg #[.string yn, .int .i64 gy], .string yc, .int .u64 cy] W (MadeL 83 l W))
    (F0 : Fine d) (G0 : Fine l) (zh : hel.size ≤ 100000) (l1 : Sd) (o1 : ByteArray) (e1 : Nat) (h1 : takeF l hel = (l1, o1, e1)) (k1 : e1 = 0) (l2 : Sd) (o2 : ByteArray) (e2 : Nat) (h2 : answerF l1 1 = (l2, o2, e2)) (k2 : e2 = 0) (d1 : Sd) (o3 : ByteArray) (e3 : Nat) (h3 : takeF d (flipF o2 bit) = (d1, o3, e3)) (k3 : e3 = 0) (l3 : Sd) (o4 : ByteArray) (e4 : Nat) (h4 : takeF l2 o3 = (l3, o4, e4)) (k4 : e4 = 0) (d2 : Sd) (o5 : ByteArray) (e5 : Nat) (h5 : takeF d1 o4 = (d2, o5, e5)) (k5 : e5 ≠ 0) :
    Calls Tryd.prog 21 #[stgV (⟨xd, xn, gx, xw, xc, cx⟩ : Stg), stgV (⟨yd, yn, gy, yw, yc, cy⟩ : Stg), .int .i64 1, .int .u16 bit] W fun e W' => e = .returned (.tuple #[.int .i64 d2.state, .int .i64 l3.state]) ∧ Below W.heap.size W W' := by
  have X0 := Lib.hid (Bx.of (x := (⟨xd, xn, gx, xw, xc, cx⟩ : Stg)) ((Blk.new W 26 #[.bool xd, .string xn, .int .i64 (gx : Int), .string xw, .string xc, .int .u64 (cx : Int)]).alloc (.cells #[.bool yd, .string yn, .int .i64 (gy : Int), .string yw, .string yc, .int .u64 (cy : Int)] 26)))
  have Y0 := Lib.hid (Bx.of (x := (⟨yd, yn, gy, yw, yc, cy⟩ : Stg)) (Blk.new (W.alloc (.cells #[.bool xd, .string xn, .int .i64 (gx : Int), .string xw, .string xc, .int .u64 (cx : Int)] 26)) 26 #[.bool yd, .string yn, .int .i64 (gy : Int), .string yw, .string yc, .int .u64 (cy : Int)]))
  have S0 := Lib.hid (((St.refl ht).alloc (.cells #[.bool xd, .string xn, .int .i64 (gx : Int), .string xw, .string xc, .int .u64 (cx : Int)] 26)).alloc (.cells #[.bool yd, .string yn, .int .i64 (gy : Int), .string yw, .string yc, .int .u64 (cy : Int)] 26))
  have DY := Lib.hid hDY
  have LY := Lib.hid hLY
  have FC := Lib.hid (fun W b hz => flipped_any b bit hz hbit W)
  have fine0 := F0
  clear fine0
  have z0 : hel.size ≤ 100000 := by omega
  have A1 : Hid (∀ V D K, Ss W V [(D, 83, d), (K, 83, l)] → Calls Tryd.prog 29 #[.pointer (some ⟨K, 0, none⟩), .string hel] V (Saw W [(D, 83, d), (K, 83, l1)] (.tuple #[.string o1, .int .i64 e1]))) :=
    Lib.hid (fun V D K h => by have := h.take83 1 rfl G0 hel z0; rw [h1] at this; exact this)
  have G1 : Fine l1 := by have := G0.take hel; rw [h1] at this; exact this
  have A2 : Hid (∀ V D K, Ss W V [(D, 83, d), (K, 83, l1)] → Calls Tryd.prog 28 #[.pointer (some ⟨K, 0, none⟩), .int .i64 1] V (Saw W [(D, 83, d), (K, 83, l2)] (.tuple #[.string o2, .int .i64 e2]))) :=
    Lib.hid (fun V D K h => by have := h.answer83 1 rfl G1 1; rw [h2] at this; exact this)
  have y2 : o2.size ≤ 100 := by have := answer_out l1 G1 1; rw [h2] at this; exact this
  have z1 : (flipF o2 bit).size ≤ 100000 := by have := flipF_size o2 bit; omega
  have A3 : Hid (∀ V D K, Ss W V [(D, 83, d), (K, 83, l2)] → Calls Tryd.prog 29 #[.pointer (some ⟨D, 0, none⟩), .string (flipF o2 bit)] V (Saw W [(D, 83, d1), (K, 83, l2)] (.tuple #[.string o3, .int .i64 e3]))) :=
    Lib.hid (fun V D K h => by have := h.take83 0 rfl F0 (flipF o2 bit) z1; rw [h3] at this; exact this)
  have y2' := Lib.hid y2
  have G2 : Fine l2 := by have := G1.answer 1; rw [h2] at this; exact this
  have y3 : o3.size ≤ 100 := by have := take_out d (flipF o2 bit); rw [h3] at this; exact this
  have z2 : o3.size ≤ 100000 := by omega
  have y3' := Lib.hid y3
  have A4 : Hid (∀ V D K, Ss W V [(D, 83, d1), (K, 83, l2)] → Calls Tryd.prog 29 #[.pointer (some ⟨K, 0, none⟩), .string o3] V (Saw W [(D, 83, d1), (K, 83, l3)] (.tuple #[.string o4, .int .i64 e4]))) :=
    Lib.hid (fun V D K h => by have := h.take83 1 rfl G2 o3 z2; rw [h4] at this; exact this)
  have F1 : Fine d1 := by have := F0.take (flipF o2 bit); rw [h3] at this; exact this
  have y4 : o4.size ≤ 100 := by have := take_out l2 o3; rw [h4] at this; exact this
  have z3 : o4.size ≤ 100000 := by omega
  have y4' := Lib.hid y4
  have A5 : Hid (∀ V D K, Ss W V [(D, 83, d1), (K, 83, l3)] → Calls Tryd.prog 29 #[.pointer (some ⟨D, 0, none⟩), .string o4] V (Saw W [(D, 83, d2), (K, 83, l3)] (.tuple #[.string o5, .int .i64 e5]))) :=
    Lib.hid (fun V D K h => by have := h.take83 0 rfl F1 o4 z3; rw [h5] at this; exact this)
  have q1 : ((e1 : Int) != 0) = false := by rw [bne_eq_false_iff_eq]; omega
  have p1 : ((e1 : Int) == 0) = true := by rw [beq_iff_eq]; omega
  have q2 : ((e2 : Int) != 0) = false := by rw [bne_eq_false_iff_eq]; omega
  have p2 : ((e2 : Int) == 0) = true := by rw [beq_iff_eq]; omega
  have q3 : ((e3 : Int) != 0) = false := by rw [bne_eq_false_iff_eq]; omega
  have p3 : ((e3 : Int) == 0) = true := by rw [beq_iff_eq]; omega
  have q4 : ((e4 : Int) != 0) = false := by rw [bne_eq_false_iff_eq]; omega
  have p4 : ((e4 : Int) == 0) = true := by rw [beq_iff_eq]; omega
  have q5 : ((e5 : Int) != 0) = true := by rw [bne_iff_ne]; omega
  have p5 : ((e5 : Int) == 0) = false := by exact beq_eq_false_iff_ne.2 (by omega)
  have zh' := Lib.hid zh
  obtain ⟨cc, hcc⟩ : ∃ c, c = flipF o2 bit := ⟨_, rfl⟩
  have FB : Hid (∀ W, o2.size ≤ 100000 → Calls Tryd.prog 20 #[.string o2, .int .u16 bit] W fun e w' => e = .returned (.string cc) ∧ Below W.heap.size W w') := Lib.hid (fun W h => by rw [hcc]; exact FC.out W o2 h)
  rw [← hcc] at A3
  clear hcc
  clear ht hDY hLY F0 G0 zh hbit FC k1 k2 k3 k4 k5 h1 z0 G1 h2 y2 z1 h3 G2 y3 z2 h4 F1 y4 z3 h5
  unfold stgV
  go_enter Tryd.func21, Tryd.ntmps21
  obtain ⟨c0, c1, c2, c3, c4, c5⟩ := X0.out
  obtain ⟨d0, d1, d2, d3, d4, d5⟩ := Y0.out
  dsimp only at c0 c1 c2 c3 c4 c5
  simp only [World.size_alloc] at d0 d1 d2 d3 d4 d5
  have SS0 := Lib.hid (Ss.ofSt S0.out)
  go_wp2_with fail
  refine (DY.out _).mono ?_
  rintro e w1 ⟨D, rfl, gB, kB, b1⟩
  have SS1 := Lib.hid (SS0.out.add kB gB b1)
  clear c0 c1 c2 c3 c4 c5 d0 d1 d2 d3 d4 d5
  have X1 := Lib.hid (X0.out.below b1)
  have Y1 := Lib.hid (Y0.out.below b1)
  obtain ⟨c0, c1, c2, c3, c4, c5⟩ := X1.out
  obtain ⟨d0, d1, d2, d3, d4, d5⟩ := Y1.out
  dsimp only at c0 c1 c2 c3 c4 c5
  simp only [World.size_alloc] at d0 d1 d2 d3 d4 d5
  clear b1 SS0 X0 Y0 gB kB
  go_wp2_with fail
  refine (LY.out _).mono ?_
  rintro e w2 ⟨K, rfl, gB, kB, b2⟩
  have SS2 := Lib.hid (SS1.out.add kB gB b2)
  clear c0 c1 c2 c3 c4 c5 d0 d1 d2 d3 d4 d5
  have X2 := Lib.hid (X1.out.below b2)
  have Y2 := Lib.hid (Y1.out.below b2)
  clear b2 SS1 X1 Y1 gB kB
  clear X2 Y2 S0
  go_wp2_with fail
  refine wp_loop_rounds 5 ?_
  rw [rounds_succ]
  go_wp2_with fail
  refine (A1.out _ D K SS2.out).mono ?_
  rintro e w3 ⟨rfl, s3⟩
  have SS3 := Lib.hid s3
  clear s3 SS2
  go_wp2_with fail
  refine (A2.out _ D K SS3.out).mono ?_
  rintro e w4 ⟨rfl, s4⟩
  have SS4 := Lib.hid s4
  clear s4 SS3
  go_wp2_with fail
  rw [rounds_succ]
  go_wp2_with fail
  refine (FB.out _ (by have := y2'.out; omega)).mono ?_
  rintro e w5 ⟨rfl, b5⟩
  have SS5 := Lib.hid (SS4.out.below b5)
  clear b5 SS4
  go_wp2_with fail
  refine (A3.out _ D K SS5.out).mono ?_
  rintro e w6 ⟨rfl, s6⟩
  have SS6 := Lib.hid s6
  clear s6 SS5
  go_wp2_with fail
  rw [rounds_succ]
  go_wp2_with fail
  refine (A4.out _ D K SS6.out).mono ?_
  rintro e w7 ⟨rfl, s7⟩
  have SS7 := Lib.hid s7
  clear s7 SS6
  go_wp2_with fail
  rw [rounds_succ]
  go_wp2_with fail
  refine (A5.out _ D K SS7.out).mono ?_
  rintro e w8 ⟨rfl, s8⟩
  have SS8 := Lib.hid s8
  clear s8 SS7
  have j1 := (sd_cells (SS8.out.get 0 rfl)).c10
  have j2 := (sd_cells (SS8.out.get 1 rfl)).c10
  go_wp2_with fail
  go_quiet (fail)
  go_wp2
  go_ret2
  exact ⟨rfl, below_drewN SS8.out.st.bel _⟩
set_option maxRecDepth 100000 in
set_option maxHeartbeats 4000000 in
theorem spec2_A (xd yd : Bool) (xn xw xc yn yw yc : ByteArray) (gx gy cx cy : Nat) (bit : Nat) (hbit : bit ≤ 65535) (W : World) (ht : Tabs W) (d l : Sd) (hel : ByteArray)
    (hDY : ∀ W, Calls Tryd.prog 24 #[.agg #[.string xn, .int .i64 gx], .string xw, .string xc, .int .u64 cx] W (Made 83 d hel W)) (hLY : ∀ W, Calls Tryd.prog 25 #[.agg #[.string yn, .int .i64 gy], .string yc, .int .u64 cy] W (MadeL 83 l W))
    (F0 : Fine d) (G0 : Fine l) (zh : hel.size ≤ 100000) (l1 : Sd) (o1 : ByteArray) (e1 : Nat) (h1 : takeF l hel = (l1, o1, e1)) (k1 : e1 ≠ 0) :
    Calls Tryd.prog 21 #[stgV (⟨xd, xn, gx, xw, xc, cx⟩ : Stg), stgV (⟨yd, yn, gy, yw, yc, cy⟩ : Stg), .int .i64 2, .int .u16 bit] W fun e W' => e = .returned (.tuple #[.int .i64 d.state, .int .i64 l1.state]) ∧ Below W.heap.size W W' := by
  have X0 := Lib.hid (Bx.of (x := (⟨xd, xn, gx, xw, xc, cx⟩ : Stg)) ((Blk.new W 26 #[.bool xd, .string xn, .int .i64 (gx : Int), .string xw, .string xc, .int .u64 (cx : Int)]).alloc (.cells #[.bool yd, .string yn, .int .i64 (gy : Int), .string yw, .string yc, .int .u64 (cy : Int)] 26)))
  have Y0 := Lib.hid (Bx.of (x := (⟨yd, yn, gy, yw, yc, cy⟩ : Stg)) (Blk.new (W.alloc (.cells #[.bool xd, .string xn, .int .i64 (gx : Int), .string xw, .string xc, .int .u64 (cx : Int)] 26)) 26 #[.bool yd, .string yn, .int .i64 (gy : Int), .string yw, .string yc, .int .u64 (cy : Int)]))
  have S0 := Lib.hid (((St.refl ht).alloc (.cells #[.bool xd, .string xn, .int .i64 (gx : Int), .string xw, .string xc, .int .u64 (cx : Int)] 26)).alloc (.cells #[.bool yd, .string yn, .int .i64 (gy : Int), .string yw, .string yc, .int .u64 (cy : Int)] 26))
  have DY := Lib.hid hDY
  have LY := Lib.hid hLY
  have FC := Lib.hid (fun W b hz => flipped_any b bit hz hbit W)
  have fine0 := F0
  clear fine0
  have z0 : hel.size ≤ 100000 := by omega
  have A1 : Hid (∀ V D K, Ss W V [(D, 83, d), (K, 83, l)] → Calls Tryd.prog 29 #[.pointer (some ⟨K, 0, none⟩), .string hel] V (Saw W [(D, 83, d), (K, 83, l1)] (.tuple #[.string o1, .int .i64 e1]))) :=
    Lib.hid (fun V D K h => by have := h.take83 1 rfl G0 hel z0; rw [h1] at this; exact this)
  have q1 : ((e1 : Int) != 0) = true := by rw [bne_iff_ne]; omega
  have p1 : ((e1 : Int) == 0) = false := by exact beq_eq_false_iff_ne.2 (by omega)
  have zh' := Lib.hid zh
  clear ht hDY hLY F0 G0 zh hbit FC k1 h1 z0
  unfold stgV
  go_enter Tryd.func21, Tryd.ntmps21
  obtain ⟨c0, c1, c2, c3, c4, c5⟩ := X0.out
  obtain ⟨d0, d1, d2, d3, d4, d5⟩ := Y0.out
  dsimp only at c0 c1 c2 c3 c4 c5
  simp only [World.size_alloc] at d0 d1 d2 d3 d4 d5
  have SS0 := Lib.hid (Ss.ofSt S0.out)
  go_wp2_with fail
  refine (DY.out _).mono ?_
  rintro e w1 ⟨D, rfl, gB, kB, b1⟩
  have SS1 := Lib.hid (SS0.out.add kB gB b1)
  clear c0 c1 c2 c3 c4 c5 d0 d1 d2 d3 d4 d5
  have X1 := Lib.hid (X0.out.below b1)
  have Y1 := Lib.hid (Y0.out.below b1)
  obtain ⟨c0, c1, c2, c3, c4, c5⟩ := X1.out
  obtain ⟨d0, d1, d2, d3, d4, d5⟩ := Y1.out
  dsimp only at c0 c1 c2 c3 c4 c5
  simp only [World.size_alloc] at d0 d1 d2 d3 d4 d5
  clear b1 SS0 X0 Y0 gB kB
  go_wp2_with fail
  refine (LY.out _).mono ?_
  rintro e w2 ⟨K, rfl, gB, kB, b2⟩
  have SS2 := Lib.hid (SS1.out.add kB gB b2)
  clear c0 c1 c2 c3 c4 c5 d0 d1 d2 d3 d4 d5
  have X2 := Lib.hid (X1.out.below b2)
  have Y2 := Lib.hid (Y1.out.below b2)
  clear b2 SS1 X1 Y1 gB kB
  clear X2 Y2 S0
  go_wp2_with fail
  refine wp_loop_rounds 5 ?_
  rw [rounds_succ]
  go_wp2_with fail
  refine (A1.out _ D K SS2.out).mono ?_
  rintro e w3 ⟨rfl, s3⟩
  have SS3 := Lib.hid s3
  clear s3 SS2
  have j1 := (sd_cells (SS3.out.get 0 rfl)).c10
  have j2 := (sd_cells (SS3.out.get 1 rfl)).c10
  go_wp2_with fail
  go_quiet (fail)
  go_wp2
  go_ret2
  exact ⟨rfl, below_drewN SS3.out.st.bel _⟩
set_option maxRecDepth 100000 in
set_option maxHeartbeats 4000000 in
theorem spec2_B (xd yd : Bool) (xn xw xc yn yw yc : ByteArray) (gx gy cx cy : Nat) (bit : Nat) (hbit : bit ≤ 65535) (W : World) (ht : Tabs W) (d l : Sd) (hel : ByteArray)
    (hDY : ∀ W, Calls Tryd.prog 24 #[.agg #[.string xn, .int .i64 gx], .string xw, .string xc, .int .u64 cx] W (Made 83 d hel W)) (hLY : ∀ W, Calls Tryd.prog 25 #[.agg #[.string yn, .int .i64 gy], .string yc, .int .u64 cy] W (MadeL 83 l W))
    (F0 : Fine d) (G0 : Fine l) (zh : hel.size ≤ 100000) (l1 : Sd) (o1 : ByteArray) (e1 : Nat) (h1 : takeF l hel = (l1, o1, e1)) (k1 : e1 = 0) (l2 : Sd) (o2 : ByteArray) (e2 : Nat) (h2 : answerF l1 1 = (l2, o2, e2)) (k2 : e2 = 0) (d1 : Sd) (o3 : ByteArray) (e3 : Nat) (h3 : takeF d o2 = (d1, o3, e3)) (k3 : e3 ≠ 0) :
    Calls Tryd.prog 21 #[stgV (⟨xd, xn, gx, xw, xc, cx⟩ : Stg), stgV (⟨yd, yn, gy, yw, yc, cy⟩ : Stg), .int .i64 2, .int .u16 bit] W fun e W' => e = .returned (.tuple #[.int .i64 d1.state, .int .i64 l2.state]) ∧ Below W.heap.size W W' := by
  have X0 := Lib.hid (Bx.of (x := (⟨xd, xn, gx, xw, xc, cx⟩ : Stg)) ((Blk.new W 26 #[.bool xd, .string xn, .int .i64 (gx : Int), .string xw, .string xc, .int .u64 (cx : Int)]).alloc (.cells #[.bool yd, .string yn, .int .i64 (gy : Int), .string yw, .string yc, .int .u64 (cy : Int)] 26)))
  have Y0 := Lib.hid (Bx.of (x := (⟨yd, yn, gy, yw, yc, cy⟩ : Stg)) (Blk.new (W.alloc (.cells #[.bool xd, .string xn, .int .i64 (gx : Int), .string xw, .string xc, .int .u64 (cx : Int)] 26)) 26 #[.bool yd, .string yn, .int .i64 (gy : Int), .string yw, .string yc, .int .u64 (cy : Int)]))
  have S0 := Lib.hid (((St.refl ht).alloc (.cells #[.bool xd, .string xn, .int .i64 (gx : Int), .string xw, .string xc, .int .u64 (cx : Int)] 26)).alloc (.cells #[.bool yd, .string yn, .int .i64 (gy : Int), .string yw, .string yc, .int .u64 (cy : Int)] 26))
  have DY := Lib.hid hDY
  have LY := Lib.hid hLY
  have FC := Lib.hid (fun W b hz => flipped_any b bit hz hbit W)
  have fine0 := F0
  clear fine0
  have z0 : hel.size ≤ 100000 := by omega
  have A1 : Hid (∀ V D K, Ss W V [(D, 83, d), (K, 83, l)] → Calls Tryd.prog 29 #[.pointer (some ⟨K, 0, none⟩), .string hel] V (Saw W [(D, 83, d), (K, 83, l1)] (.tuple #[.string o1, .int .i64 e1]))) :=
    Lib.hid (fun V D K h => by have := h.take83 1 rfl G0 hel z0; rw [h1] at this; exact this)
  have G1 : Fine l1 := by have := G0.take hel; rw [h1] at this; exact this
  have A2 : Hid (∀ V D K, Ss W V [(D, 83, d), (K, 83, l1)] → Calls Tryd.prog 28 #[.pointer (some ⟨K, 0, none⟩), .int .i64 1] V (Saw W [(D, 83, d), (K, 83, l2)] (.tuple #[.string o2, .int .i64 e2]))) :=
    Lib.hid (fun V D K h => by have := h.answer83 1 rfl G1 1; rw [h2] at this; exact this)
  have y2 : o2.size ≤ 100 := by have := answer_out l1 G1 1; rw [h2] at this; exact this
  have z1 : o2.size ≤ 100000 := by omega
  have A3 : Hid (∀ V D K, Ss W V [(D, 83, d), (K, 83, l2)] → Calls Tryd.prog 29 #[.pointer (some ⟨D, 0, none⟩), .string o2] V (Saw W [(D, 83, d1), (K, 83, l2)] (.tuple #[.string o3, .int .i64 e3]))) :=
    Lib.hid (fun V D K h => by have := h.take83 0 rfl F0 o2 z1; rw [h3] at this; exact this)
  have y2' := Lib.hid y2
  have q1 : ((e1 : Int) != 0) = false := by rw [bne_eq_false_iff_eq]; omega
  have p1 : ((e1 : Int) == 0) = true := by rw [beq_iff_eq]; omega
  have q2 : ((e2 : Int) != 0) = false := by rw [bne_eq_false_iff_eq]; omega
  have p2 : ((e2 : Int) == 0) = true := by rw [beq_iff_eq]; omega
  have q3 : ((e3 : Int) != 0) = true := by rw [bne_iff_ne]; omega
  have p3 : ((e3 : Int) == 0) = false := by exact beq_eq_false_iff_ne.2 (by omega)
  have zh' := Lib.hid zh
  clear ht hDY hLY F0 G0 zh hbit FC k1 k2 k3 h1 z0 G1 h2 y2 z1 h3
  unfold stgV
  go_enter Tryd.func21, Tryd.ntmps21
  obtain ⟨c0, c1, c2, c3, c4, c5⟩ := X0.out
  obtain ⟨d0, d1, d2, d3, d4, d5⟩ := Y0.out
  dsimp only at c0 c1 c2 c3 c4 c5
  simp only [World.size_alloc] at d0 d1 d2 d3 d4 d5
  have SS0 := Lib.hid (Ss.ofSt S0.out)
  go_wp2_with fail
  refine (DY.out _).mono ?_
  rintro e w1 ⟨D, rfl, gB, kB, b1⟩
  have SS1 := Lib.hid (SS0.out.add kB gB b1)
  clear c0 c1 c2 c3 c4 c5 d0 d1 d2 d3 d4 d5
  have X1 := Lib.hid (X0.out.below b1)
  have Y1 := Lib.hid (Y0.out.below b1)
  obtain ⟨c0, c1, c2, c3, c4, c5⟩ := X1.out
  obtain ⟨d0, d1, d2, d3, d4, d5⟩ := Y1.out
  dsimp only at c0 c1 c2 c3 c4 c5
  simp only [World.size_alloc] at d0 d1 d2 d3 d4 d5
  clear b1 SS0 X0 Y0 gB kB
  go_wp2_with fail
  refine (LY.out _).mono ?_
  rintro e w2 ⟨K, rfl, gB, kB, b2⟩
  have SS2 := Lib.hid (SS1.out.add kB gB b2)
  clear c0 c1 c2 c3 c4 c5 d0 d1 d2 d3 d4 d5
  have X2 := Lib.hid (X1.out.below b2)
  have Y2 := Lib.hid (Y1.out.below b2)
  clear b2 SS1 X1 Y1 gB kB
  clear X2 Y2 S0
  go_wp2_with fail
  refine wp_loop_rounds 5 ?_
  rw [rounds_succ]
  go_wp2_with fail
  refine (A1.out _ D K SS2.out).mono ?_
  rintro e w3 ⟨rfl, s3⟩
  have SS3 := Lib.hid s3
  clear s3 SS2
  go_wp2_with fail
  refine (A2.out _ D K SS3.out).mono ?_
  rintro e w4 ⟨rfl, s4⟩
  have SS4 := Lib.hid s4
  clear s4 SS3
  go_wp2_with fail
  rw [rounds_succ]
  go_wp2_with fail
  refine (A3.out _ D K SS4.out).mono ?_
  rintro e w5 ⟨rfl, s5⟩
  have SS5 := Lib.hid s5
  clear s5 SS4
  have j1 := (sd_cells (SS5.out.get 0 rfl)).c10
  have j2 := (sd_cells (SS5.out.get 1 rfl)).c10
  go_wp2_with fail
  go_quiet (fail)
  go_wp2
  go_ret2
  exact ⟨rfl, below_drewN SS5.out.st.bel _⟩
set_option maxRecDepth 100000 in
set_option maxHeartbeats 4000000 in
theorem spec2_C (xd yd : Bool) (xn xw xc yn yw yc : ByteArray) (gx gy cx cy : Nat) (bit : Nat) (hbit : bit ≤ 65535) (W : World) (ht : Tabs W) (d l : Sd) (hel : ByteArray)
    (hDY : ∀ W, Calls Tryd.prog 24 #[.agg #[.string xn, .int .i64 gx], .string xw, .string xc, .int .u64 cx] W (Made 83 d hel W)) (hLY : ∀ W, Calls Tryd.prog 25 #[.agg #[.string yn, .int .i64 gy], .string yc, .int .u64 cy] W (MadeL 83 l W))
    (F0 : Fine d) (G0 : Fine l) (zh : hel.size ≤ 100000) (l1 : Sd) (o1 : ByteArray) (e1 : Nat) (h1 : takeF l hel = (l1, o1, e1)) (k1 : e1 = 0) (l2 : Sd) (o2 : ByteArray) (e2 : Nat) (h2 : answerF l1 1 = (l2, o2, e2)) (k2 : e2 = 0) (d1 : Sd) (o3 : ByteArray) (e3 : Nat) (h3 : takeF d o2 = (d1, o3, e3)) (k3 : e3 = 0) (l3 : Sd) (o4 : ByteArray) (e4 : Nat) (h4 : takeF l2 (flipF o3 bit) = (l3, o4, e4)) (k4 : e4 ≠ 0) :
    Calls Tryd.prog 21 #[stgV (⟨xd, xn, gx, xw, xc, cx⟩ : Stg), stgV (⟨yd, yn, gy, yw, yc, cy⟩ : Stg), .int .i64 2, .int .u16 bit] W fun e W' => e = .returned (.tuple #[.int .i64 d1.state, .int .i64 l3.state]) ∧ Below W.heap.size W W' := by
  have X0 := Lib.hid (Bx.of (x := (⟨xd, xn, gx, xw, xc, cx⟩ : Stg)) ((Blk.new W 26 #[.bool xd, .string xn, .int .i64 (gx : Int), .string xw, .string xc, .int .u64 (cx : Int)]).alloc (.cells #[.bool yd, .string yn, .int .i64 (gy : Int), .string yw, .string yc, .int .u64 (cy : Int)] 26)))
  have Y0 := Lib.hid (Bx.of (x := (⟨yd, yn, gy, yw, yc, cy⟩ : Stg)) (Blk.new (W.alloc (.cells #[.bool xd, .string xn, .int .i64 (gx : Int), .string xw, .string xc, .int .u64 (cx : Int)] 26)) 26 #[.bool yd, .string yn, .int .i64 (gy : Int), .string yw, .string yc, .int .u64 (cy : Int)]))
  have S0 := Lib.hid (((St.refl ht).alloc (.cells #[.bool xd, .string xn, .int .i64 (gx : Int), .string xw, .string xc, .int .u64 (cx : Int)] 26)).alloc (.cells #[.bool yd, .string yn, .int .i64 (gy : Int), .string yw, .string yc, .int .u64 (cy : Int)] 26))
  have DY := Lib.hid hDY
  have LY := Lib.hid hLY
  have FC := Lib.hid (fun W b hz => flipped_any b bit hz hbit W)
  have fine0 := F0
  clear fine0
  have z0 : hel.size ≤ 100000 := by omega
  have A1 : Hid (∀ V D K, Ss W V [(D, 83, d), (K, 83, l)] → Calls Tryd.prog 29 #[.pointer (some ⟨K, 0, none⟩), .string hel] V (Saw W [(D, 83, d), (K, 83, l1)] (.tuple #[.string o1, .int .i64 e1]))) :=
    Lib.hid (fun V D K h => by have := h.take83 1 rfl G0 hel z0; rw [h1] at this; exact this)
  have G1 : Fine l1 := by have := G0.take hel; rw [h1] at this; exact this
  have A2 : Hid (∀ V D K, Ss W V [(D, 83, d), (K, 83, l1)] → Calls Tryd.prog 28 #[.pointer (some ⟨K, 0, none⟩), .int .i64 1] V (Saw W [(D, 83, d), (K, 83, l2)] (.tuple #[.string o2, .int .i64 e2]))) :=
    Lib.hid (fun V D K h => by have := h.answer83 1 rfl G1 1; rw [h2] at this; exact this)
  have y2 : o2.size ≤ 100 := by have := answer_out l1 G1 1; rw [h2] at this; exact this
  have z1 : o2.size ≤ 100000 := by omega
  have A3 : Hid (∀ V D K, Ss W V [(D, 83, d), (K, 83, l2)] → Calls Tryd.prog 29 #[.pointer (some ⟨D, 0, none⟩), .string o2] V (Saw W [(D, 83, d1), (K, 83, l2)] (.tuple #[.string o3, .int .i64 e3]))) :=
    Lib.hid (fun V D K h => by have := h.take83 0 rfl F0 o2 z1; rw [h3] at this; exact this)
  have y2' := Lib.hid y2
  have G2 : Fine l2 := by have := G1.answer 1; rw [h2] at this; exact this
  have y3 : o3.size ≤ 100 := by have := take_out d o2; rw [h3] at this; exact this
  have z2 : (flipF o3 bit).size ≤ 100000 := by have := flipF_size o3 bit; omega
  have y3' := Lib.hid y3
  have A4 : Hid (∀ V D K, Ss W V [(D, 83, d1), (K, 83, l2)] → Calls Tryd.prog 29 #[.pointer (some ⟨K, 0, none⟩), .string (flipF o3 bit)] V (Saw W [(D, 83, d1), (K, 83, l3)] (.tuple #[.string o4, .int .i64 e4]))) :=
    Lib.hid (fun V D K h => by have := h.take83 1 rfl G2 (flipF o3 bit) z2; rw [h4] at this; exact this)
  have q1 : ((e1 : Int) != 0) = false := by rw [bne_eq_false_iff_eq]; omega
  have p1 : ((e1 : Int) == 0) = true := by rw [beq_iff_eq]; omega
  have q2 : ((e2 : Int) != 0) = false := by rw [bne_eq_false_iff_eq]; omega
  have p2 : ((e2 : Int) == 0) = true := by rw [beq_iff_eq]; omega
  have q3 : ((e3 : Int) != 0) = false := by rw [bne_eq_false_iff_eq]; omega
  have p3 : ((e3 : Int) == 0) = true := by rw [beq_iff_eq]; omega
  have q4 : ((e4 : Int) != 0) = true := by rw [bne_iff_ne]; omega
  have p4 : ((e4 : Int) == 0) = false := by exact beq_eq_false_iff_ne.2 (by omega)
  have zh' := Lib.hid zh
  obtain ⟨cc, hcc⟩ : ∃ c, c = flipF o3 bit := ⟨_, rfl⟩
  have FB : Hid (∀ W, o3.size ≤ 100000 → Calls Tryd.prog 20 #[.string o3, .int .u16 bit] W fun e w' => e = .returned (.string cc) ∧ Below W.heap.size W w') := Lib.hid (fun W h => by rw [hcc]; exact FC.out W o3 h)
  rw [← hcc] at A4
  clear hcc
  clear ht hDY hLY F0 G0 zh hbit FC k1 k2 k3 k4 h1 z0 G1 h2 y2 z1 h3 G2 y3 z2 h4
  unfold stgV
  go_enter Tryd.func21, Tryd.ntmps21
  obtain ⟨c0, c1, c2, c3, c4, c5⟩ := X0.out
  obtain ⟨d0, d1, d2, d3, d4, d5⟩ := Y0.out
  dsimp only at c0 c1 c2 c3 c4 c5
  simp only [World.size_alloc] at d0 d1 d2 d3 d4 d5
  have SS0 := Lib.hid (Ss.ofSt S0.out)
  go_wp2_with fail
  refine (DY.out _).mono ?_
  rintro e w1 ⟨D, rfl, gB, kB, b1⟩
  have SS1 := Lib.hid (SS0.out.add kB gB b1)
  clear c0 c1 c2 c3 c4 c5 d0 d1 d2 d3 d4 d5
  have X1 := Lib.hid (X0.out.below b1)
  have Y1 := Lib.hid (Y0.out.below b1)
  obtain ⟨c0, c1, c2, c3, c4, c5⟩ := X1.out
  obtain ⟨d0, d1, d2, d3, d4, d5⟩ := Y1.out
  dsimp only at c0 c1 c2 c3 c4 c5
  simp only [World.size_alloc] at d0 d1 d2 d3 d4 d5
  clear b1 SS0 X0 Y0 gB kB
  go_wp2_with fail
  refine (LY.out _).mono ?_
  rintro e w2 ⟨K, rfl, gB, kB, b2⟩
  have SS2 := Lib.hid (SS1.out.add kB gB b2)
  clear c0 c1 c2 c3 c4 c5 d0 d1 d2 d3 d4 d5
  have X2 := Lib.hid (X1.out.below b2)
  have Y2 := Lib.hid (Y1.out.below b2)
  clear b2 SS1 X1 Y1 gB kB
  clear X2 Y2 S0
  go_wp2_with fail
  refine wp_loop_rounds 5 ?_
  rw [rounds_succ]
  go_wp2_with fail
  refine (A1.out _ D K SS2.out).mono ?_
  rintro e w3 ⟨rfl, s3⟩
  have SS3 := Lib.hid s3
  clear s3 SS2
  go_wp2_with fail
  refine (A2.out _ D K SS3.out).mono ?_
  rintro e w4 ⟨rfl, s4⟩
  have SS4 := Lib.hid s4
  clear s4 SS3
  go_wp2_with fail
  rw [rounds_succ]
  go_wp2_with fail
  refine (A3.out _ D K SS4.out).mono ?_
  rintro e w5 ⟨rfl, s5⟩
  have SS5 := Lib.hid s5
  clear s5 SS4
  go_wp2_with fail
  rw [rounds_succ]
  go_wp2_with fail
  refine (FB.out _ (by have := y3'.out; omega)).mono ?_
  rintro e w6 ⟨rfl, b6⟩
  have SS6 := Lib.hid (SS5.out.below b6)
  clear b6 SS5
  go_wp2_with fail
  refine (A4.out _ D K SS6.out).mono ?_
  rintro e w7 ⟨rfl, s7⟩
  have SS7 := Lib.hid s7
  clear s7 SS6
  have j1 := (sd_cells (SS7.out.get 0 rfl)).c10
  have j2 := (sd_cells (SS7.out.get 1 rfl)).c10
  go_wp2_with fail
  go_quiet (fail)
  go_wp2
  go_ret2
  exact ⟨rfl, below_drewN SS7.out.st.bel _⟩
set_option maxRecDepth 100000 in
set_option maxHeartbeats 4000000 in
theorem spec2_D (xd yd : Bool) (xn xw xc yn yw yc : ByteArray) (gx gy cx cy : Nat) (bit : Nat) (hbit : bit ≤ 65535) (W : World) (ht : Tabs W) (d l : Sd) (hel : ByteArray)
    (hDY : ∀ W, Calls Tryd.prog 24 #[.agg #[.string xn, .int .i64 gx], .string xw, .string xc, .int .u64 cx] W (Made 83 d hel W)) (hLY : ∀ W, Calls Tryd.prog 25 #[.agg #[.string yn, .int .i64 gy], .string yc, .int .u64 cy] W (MadeL 83 l W))
    (F0 : Fine d) (G0 : Fine l) (zh : hel.size ≤ 100000) (l1 : Sd) (o1 : ByteArray) (e1 : Nat) (h1 : takeF l hel = (l1, o1, e1)) (k1 : e1 = 0) (l2 : Sd) (o2 : ByteArray) (e2 : Nat) (h2 : answerF l1 1 = (l2, o2, e2)) (k2 : e2 = 0) (d1 : Sd) (o3 : ByteArray) (e3 : Nat) (h3 : takeF d o2 = (d1, o3, e3)) (k3 : e3 = 0) (l3 : Sd) (o4 : ByteArray) (e4 : Nat) (h4 : takeF l2 (flipF o3 bit) = (l3, o4, e4)) (k4 : e4 = 0) (d2 : Sd) (o5 : ByteArray) (e5 : Nat) (h5 : takeF d1 o4 = (d2, o5, e5)) (k5 : e5 = 0) :
    Calls Tryd.prog 21 #[stgV (⟨xd, xn, gx, xw, xc, cx⟩ : Stg), stgV (⟨yd, yn, gy, yw, yc, cy⟩ : Stg), .int .i64 2, .int .u16 bit] W fun e W' => e = .returned (.tuple #[.int .i64 d2.state, .int .i64 l3.state]) ∧ Below W.heap.size W W' := by
  have X0 := Lib.hid (Bx.of (x := (⟨xd, xn, gx, xw, xc, cx⟩ : Stg)) ((Blk.new W 26 #[.bool xd, .string xn, .int .i64 (gx : Int), .string xw, .string xc, .int .u64 (cx : Int)]).alloc (.cells #[.bool yd, .string yn, .int .i64 (gy : Int), .string yw, .string yc, .int .u64 (cy : Int)] 26)))
  have Y0 := Lib.hid (Bx.of (x := (⟨yd, yn, gy, yw, yc, cy⟩ : Stg)) (Blk.new (W.alloc (.cells #[.bool xd, .string xn, .int .i64 (gx : Int), .string xw, .string xc, .int .u64 (cx : Int)] 26)) 26 #[.bool yd, .string yn, .int .i64 (gy : Int), .string yw, .string yc, .int .u64 (cy : Int)]))
  have S0 := Lib.hid (((St.refl ht).alloc (.cells #[.bool xd, .string xn, .int .i64 (gx : Int), .string xw, .string xc, .int .u64 (cx : Int)] 26)).alloc (.cells #[.bool yd, .string yn, .int .i64 (gy : Int), .string yw, .string yc, .int .u64 (cy : Int)] 26))
  have DY := Lib.hid hDY
  have LY := Lib.hid hLY
  have FC := Lib.hid (fun W b hz => flipped_any b bit hz hbit W)
  have fine0 := F0
  clear fine0
  have z0 : hel.size ≤ 100000 := by omega
  have A1 : Hid (∀ V D K, Ss W V [(D, 83, d), (K, 83, l)] → Calls Tryd.prog 29 #[.pointer (some ⟨K, 0, none⟩), .string hel] V (Saw W [(D, 83, d), (K, 83, l1)] (.tuple #[.string o1, .int .i64 e1]))) :=
    Lib.hid (fun V D K h => by have := h.take83 1 rfl G0 hel z0; rw [h1] at this; exact this)
  have G1 : Fine l1 := by have := G0.take hel; rw [h1] at this; exact this
  have A2 : Hid (∀ V D K, Ss W V [(D, 83, d), (K, 83, l1)] → Calls Tryd.prog 28 #[.pointer (some ⟨K, 0, none⟩), .int .i64 1] V (Saw W [(D, 83, d), (K, 83, l2)] (.tuple #[.string o2, .int .i64 e2]))) :=
    Lib.hid (fun V D K h => by have := h.answer83 1 rfl G1 1; rw [h2] at this; exact this)
  have y2 : o2.size ≤ 100 := by have := answer_out l1 G1 1; rw [h2] at this; exact this
  have z1 : o2.size ≤ 100000 := by omega
  have A3 : Hid (∀ V D K, Ss W V [(D, 83, d), (K, 83, l2)] → Calls Tryd.prog 29 #[.pointer (some ⟨D, 0, none⟩), .string o2] V (Saw W [(D, 83, d1), (K, 83, l2)] (.tuple #[.string o3, .int .i64 e3]))) :=
    Lib.hid (fun V D K h => by have := h.take83 0 rfl F0 o2 z1; rw [h3] at this; exact this)
  have y2' := Lib.hid y2
  have G2 : Fine l2 := by have := G1.answer 1; rw [h2] at this; exact this
  have y3 : o3.size ≤ 100 := by have := take_out d o2; rw [h3] at this; exact this
  have z2 : (flipF o3 bit).size ≤ 100000 := by have := flipF_size o3 bit; omega
  have y3' := Lib.hid y3
  have A4 : Hid (∀ V D K, Ss W V [(D, 83, d1), (K, 83, l2)] → Calls Tryd.prog 29 #[.pointer (some ⟨K, 0, none⟩), .string (flipF o3 bit)] V (Saw W [(D, 83, d1), (K, 83, l3)] (.tuple #[.string o4, .int .i64 e4]))) :=
    Lib.hid (fun V D K h => by have := h.take83 1 rfl G2 (flipF o3 bit) z2; rw [h4] at this; exact this)
  have F1 : Fine d1 := by have := F0.take o2; rw [h3] at this; exact this
  have y4 : o4.size ≤ 100 := by have := take_out l2 (flipF o3 bit); rw [h4] at this; exact this
  have z3 : o4.size ≤ 100000 := by omega
  have y4' := Lib.hid y4
  have A5 : Hid (∀ V D K, Ss W V [(D, 83, d1), (K, 83, l3)] → Calls Tryd.prog 29 #[.pointer (some ⟨D, 0, none⟩), .string o4] V (Saw W [(D, 83, d2), (K, 83, l3)] (.tuple #[.string o5, .int .i64 e5]))) :=
    Lib.hid (fun V D K h => by have := h.take83 0 rfl F1 o4 z3; rw [h5] at this; exact this)
  have q1 : ((e1 : Int) != 0) = false := by rw [bne_eq_false_iff_eq]; omega
  have p1 : ((e1 : Int) == 0) = true := by rw [beq_iff_eq]; omega
  have q2 : ((e2 : Int) != 0) = false := by rw [bne_eq_false_iff_eq]; omega
  have p2 : ((e2 : Int) == 0) = true := by rw [beq_iff_eq]; omega
  have q3 : ((e3 : Int) != 0) = false := by rw [bne_eq_false_iff_eq]; omega
  have p3 : ((e3 : Int) == 0) = true := by rw [beq_iff_eq]; omega
  have q4 : ((e4 : Int) != 0) = false := by rw [bne_eq_false_iff_eq]; omega
  have p4 : ((e4 : Int) == 0) = true := by rw [beq_iff_eq]; omega
  have q5 : ((e5 : Int) != 0) = false := by rw [bne_eq_false_iff_eq]; omega
  have p5 : ((e5 : Int) == 0) = true := by rw [beq_iff_eq]; omega
  have zh' := Lib.hid zh
  obtain ⟨cc, hcc⟩ : ∃ c, c = flipF o3 bit := ⟨_, rfl⟩
  have FB : Hid (∀ W, o3.size ≤ 100000 → Calls Tryd.prog 20 #[.string o3, .int .u16 bit] W fun e w' => e = .returned (.string cc) ∧ Below W.heap.size W w') := Lib.hid (fun W h => by rw [hcc]; exact FC.out W o3 h)
  rw [← hcc] at A4
  clear hcc
  clear ht hDY hLY F0 G0 zh hbit FC k1 k2 k3 k4 k5 h1 z0 G1 h2 y2 z1 h3 G2 y3 z2 h4 F1 y4 z3 h5
  unfold stgV
  go_enter Tryd.func21, Tryd.ntmps21
  obtain ⟨c0, c1, c2, c3, c4, c5⟩ := X0.out
  obtain ⟨d0, d1, d2, d3, d4, d5⟩ := Y0.out
  dsimp only at c0 c1 c2 c3 c4 c5
  simp only [World.size_alloc] at d0 d1 d2 d3 d4 d5
  have SS0 := Lib.hid (Ss.ofSt S0.out)
  go_wp2_with fail
  refine (DY.out _).mono ?_
  rintro e w1 ⟨D, rfl, gB, kB, b1⟩
  have SS1 := Lib.hid (SS0.out.add kB gB b1)
  clear c0 c1 c2 c3 c4 c5 d0 d1 d2 d3 d4 d5
  have X1 := Lib.hid (X0.out.below b1)
  have Y1 := Lib.hid (Y0.out.below b1)
  obtain ⟨c0, c1, c2, c3, c4, c5⟩ := X1.out
  obtain ⟨d0, d1, d2, d3, d4, d5⟩ := Y1.out
  dsimp only at c0 c1 c2 c3 c4 c5
  simp only [World.size_alloc] at d0 d1 d2 d3 d4 d5
  clear b1 SS0 X0 Y0 gB kB
  go_wp2_with fail
  refine (LY.out _).mono ?_
  rintro e w2 ⟨K, rfl, gB, kB, b2⟩
  have SS2 := Lib.hid (SS1.out.add kB gB b2)
  clear c0 c1 c2 c3 c4 c5 d0 d1 d2 d3 d4 d5
  have X2 := Lib.hid (X1.out.below b2)
  have Y2 := Lib.hid (Y1.out.below b2)
  clear b2 SS1 X1 Y1 gB kB
  clear X2 Y2 S0
  go_wp2_with fail
  refine wp_loop_rounds 5 ?_
  rw [rounds_succ]
  go_wp2_with fail
  refine (A1.out _ D K SS2.out).mono ?_
  rintro e w3 ⟨rfl, s3⟩
  have SS3 := Lib.hid s3
  clear s3 SS2
  go_wp2_with fail
  refine (A2.out _ D K SS3.out).mono ?_
  rintro e w4 ⟨rfl, s4⟩
  have SS4 := Lib.hid s4
  clear s4 SS3
  go_wp2_with fail
  rw [rounds_succ]
  go_wp2_with fail
  refine (A3.out _ D K SS4.out).mono ?_
  rintro e w5 ⟨rfl, s5⟩
  have SS5 := Lib.hid s5
  clear s5 SS4
  go_wp2_with fail
  rw [rounds_succ]
  go_wp2_with fail
  refine (FB.out _ (by have := y3'.out; omega)).mono ?_
  rintro e w6 ⟨rfl, b6⟩
  have SS6 := Lib.hid (SS5.out.below b6)
  clear b6 SS5
  go_wp2_with fail
  refine (A4.out _ D K SS6.out).mono ?_
  rintro e w7 ⟨rfl, s7⟩
  have SS7 := Lib.hid s7
  clear s7 SS6
  go_wp2_with fail
  rw [rounds_succ]
  go_wp2_with fail
  refine (A5.out _ D K SS7.out).mono ?_
  rintro e w8 ⟨rfl, s8⟩
  have SS8 := Lib.hid s8
  clear s8 SS7
  go_wp2_with fail
  rw [rounds_succ]
  have j1 := (sd_cells (SS8.out.get 0 rfl)).c10
  have j2 := (sd_cells (SS8.out.get 1 rfl)).c10
  go_wp2_with fail
  go_quiet (fail)
  go_wp2
  go_ret2
  exact ⟨rfl, below_drewN SS8.out.st.bel _⟩
set_option maxRecDepth 100000 in
set_option maxHeartbeats 4000000 in
theorem spec2_E (xd yd : Bool) (xn xw xc yn yw yc : ByteArray) (gx gy cx cy : Nat) (bit : Nat) (hbit : bit ≤ 65535) (W : World) (ht : Tabs W) (d l : Sd) (hel : ByteArray)
    (hDY : ∀ W, Calls Tryd.prog 24 #[.agg #[.string xn, .int .i64 gx], .string xw, .string xc, .int .u64 cx] W (Made 83 d hel W)) (hLY : ∀ W, Calls Tryd.prog 25 #[.agg #[.string yn, .int .i64 gy], .string yc, .int .u64 cy] W (MadeL 83 l W))
    (F0 : Fine d) (G0 : Fine l) (zh : hel.size ≤ 100000) (l1 : Sd) (o1 : ByteArray) (e1 : Nat) (h1 : takeF l hel = (l1, o1, e1)) (k1 : e1 = 0) (l2 : Sd) (o2 : ByteArray) (e2 : Nat) (h2 : answerF l1 1 = (l2, o2, e2)) (k2 : e2 = 0) (d1 : Sd) (o3 : ByteArray) (e3 : Nat) (h3 : takeF d o2 = (d1, o3, e3)) (k3 : e3 = 0) (l3 : Sd) (o4 : ByteArray) (e4 : Nat) (h4 : takeF l2 (flipF o3 bit) = (l3, o4, e4)) (k4 : e4 = 0) (d2 : Sd) (o5 : ByteArray) (e5 : Nat) (h5 : takeF d1 o4 = (d2, o5, e5)) (k5 : e5 ≠ 0) :
    Calls Tryd.prog 21 #[stgV (⟨xd, xn, gx, xw, xc, cx⟩ : Stg), stgV (⟨yd, yn, gy, yw, yc, cy⟩ : Stg), .int .i64 2, .int .u16 bit] W fun e W' => e = .returned (.tuple #[.int .i64 d2.state, .int .i64 l3.state]) ∧ Below W.heap.size W W' := by
  have X0 := Lib.hid (Bx.of (x := (⟨xd, xn, gx, xw, xc, cx⟩ : Stg)) ((Blk.new W 26 #[.bool xd, .string xn, .int .i64 (gx : Int), .string xw, .string xc, .int .u64 (cx : Int)]).alloc (.cells #[.bool yd, .string yn, .int .i64 (gy : Int), .string yw, .string yc, .int .u64 (cy : Int)] 26)))
  have Y0 := Lib.hid (Bx.of (x := (⟨yd, yn, gy, yw, yc, cy⟩ : Stg)) (Blk.new (W.alloc (.cells #[.bool xd, .string xn, .int .i64 (gx : Int), .string xw, .string xc, .int .u64 (cx : Int)] 26)) 26 #[.bool yd, .string yn, .int .i64 (gy : Int), .string yw, .string yc, .int .u64 (cy : Int)]))
  have S0 := Lib.hid (((St.refl ht).alloc (.cells #[.bool xd, .string xn, .int .i64 (gx : Int), .string xw, .string xc, .int .u64 (cx : Int)] 26)).alloc (.cells #[.bool yd, .string yn, .int .i64 (gy : Int), .string yw, .string yc, .int .u64 (cy : Int)] 26))
  have DY := Lib.hid hDY
  have LY := Lib.hid hLY
  have FC := Lib.hid (fun W b hz => flipped_any b bit hz hbit W)
  have fine0 := F0
  clear fine0
  have z0 : hel.size ≤ 100000 := by omega
  have A1 : Hid (∀ V D K, Ss W V [(D, 83, d), (K, 83, l)] → Calls Tryd.prog 29 #[.pointer (some ⟨K, 0, none⟩), .string hel] V (Saw W [(D, 83, d), (K, 83, l1)] (.tuple #[.string o1, .int .i64 e1]))) :=
    Lib.hid (fun V D K h => by have := h.take83 1 rfl G0 hel z0; rw [h1] at this; exact this)
  have G1 : Fine l1 := by have := G0.take hel; rw [h1] at this; exact this
  have A2 : Hid (∀ V D K, Ss W V [(D, 83, d), (K, 83, l1)] → Calls Tryd.prog 28 #[.pointer (some ⟨K, 0, none⟩), .int .i64 1] V (Saw W [(D, 83, d), (K, 83, l2)] (.tuple #[.string o2, .int .i64 e2]))) :=
    Lib.hid (fun V D K h => by have := h.answer83 1 rfl G1 1; rw [h2] at this; exact this)
  have y2 : o2.size ≤ 100 := by have := answer_out l1 G1 1; rw [h2] at this; exact this
  have z1 : o2.size ≤ 100000 := by omega
  have A3 : Hid (∀ V D K, Ss W V [(D, 83, d), (K, 83, l2)] → Calls Tryd.prog 29 #[.pointer (some ⟨D, 0, none⟩), .string o2] V (Saw W [(D, 83, d1), (K, 83, l2)] (.tuple #[.string o3, .int .i64 e3]))) :=
    Lib.hid (fun V D K h => by have := h.take83 0 rfl F0 o2 z1; rw [h3] at this; exact this)
  have y2' := Lib.hid y2
  have G2 : Fine l2 := by have := G1.answer 1; rw [h2] at this; exact this
  have y3 : o3.size ≤ 100 := by have := take_out d o2; rw [h3] at this; exact this
  have z2 : (flipF o3 bit).size ≤ 100000 := by have := flipF_size o3 bit; omega
  have y3' := Lib.hid y3
  have A4 : Hid (∀ V D K, Ss W V [(D, 83, d1), (K, 83, l2)] → Calls Tryd.prog 29 #[.pointer (some ⟨K, 0, none⟩), .string (flipF o3 bit)] V (Saw W [(D, 83, d1), (K, 83, l3)] (.tuple #[.string o4, .int .i64 e4]))) :=
    Lib.hid (fun V D K h => by have := h.take83 1 rfl G2 (flipF o3 bit) z2; rw [h4] at this; exact this)
  have F1 : Fine d1 := by have := F0.take o2; rw [h3] at this; exact this
  have y4 : o4.size ≤ 100 := by have := take_out l2 (flipF o3 bit); rw [h4] at this; exact this
  have z3 : o4.size ≤ 100000 := by omega
  have y4' := Lib.hid y4
  have A5 : Hid (∀ V D K, Ss W V [(D, 83, d1), (K, 83, l3)] → Calls Tryd.prog 29 #[.pointer (some ⟨D, 0, none⟩), .string o4] V (Saw W [(D, 83, d2), (K, 83, l3)] (.tuple #[.string o5, .int .i64 e5]))) :=
    Lib.hid (fun V D K h => by have := h.take83 0 rfl F1 o4 z3; rw [h5] at this; exact this)
  have q1 : ((e1 : Int) != 0) = false := by rw [bne_eq_false_iff_eq]; omega
  have p1 : ((e1 : Int) == 0) = true := by rw [beq_iff_eq]; omega
  have q2 : ((e2 : Int) != 0) = false := by rw [bne_eq_false_iff_eq]; omega
  have p2 : ((e2 : Int) == 0) = true := by rw [beq_iff_eq]; omega
  have q3 : ((e3 : Int) != 0) = false := by rw [bne_eq_false_iff_eq]; omega
  have p3 : ((e3 : Int) == 0) = true := by rw [beq_iff_eq]; omega
  have q4 : ((e4 : Int) != 0) = false := by rw [bne_eq_false_iff_eq]; omega
  have p4 : ((e4 : Int) == 0) = true := by rw [beq_iff_eq]; omega
  have q5 : ((e5 : Int) != 0) = true := by rw [bne_iff_ne]; omega
  have p5 : ((e5 : Int) == 0) = false := by exact beq_eq_false_iff_ne.2 (by omega)
  have zh' := Lib.hid zh
  obtain ⟨cc, hcc⟩ : ∃ c, c = flipF o3 bit := ⟨_, rfl⟩
  have FB : Hid (∀ W, o3.size ≤ 100000 → Calls Tryd.prog 20 #[.string o3, .int .u16 bit] W fun e w' => e = .returned (.string cc) ∧ Below W.heap.size W w') := Lib.hid (fun W h => by rw [hcc]; exact FC.out W o3 h)
  rw [← hcc] at A4
  clear hcc
  clear ht hDY hLY F0 G0 zh hbit FC k1 k2 k3 k4 k5 h1 z0 G1 h2 y2 z1 h3 G2 y3 z2 h4 F1 y4 z3 h5
  unfold stgV
  go_enter Tryd.func21, Tryd.ntmps21
  obtain ⟨c0, c1, c2, c3, c4, c5⟩ := X0.out
  obtain ⟨d0, d1, d2, d3, d4, d5⟩ := Y0.out
  dsimp only at c0 c1 c2 c3 c4 c5
  simp only [World.size_alloc] at d0 d1 d2 d3 d4 d5
  have SS0 := Lib.hid (Ss.ofSt S0.out)
  go_wp2_with fail
  refine (DY.out _).mono ?_
  rintro e w1 ⟨D, rfl, gB, kB, b1⟩
  have SS1 := Lib.hid (SS0.out.add kB gB b1)
  clear c0 c1 c2 c3 c4 c5 d0 d1 d2 d3 d4 d5
  have X1 := Lib.hid (X0.out.below b1)
  have Y1 := Lib.hid (Y0.out.below b1)
  obtain ⟨c0, c1, c2, c3, c4, c5⟩ := X1.out
  obtain ⟨d0, d1, d2, d3, d4, d5⟩ := Y1.out
  dsimp only at c0 c1 c2 c3 c4 c5
  simp only [World.size_alloc] at d0 d1 d2 d3 d4 d5
  clear b1 SS0 X0 Y0 gB kB
  go_wp2_with fail
  refine (LY.out _).mono ?_
  rintro e w2 ⟨K, rfl, gB, kB, b2⟩
  have SS2 := Lib.hid (SS1.out.add kB gB b2)
  clear c0 c1 c2 c3 c4 c5 d0 d1 d2 d3 d4 d5
  have X2 := Lib.hid (X1.out.below b2)
  have Y2 := Lib.hid (Y1.out.below b2)
  clear b2 SS1 X1 Y1 gB kB
  clear X2 Y2 S0
  go_wp2_with fail
  refine wp_loop_rounds 5 ?_
  rw [rounds_succ]
  go_wp2_with fail
  refine (A1.out _ D K SS2.out).mono ?_
  rintro e w3 ⟨rfl, s3⟩
  have SS3 := Lib.hid s3
  clear s3 SS2
  go_wp2_with fail
  refine (A2.out _ D K SS3.out).mono ?_
  rintro e w4 ⟨rfl, s4⟩
  have SS4 := Lib.hid s4
  clear s4 SS3
  go_wp2_with fail
  rw [rounds_succ]
  go_wp2_with fail
  refine (A3.out _ D K SS4.out).mono ?_
  rintro e w5 ⟨rfl, s5⟩
  have SS5 := Lib.hid s5
  clear s5 SS4
  go_wp2_with fail
  rw [rounds_succ]
  go_wp2_with fail
  refine (FB.out _ (by have := y3'.out; omega)).mono ?_
  rintro e w6 ⟨rfl, b6⟩
  have SS6 := Lib.hid (SS5.out.below b6)
  clear b6 SS5
  go_wp2_with fail
  refine (A4.out _ D K SS6.out).mono ?_
  rintro e w7 ⟨rfl, s7⟩
  have SS7 := Lib.hid s7
  clear s7 SS6
  go_wp2_with fail
  rw [rounds_succ]
  go_wp2_with fail
  refine (A5.out _ D K SS7.out).mono ?_
  rintro e w8 ⟨rfl, s8⟩
  have SS8 := Lib.hid s8
  clear s8 SS7
  have j1 := (sd_cells (SS8.out.get 0 rfl)).c10
  have j2 := (sd_cells (SS8.out.get 1 rfl)).c10
  go_wp2_with fail
  go_quiet (fail)
  go_wp2
  go_ret2
  exact ⟨rfl, below_drewN SS8.out.st.bel _⟩
set_option maxRecDepth 100000 in
set_option maxHeartbeats 4000000 in
theorem spec3_A (xd yd : Bool) (xn xw xc yn yw yc : ByteArray) (gx gy cx cy : Nat) (bit : Nat) (hbit : bit ≤ 65535) (W : World) (ht : Tabs W) (d l : Sd) (hel : ByteArray)
    (hDY : ∀ W, Calls Tryd.prog 24 #[.agg #[.string xn, .int .i64 gx], .string xw, .string xc, .int .u64 cx] W (Made 83 d hel W)) (hLY : ∀ W, Calls Tryd.prog 25 #[.agg #[.string yn, .int .i64 gy], .string yc, .int .u64 cy] W (MadeL 83 l W))
    (F0 : Fine d) (G0 : Fine l) (zh : hel.size ≤ 100000) (l1 : Sd) (o1 : ByteArray) (e1 : Nat) (h1 : takeF l hel = (l1, o1, e1)) (k1 : e1 ≠ 0) :
    Calls Tryd.prog 21 #[stgV (⟨xd, xn, gx, xw, xc, cx⟩ : Stg), stgV (⟨yd, yn, gy, yw, yc, cy⟩ : Stg), .int .i64 3, .int .u16 bit] W fun e W' => e = .returned (.tuple #[.int .i64 d.state, .int .i64 l1.state]) ∧ Below W.heap.size W W' := by
  have X0 := Lib.hid (Bx.of (x := (⟨xd, xn, gx, xw, xc, cx⟩ : Stg)) ((Blk.new W 26 #[.bool xd, .string xn, .int .i64 (gx : Int), .string xw, .string xc, .int .u64 (cx : Int)]).alloc (.cells #[.bool yd, .string yn, .int .i64 (gy : Int), .string yw, .string yc, .int .u64 (cy : Int)] 26)))
  have Y0 := Lib.hid (Bx.of (x := (⟨yd, yn, gy, yw, yc, cy⟩ : Stg)) (Blk.new (W.alloc (.cells #[.bool xd, .string xn, .int .i64 (gx : Int), .string xw, .string xc, .int .u64 (cx : Int)] 26)) 26 #[.bool yd, .string yn, .int .i64 (gy : Int), .string yw, .string yc, .int .u64 (cy : Int)]))
  have S0 := Lib.hid (((St.refl ht).alloc (.cells #[.bool xd, .string xn, .int .i64 (gx : Int), .string xw, .string xc, .int .u64 (cx : Int)] 26)).alloc (.cells #[.bool yd, .string yn, .int .i64 (gy : Int), .string yw, .string yc, .int .u64 (cy : Int)] 26))
  have DY := Lib.hid hDY
  have LY := Lib.hid hLY
  have FC := Lib.hid (fun W b hz => flipped_any b bit hz hbit W)
  have fine0 := F0
  clear fine0
  have z0 : hel.size ≤ 100000 := by omega
  have A1 : Hid (∀ V D K, Ss W V [(D, 83, d), (K, 83, l)] → Calls Tryd.prog 29 #[.pointer (some ⟨K, 0, none⟩), .string hel] V (Saw W [(D, 83, d), (K, 83, l1)] (.tuple #[.string o1, .int .i64 e1]))) :=
    Lib.hid (fun V D K h => by have := h.take83 1 rfl G0 hel z0; rw [h1] at this; exact this)
  have q1 : ((e1 : Int) != 0) = true := by rw [bne_iff_ne]; omega
  have p1 : ((e1 : Int) == 0) = false := by exact beq_eq_false_iff_ne.2 (by omega)
  have zh' := Lib.hid zh
  clear ht hDY hLY F0 G0 zh hbit FC k1 h1 z0
  unfold stgV
  go_enter Tryd.func21, Tryd.ntmps21
  obtain ⟨c0, c1, c2, c3, c4, c5⟩ := X0.out
  obtain ⟨d0, d1, d2, d3, d4, d5⟩ := Y0.out
  dsimp only at c0 c1 c2 c3 c4 c5
  simp only [World.size_alloc] at d0 d1 d2 d3 d4 d5
  have SS0 := Lib.hid (Ss.ofSt S0.out)
  go_wp2_with fail
  refine (DY.out _).mono ?_
  rintro e w1 ⟨D, rfl, gB, kB, b1⟩
  have SS1 := Lib.hid (SS0.out.add kB gB b1)
  clear c0 c1 c2 c3 c4 c5 d0 d1 d2 d3 d4 d5
  have X1 := Lib.hid (X0.out.below b1)
  have Y1 := Lib.hid (Y0.out.below b1)
  obtain ⟨c0, c1, c2, c3, c4, c5⟩ := X1.out
  obtain ⟨d0, d1, d2, d3, d4, d5⟩ := Y1.out
  dsimp only at c0 c1 c2 c3 c4 c5
  simp only [World.size_alloc] at d0 d1 d2 d3 d4 d5
  clear b1 SS0 X0 Y0 gB kB
  go_wp2_with fail
  refine (LY.out _).mono ?_
  rintro e w2 ⟨K, rfl, gB, kB, b2⟩
  have SS2 := Lib.hid (SS1.out.add kB gB b2)
  clear c0 c1 c2 c3 c4 c5 d0 d1 d2 d3 d4 d5
  have X2 := Lib.hid (X1.out.below b2)
  have Y2 := Lib.hid (Y1.out.below b2)
  clear b2 SS1 X1 Y1 gB kB
  clear X2 Y2 S0
  go_wp2_with fail
  refine wp_loop_rounds 5 ?_
  rw [rounds_succ]
  go_wp2_with fail
  refine (A1.out _ D K SS2.out).mono ?_
  rintro e w3 ⟨rfl, s3⟩
  have SS3 := Lib.hid s3
  clear s3 SS2
  have j1 := (sd_cells (SS3.out.get 0 rfl)).c10
  have j2 := (sd_cells (SS3.out.get 1 rfl)).c10
  go_wp2_with fail
  go_quiet (fail)
  go_wp2
  go_ret2
  exact ⟨rfl, below_drewN SS3.out.st.bel _⟩
set_option maxRecDepth 100000 in
set_option maxHeartbeats 4000000 in
theorem spec3_B (xd yd : Bool) (xn xw xc yn yw yc : ByteArray) (gx gy cx cy : Nat) (bit : Nat) (hbit : bit ≤ 65535) (W : World) (ht : Tabs W) (d l : Sd) (hel : ByteArray)
    (hDY : ∀ W, Calls Tryd.prog 24 #[.agg #[.string xn, .int .i64 gx], .string xw, .string xc, .int .u64 cx] W (Made 83 d hel W)) (hLY : ∀ W, Calls Tryd.prog 25 #[.agg #[.string yn, .int .i64 gy], .string yc, .int .u64 cy] W (MadeL 83 l W))
    (F0 : Fine d) (G0 : Fine l) (zh : hel.size ≤ 100000) (l1 : Sd) (o1 : ByteArray) (e1 : Nat) (h1 : takeF l hel = (l1, o1, e1)) (k1 : e1 = 0) (l2 : Sd) (o2 : ByteArray) (e2 : Nat) (h2 : answerF l1 1 = (l2, o2, e2)) (k2 : e2 = 0) (d1 : Sd) (o3 : ByteArray) (e3 : Nat) (h3 : takeF d o2 = (d1, o3, e3)) (k3 : e3 ≠ 0) :
    Calls Tryd.prog 21 #[stgV (⟨xd, xn, gx, xw, xc, cx⟩ : Stg), stgV (⟨yd, yn, gy, yw, yc, cy⟩ : Stg), .int .i64 3, .int .u16 bit] W fun e W' => e = .returned (.tuple #[.int .i64 d1.state, .int .i64 l2.state]) ∧ Below W.heap.size W W' := by
  have X0 := Lib.hid (Bx.of (x := (⟨xd, xn, gx, xw, xc, cx⟩ : Stg)) ((Blk.new W 26 #[.bool xd, .string xn, .int .i64 (gx : Int), .string xw, .string xc, .int .u64 (cx : Int)]).alloc (.cells #[.bool yd, .string yn, .int .i64 (gy : Int), .string yw, .string yc, .int .u64 (cy : Int)] 26)))
  have Y0 := Lib.hid (Bx.of (x := (⟨yd, yn, gy, yw, yc, cy⟩ : Stg)) (Blk.new (W.alloc (.cells #[.bool xd, .string xn, .int .i64 (gx : Int), .string xw, .string xc, .int .u64 (cx : Int)] 26)) 26 #[.bool yd, .string yn, .int .i64 (gy : Int), .string yw, .string yc, .int .u64 (cy : Int)]))
  have S0 := Lib.hid (((St.refl ht).alloc (.cells #[.bool xd, .string xn, .int .i64 (gx : Int), .string xw, .string xc, .int .u64 (cx : Int)] 26)).alloc (.cells #[.bool yd, .string yn, .int .i64 (gy : Int), .string yw, .string yc, .int .u64 (cy : Int)] 26))
  have DY := Lib.hid hDY
  have LY := Lib.hid hLY
  have FC := Lib.hid (fun W b hz => flipped_any b bit hz hbit W)
  have fine0 := F0
  clear fine0
  have z0 : hel.size ≤ 100000 := by omega
  have A1 : Hid (∀ V D K, Ss W V [(D, 83, d), (K, 83, l)] → Calls Tryd.prog 29 #[.pointer (some ⟨K, 0, none⟩), .string hel] V (Saw W [(D, 83, d), (K, 83, l1)] (.tuple #[.string o1, .int .i64 e1]))) :=
    Lib.hid (fun V D K h => by have := h.take83 1 rfl G0 hel z0; rw [h1] at this; exact this)
  have G1 : Fine l1 := by have := G0.take hel; rw [h1] at this; exact this
  have A2 : Hid (∀ V D K, Ss W V [(D, 83, d), (K, 83, l1)] → Calls Tryd.prog 28 #[.pointer (some ⟨K, 0, none⟩), .int .i64 1] V (Saw W [(D, 83, d), (K, 83, l2)] (.tuple #[.string o2, .int .i64 e2]))) :=
    Lib.hid (fun V D K h => by have := h.answer83 1 rfl G1 1; rw [h2] at this; exact this)
  have y2 : o2.size ≤ 100 := by have := answer_out l1 G1 1; rw [h2] at this; exact this
  have z1 : o2.size ≤ 100000 := by omega
  have A3 : Hid (∀ V D K, Ss W V [(D, 83, d), (K, 83, l2)] → Calls Tryd.prog 29 #[.pointer (some ⟨D, 0, none⟩), .string o2] V (Saw W [(D, 83, d1), (K, 83, l2)] (.tuple #[.string o3, .int .i64 e3]))) :=
    Lib.hid (fun V D K h => by have := h.take83 0 rfl F0 o2 z1; rw [h3] at this; exact this)
  have y2' := Lib.hid y2
  have q1 : ((e1 : Int) != 0) = false := by rw [bne_eq_false_iff_eq]; omega
  have p1 : ((e1 : Int) == 0) = true := by rw [beq_iff_eq]; omega
  have q2 : ((e2 : Int) != 0) = false := by rw [bne_eq_false_iff_eq]; omega
  have p2 : ((e2 : Int) == 0) = true := by rw [beq_iff_eq]; omega
  have q3 : ((e3 : Int) != 0) = true := by rw [bne_iff_ne]; omega
  have p3 : ((e3 : Int) == 0) = false := by exact beq_eq_false_iff_ne.2 (by omega)
  have zh' := Lib.hid zh
  clear ht hDY hLY F0 G0 zh hbit FC k1 k2 k3 h1 z0 G1 h2 y2 z1 h3
  unfold stgV
  go_enter Tryd.func21, Tryd.ntmps21
  obtain ⟨c0, c1, c2, c3, c4, c5⟩ := X0.out
  obtain ⟨d0, d1, d2, d3, d4, d5⟩ := Y0.out
  dsimp only at c0 c1 c2 c3 c4 c5
  simp only [World.size_alloc] at d0 d1 d2 d3 d4 d5
  have SS0 := Lib.hid (Ss.ofSt S0.out)
  go_wp2_with fail
  refine (DY.out _).mono ?_
  rintro e w1 ⟨D, rfl, gB, kB, b1⟩
  have SS1 := Lib.hid (SS0.out.add kB gB b1)
  clear c0 c1 c2 c3 c4 c5 d0 d1 d2 d3 d4 d5
  have X1 := Lib.hid (X0.out.below b1)
  have Y1 := Lib.hid (Y0.out.below b1)
  obtain ⟨c0, c1, c2, c3, c4, c5⟩ := X1.out
  obtain ⟨d0, d1, d2, d3, d4, d5⟩ := Y1.out
  dsimp only at c0 c1 c2 c3 c4 c5
  simp only [World.size_alloc] at d0 d1 d2 d3 d4 d5
  clear b1 SS0 X0 Y0 gB kB
  go_wp2_with fail
  refine (LY.out _).mono ?_
  rintro e w2 ⟨K, rfl, gB, kB, b2⟩
  have SS2 := Lib.hid (SS1.out.add kB gB b2)
  clear c0 c1 c2 c3 c4 c5 d0 d1 d2 d3 d4 d5
  have X2 := Lib.hid (X1.out.below b2)
  have Y2 := Lib.hid (Y1.out.below b2)
  clear b2 SS1 X1 Y1 gB kB
  clear X2 Y2 S0
  go_wp2_with fail
  refine wp_loop_rounds 5 ?_
  rw [rounds_succ]
  go_wp2_with fail
  refine (A1.out _ D K SS2.out).mono ?_
  rintro e w3 ⟨rfl, s3⟩
  have SS3 := Lib.hid s3
  clear s3 SS2
  go_wp2_with fail
  refine (A2.out _ D K SS3.out).mono ?_
  rintro e w4 ⟨rfl, s4⟩
  have SS4 := Lib.hid s4
  clear s4 SS3
  go_wp2_with fail
  rw [rounds_succ]
  go_wp2_with fail
  refine (A3.out _ D K SS4.out).mono ?_
  rintro e w5 ⟨rfl, s5⟩
  have SS5 := Lib.hid s5
  clear s5 SS4
  have j1 := (sd_cells (SS5.out.get 0 rfl)).c10
  have j2 := (sd_cells (SS5.out.get 1 rfl)).c10
  go_wp2_with fail
  go_quiet (fail)
  go_wp2
  go_ret2
  exact ⟨rfl, below_drewN SS5.out.st.bel _⟩
set_option maxRecDepth 100000 in
set_option maxHeartbeats 4000000 in
theorem spec3_C (xd yd : Bool) (xn xw xc yn yw yc : ByteArray) (gx gy cx cy : Nat) (bit : Nat) (hbit : bit ≤ 65535) (W : World) (ht : Tabs W) (d l : Sd) (hel : ByteArray)
    (hDY : ∀ W, Calls Tryd.prog 24 #[.agg #[.string xn, .int .i64 gx], .string xw, .string xc, .int .u64 cx] W (Made 83 d hel W)) (hLY : ∀ W, Calls Tryd.prog 25 #[.agg #[.string yn, .int .i64 gy], .string yc, .int .u64 cy] W (MadeL 83 l W))
    (F0 : Fine d) (G0 : Fine l) (zh : hel.size ≤ 100000) (l1 : Sd) (o1 : ByteArray) (e1 : Nat) (h1 : takeF l hel = (l1, o1, e1)) (k1 : e1 = 0) (l2 : Sd) (o2 : ByteArray) (e2 : Nat) (h2 : answerF l1 1 = (l2, o2, e2)) (k2 : e2 = 0) (d1 : Sd) (o3 : ByteArray) (e3 : Nat) (h3 : takeF d o2 = (d1, o3, e3)) (k3 : e3 = 0) (l3 : Sd) (o4 : ByteArray) (e4 : Nat) (h4 : takeF l2 o3 = (l3, o4, e4)) (k4 : e4 ≠ 0) :
    Calls Tryd.prog 21 #[stgV (⟨xd, xn, gx, xw, xc, cx⟩ : Stg), stgV (⟨yd, yn, gy, yw, yc, cy⟩ : Stg), .int .i64 3, .int .u16 bit] W fun e W' => e = .returned (.tuple #[.int .i64 d1.state, .int .i64 l3.state]) ∧ Below W.heap.size W W' := by
  have X0 := Lib.hid (Bx.of (x := (⟨xd, xn, gx, xw, xc, cx⟩ : Stg)) ((Blk.new W 26 #[.bool xd, .string xn, .int .i64 (gx : Int), .string xw, .string xc, .int .u64 (cx : Int)]).alloc (.cells #[.bool yd, .string yn, .int .i64 (gy : Int), .string yw, .string yc, .int .u64 (cy : Int)] 26)))
  have Y0 := Lib.hid (Bx.of (x := (⟨yd, yn, gy, yw, yc, cy⟩ : Stg)) (Blk.new (W.alloc (.cells #[.bool xd, .string xn, .int .i64 (gx : Int), .string xw, .string xc, .int .u64 (cx : Int)] 26)) 26 #[.bool yd, .string yn, .int .i64 (gy : Int), .string yw, .string yc, .int .u64 (cy : Int)]))
  have S0 := Lib.hid (((St.refl ht).alloc (.cells #[.bool xd, .string xn, .int .i64 (gx : Int), .string xw, .string xc, .int .u64 (cx : Int)] 26)).alloc (.cells #[.bool yd, .string yn, .int .i64 (gy : Int), .string yw, .string yc, .int .u64 (cy : Int)] 26))
  have DY := Lib.hid hDY
  have LY := Lib.hid hLY
  have FC := Lib.hid (fun W b hz => flipped_any b bit hz hbit W)
  have fine0 := F0
  clear fine0
  have z0 : hel.size ≤ 100000 := by omega
  have A1 : Hid (∀ V D K, Ss W V [(D, 83, d), (K, 83, l)] → Calls Tryd.prog 29 #[.pointer (some ⟨K, 0, none⟩), .string hel] V (Saw W [(D, 83, d), (K, 83, l1)] (.tuple #[.string o1, .int .i64 e1]))) :=
    Lib.hid (fun V D K h => by have := h.take83 1 rfl G0 hel z0; rw [h1] at this; exact this)
  have G1 : Fine l1 := by have := G0.take hel; rw [h1] at this; exact this
  have A2 : Hid (∀ V D K, Ss W V [(D, 83, d), (K, 83, l1)] → Calls Tryd.prog 28 #[.pointer (some ⟨K, 0, none⟩), .int .i64 1] V (Saw W [(D, 83, d), (K, 83, l2)] (.tuple #[.string o2, .int .i64 e2]))) :=
    Lib.hid (fun V D K h => by have := h.answer83 1 rfl G1 1; rw [h2] at this; exact this)
  have y2 : o2.size ≤ 100 := by have := answer_out l1 G1 1; rw [h2] at this; exact this
  have z1 : o2.size ≤ 100000 := by omega
  have A3 : Hid (∀ V D K, Ss W V [(D, 83, d), (K, 83, l2)] → Calls Tryd.prog 29 #[.pointer (some ⟨D, 0, none⟩), .string o2] V (Saw W [(D, 83, d1), (K, 83, l2)] (.tuple #[.string o3, .int .i64 e3]))) :=
    Lib.hid (fun V D K h => by have := h.take83 0 rfl F0 o2 z1; rw [h3] at this; exact this)
  have y2' := Lib.hid y2
  have G2 : Fine l2 := by have := G1.answer 1; rw [h2] at this; exact this
  have y3 : o3.size ≤ 100 := by have := take_out d o2; rw [h3] at this; exact this
  have z2 : o3.size ≤ 100000 := by omega
  have y3' := Lib.hid y3
  have A4 : Hid (∀ V D K, Ss W V [(D, 83, d1), (K, 83, l2)] → Calls Tryd.prog 29 #[.pointer (some ⟨K, 0, none⟩), .string o3] V (Saw W [(D, 83, d1), (K, 83, l3)] (.tuple #[.string o4, .int .i64 e4]))) :=
    Lib.hid (fun V D K h => by have := h.take83 1 rfl G2 o3 z2; rw [h4] at this; exact this)
  have q1 : ((e1 : Int) != 0) = false := by rw [bne_eq_false_iff_eq]; omega
  have p1 : ((e1 : Int) == 0) = true := by rw [beq_iff_eq]; omega
  have q2 : ((e2 : Int) != 0) = false := by rw [bne_eq_false_iff_eq]; omega
  have p2 : ((e2 : Int) == 0) = true := by rw [beq_iff_eq]; omega
  have q3 : ((e3 : Int) != 0) = false := by rw [bne_eq_false_iff_eq]; omega
  have p3 : ((e3 : Int) == 0) = true := by rw [beq_iff_eq]; omega
  have q4 : ((e4 : Int) != 0) = true := by rw [bne_iff_ne]; omega
  have p4 : ((e4 : Int) == 0) = false := by exact beq_eq_false_iff_ne.2 (by omega)
  have zh' := Lib.hid zh
  clear ht hDY hLY F0 G0 zh hbit FC k1 k2 k3 k4 h1 z0 G1 h2 y2 z1 h3 G2 y3 z2 h4
  unfold stgV
  go_enter Tryd.func21, Tryd.ntmps21
  obtain ⟨c0, c1, c2, c3, c4, c5⟩ := X0.out
  obtain ⟨d0, d1, d2, d3, d4, d5⟩ := Y0.out
  dsimp only at c0 c1 c2 c3 c4 c5
  simp only [World.size_alloc] at d0 d1 d2 d3 d4 d5
  have SS0 := Lib.hid (Ss.ofSt S0.out)
  go_wp2_with fail
  refine (DY.out _).mono ?_
  rintro e w1 ⟨D, rfl, gB, kB, b1⟩
  have SS1 := Lib.hid (SS0.out.add kB gB b1)
  clear c0 c1 c2 c3 c4 c5 d0 d1 d2 d3 d4 d5
  have X1 := Lib.hid (X0.out.below b1)
  have Y1 := Lib.hid (Y0.out.below b1)
  obtain ⟨c0, c1, c2, c3, c4, c5⟩ := X1.out
  obtain ⟨d0, d1, d2, d3, d4, d5⟩ := Y1.out
  dsimp only at c0 c1 c2 c3 c4 c5
  simp only [World.size_alloc] at d0 d1 d2 d3 d4 d5
  clear b1 SS0 X0 Y0 gB kB
  go_wp2_with fail
  refine (LY.out _).mono ?_
  rintro e w2 ⟨K, rfl, gB, kB, b2⟩
  have SS2 := Lib.hid (SS1.out.add kB gB b2)
  clear c0 c1 c2 c3 c4 c5 d0 d1 d2 d3 d4 d5
  have X2 := Lib.hid (X1.out.below b2)
  have Y2 := Lib.hid (Y1.out.below b2)
  clear b2 SS1 X1 Y1 gB kB
  clear X2 Y2 S0
  go_wp2_with fail
  refine wp_loop_rounds 5 ?_
  rw [rounds_succ]
  go_wp2_with fail
  refine (A1.out _ D K SS2.out).mono ?_
  rintro e w3 ⟨rfl, s3⟩
  have SS3 := Lib.hid s3
  clear s3 SS2
  go_wp2_with fail
  refine (A2.out _ D K SS3.out).mono ?_
  rintro e w4 ⟨rfl, s4⟩
  have SS4 := Lib.hid s4
  clear s4 SS3
  go_wp2_with fail
  rw [rounds_succ]
  go_wp2_with fail
  refine (A3.out _ D K SS4.out).mono ?_
  rintro e w5 ⟨rfl, s5⟩
  have SS5 := Lib.hid s5
  clear s5 SS4
  go_wp2_with fail
  rw [rounds_succ]
  go_wp2_with fail
  refine (A4.out _ D K SS5.out).mono ?_
  rintro e w6 ⟨rfl, s6⟩
  have SS6 := Lib.hid s6
  clear s6 SS5
  have j1 := (sd_cells (SS6.out.get 0 rfl)).c10
  have j2 := (sd_cells (SS6.out.get 1 rfl)).c10
  go_wp2_with fail
  go_quiet (fail)
  go_wp2
  go_ret2
  exact ⟨rfl, below_drewN SS6.out.st.bel _⟩
set_option maxRecDepth 100000 in
set_option maxHeartbeats 4000000 in
theorem spec3_D (xd yd : Bool) (xn xw xc yn yw yc : ByteArray) (gx gy cx cy : Nat) (bit : Nat) (hbit : bit ≤ 65535) (W : World) (ht : Tabs W) (d l : Sd) (hel : ByteArray)
    (hDY : ∀ W, Calls Tryd.prog 24 #[.agg #[.string xn, .int .i64 gx], .string xw, .string xc, .int .u64 cx] W (Made 83 d hel W)) (hLY : ∀ W, Calls Tryd.prog 25 #[.agg #[.string yn, .int .i64 gy], .string yc, .int .u64 cy] W (MadeL 83 l W))
    (F0 : Fine d) (G0 : Fine l) (zh : hel.size ≤ 100000) (l1 : Sd) (o1 : ByteArray) (e1 : Nat) (h1 : takeF l hel = (l1, o1, e1)) (k1 : e1 = 0) (l2 : Sd) (o2 : ByteArray) (e2 : Nat) (h2 : answerF l1 1 = (l2, o2, e2)) (k2 : e2 = 0) (d1 : Sd) (o3 : ByteArray) (e3 : Nat) (h3 : takeF d o2 = (d1, o3, e3)) (k3 : e3 = 0) (l3 : Sd) (o4 : ByteArray) (e4 : Nat) (h4 : takeF l2 o3 = (l3, o4, e4)) (k4 : e4 = 0) (d2 : Sd) (o5 : ByteArray) (e5 : Nat) (h5 : takeF d1 (flipF o4 bit) = (d2, o5, e5)) (k5 : e5 = 0) :
    Calls Tryd.prog 21 #[stgV (⟨xd, xn, gx, xw, xc, cx⟩ : Stg), stgV (⟨yd, yn, gy, yw, yc, cy⟩ : Stg), .int .i64 3, .int .u16 bit] W fun e W' => e = .returned (.tuple #[.int .i64 d2.state, .int .i64 l3.state]) ∧ Below W.heap.size W W' := by
  have X0 := Lib.hid (Bx.of (x := (⟨xd, xn, gx, xw, xc, cx⟩ : Stg)) ((Blk.new W 26 #[.bool xd, .string xn, .int .i64 (gx : Int), .string xw, .string xc, .int .u64 (cx : Int)]).alloc (.cells #[.bool yd, .string yn, .int .i64 (gy : Int), .string yw, .string yc, .int .u64 (cy : Int)] 26)))
  have Y0 := Lib.hid (Bx.of (x := (⟨yd, yn, gy, yw, yc, cy⟩ : Stg)) (Blk.new (W.alloc (.cells #[.bool xd, .string xn, .int .i64 (gx : Int), .string xw, .string xc, .int .u64 (cx : Int)] 26)) 26 #[.bool yd, .string yn, .int .i64 (gy : Int), .string yw, .string yc, .int .u64 (cy : Int)]))
  have S0 := Lib.hid (((St.refl ht).alloc (.cells #[.bool xd, .string xn, .int .i64 (gx : Int), .string xw, .string xc, .int .u64 (cx : Int)] 26)).alloc (.cells #[.bool yd, .string yn, .int .i64 (gy : Int), .string yw, .string yc, .int .u64 (cy : Int)] 26))
  have DY := Lib.hid hDY
  have LY := Lib.hid hLY
  have FC := Lib.hid (fun W b hz => flipped_any b bit hz hbit W)
  have fine0 := F0
  clear fine0
  have z0 : hel.size ≤ 100000 := by omega
  have A1 : Hid (∀ V D K, Ss W V [(D, 83, d), (K, 83, l)] → Calls Tryd.prog 29 #[.pointer (some ⟨K, 0, none⟩), .string hel] V (Saw W [(D, 83, d), (K, 83, l1)] (.tuple #[.string o1, .int .i64 e1]))) :=
    Lib.hid (fun V D K h => by have := h.take83 1 rfl G0 hel z0; rw [h1] at this; exact this)
  have G1 : Fine l1 := by have := G0.take hel; rw [h1] at this; exact this
  have A2 : Hid (∀ V D K, Ss W V [(D, 83, d), (K, 83, l1)] → Calls Tryd.prog 28 #[.pointer (some ⟨K, 0, none⟩), .int .i64 1] V (Saw W [(D, 83, d), (K, 83, l2)] (.tuple #[.string o2, .int .i64 e2]))) :=
    Lib.hid (fun V D K h => by have := h.answer83 1 rfl G1 1; rw [h2] at this; exact this)
  have y2 : o2.size ≤ 100 := by have := answer_out l1 G1 1; rw [h2] at this; exact this
  have z1 : o2.size ≤ 100000 := by omega
  have A3 : Hid (∀ V D K, Ss W V [(D, 83, d), (K, 83, l2)] → Calls Tryd.prog 29 #[.pointer (some ⟨D, 0, none⟩), .string o2] V (Saw W [(D, 83, d1), (K, 83, l2)] (.tuple #[.string o3, .int .i64 e3]))) :=
    Lib.hid (fun V D K h => by have := h.take83 0 rfl F0 o2 z1; rw [h3] at this; exact this)
  have y2' := Lib.hid y2
  have G2 : Fine l2 := by have := G1.answer 1; rw [h2] at this; exact this
  have y3 : o3.size ≤ 100 := by have := take_out d o2; rw [h3] at this; exact this
  have z2 : o3.size ≤ 100000 := by omega
  have y3' := Lib.hid y3
  have A4 : Hid (∀ V D K, Ss W V [(D, 83, d1), (K, 83, l2)] → Calls Tryd.prog 29 #[.pointer (some ⟨K, 0, none⟩), .string o3] V (Saw W [(D, 83, d1), (K, 83, l3)] (.tuple #[.string o4, .int .i64 e4]))) :=
    Lib.hid (fun V D K h => by have := h.take83 1 rfl G2 o3 z2; rw [h4] at this; exact this)
  have F1 : Fine d1 := by have := F0.take o2; rw [h3] at this; exact this
  have y4 : o4.size ≤ 100 := by have := take_out l2 o3; rw [h4] at this; exact this
  have z3 : (flipF o4 bit).size ≤ 100000 := by have := flipF_size o4 bit; omega
  have y4' := Lib.hid y4
  have A5 : Hid (∀ V D K, Ss W V [(D, 83, d1), (K, 83, l3)] → Calls Tryd.prog 29 #[.pointer (some ⟨D, 0, none⟩), .string (flipF o4 bit)] V (Saw W [(D, 83, d2), (K, 83, l3)] (.tuple #[.string o5, .int .i64 e5]))) :=
    Lib.hid (fun V D K h => by have := h.take83 0 rfl F1 (flipF o4 bit) z3; rw [h5] at this; exact this)
  have q1 : ((e1 : Int) != 0) = false := by rw [bne_eq_false_iff_eq]; omega
  have p1 : ((e1 : Int) == 0) = true := by rw [beq_iff_eq]; omega
  have q2 : ((e2 : Int) != 0) = false := by rw [bne_eq_false_iff_eq]; omega
  have p2 : ((e2 : Int) == 0) = true := by rw [beq_iff_eq]; omega
  have q3 : ((e3 : Int) != 0) = false := by rw [bne_eq_false_iff_eq]; omega
  have p3 : ((e3 : Int) == 0) = true := by rw [beq_iff_eq]; omega
  have q4 : ((e4 : Int) != 0) = false := by rw [bne_eq_false_iff_eq]; omega
  have p4 : ((e4 : Int) == 0) = true := by rw [beq_iff_eq]; omega
  have q5 : ((e5 : Int) != 0) = false := by rw [bne_eq_false_iff_eq]; omega
  have p5 : ((e5 : Int) == 0) = true := by rw [beq_iff_eq]; omega
  have zh' := Lib.hid zh
  obtain ⟨cc, hcc⟩ : ∃ c, c = flipF o4 bit := ⟨_, rfl⟩
  have FB : Hid (∀ W, o4.size ≤ 100000 → Calls Tryd.prog 20 #[.string o4, .int .u16 bit] W fun e w' => e = .returned (.string cc) ∧ Below W.heap.size W w') := Lib.hid (fun W h => by rw [hcc]; exact FC.out W o4 h)
  rw [← hcc] at A5
  clear hcc
  clear ht hDY hLY F0 G0 zh hbit FC k1 k2 k3 k4 k5 h1 z0 G1 h2 y2 z1 h3 G2 y3 z2 h4 F1 y4 z3 h5
  unfold stgV
  go_enter Tryd.func21, Tryd.ntmps21
  obtain ⟨c0, c1, c2, c3, c4, c5⟩ := X0.out
  obtain ⟨d0, d1, d2, d3, d4, d5⟩ := Y0.out
  dsimp only at c0 c1 c2 c3 c4 c5
  simp only [World.size_alloc] at d0 d1 d2 d3 d4 d5
  have SS0 := Lib.hid (Ss.ofSt S0.out)
  go_wp2_with fail
  refine (DY.out _).mono ?_
  rintro e w1 ⟨D, rfl, gB, kB, b1⟩
  have SS1 := Lib.hid (SS0.out.add kB gB b1)
  clear c0 c1 c2 c3 c4 c5 d0 d1 d2 d3 d4 d5
  have X1 := Lib.hid (X0.out.below b1)
  have Y1 := Lib.hid (Y0.out.below b1)
  obtain ⟨c0, c1, c2, c3, c4, c5⟩ := X1.out
  obtain ⟨d0, d1, d2, d3, d4, d5⟩ := Y1.out
  dsimp only at c0 c1 c2 c3 c4 c5
  simp only [World.size_alloc] at d0 d1 d2 d3 d4 d5
  clear b1 SS0 X0 Y0 gB kB
  go_wp2_with fail
  refine (LY.out _).mono ?_
  rintro e w2 ⟨K, rfl, gB, kB, b2⟩
  have SS2 := Lib.hid (SS1.out.add kB gB b2)
  clear c0 c1 c2 c3 c4 c5 d0 d1 d2 d3 d4 d5
  have X2 := Lib.hid (X1.out.below b2)
  have Y2 := Lib.hid (Y1.out.below b2)
  clear b2 SS1 X1 Y1 gB kB
  clear X2 Y2 S0
  go_wp2_with fail
  refine wp_loop_rounds 5 ?_
  rw [rounds_succ]
  go_wp2_with fail
  refine (A1.out _ D K SS2.out).mono ?_
  rintro e w3 ⟨rfl, s3⟩
  have SS3 := Lib.hid s3
  clear s3 SS2
  go_wp2_with fail
  refine (A2.out _ D K SS3.out).mono ?_
  rintro e w4 ⟨rfl, s4⟩
  have SS4 := Lib.hid s4
  clear s4 SS3
  go_wp2_with fail
  rw [rounds_succ]
  go_wp2_with fail
  refine (A3.out _ D K SS4.out).mono ?_
  rintro e w5 ⟨rfl, s5⟩
  have SS5 := Lib.hid s5
  clear s5 SS4
  go_wp2_with fail
  rw [rounds_succ]
  go_wp2_with fail
  refine (A4.out _ D K SS5.out).mono ?_
  rintro e w6 ⟨rfl, s6⟩
  have SS6 := Lib.hid s6
  clear s6 SS5
  go_wp2_with fail
  rw [rounds_succ]
  go_wp2_with fail
  refine (FB.out _ (by have := y4'.out; omega)).mono ?_
  rintro e w7 ⟨rfl, b7⟩
  have SS7 := Lib.hid (SS6.out.below b7)
  clear b7 SS6
  go_wp2_with fail
  refine (A5.out _ D K SS7.out).mono ?_
  rintro e w8 ⟨rfl, s8⟩
  have SS8 := Lib.hid s8
  clear s8 SS7
  go_wp2_with fail
  rw [rounds_succ]
  have j1 := (sd_cells (SS8.out.get 0 rfl)).c10
  have j2 := (sd_cells (SS8.out.get 1 rfl)).c10
  go_wp2_with fail
  go_quiet (fail)
  go_wp2
  go_ret2
  exact ⟨rfl, below_drewN SS8.out.st.bel _⟩
set_option maxRecDepth 100000 in
set_option maxHeartbeats 4000000 in
theorem spec3_E (xd yd : Bool) (xn xw xc yn yw yc : ByteArray) (gx gy cx cy : Nat) (bit : Nat) (hbit : bit ≤ 65535) (W : World) (ht : Tabs W) (d l : Sd) (hel : ByteArray)
    (hDY : ∀ W, Calls Tryd.prog 24 #[.agg #[.string xn, .int .i64 gx], .string xw, .string xc, .int .u64 cx] W (Made 83 d hel W)) (hLY : ∀ W, Calls Tryd.prog 25 #[.agg #[.string yn, .int .i64 gy], .string yc, .int .u64 cy] W (MadeL 83 l W))
    (F0 : Fine d) (G0 : Fine l) (zh : hel.size ≤ 100000) (l1 : Sd) (o1 : ByteArray) (e1 : Nat) (h1 : takeF l hel = (l1, o1, e1)) (k1 : e1 = 0) (l2 : Sd) (o2 : ByteArray) (e2 : Nat) (h2 : answerF l1 1 = (l2, o2, e2)) (k2 : e2 = 0) (d1 : Sd) (o3 : ByteArray) (e3 : Nat) (h3 : takeF d o2 = (d1, o3, e3)) (k3 : e3 = 0) (l3 : Sd) (o4 : ByteArray) (e4 : Nat) (h4 : takeF l2 o3 = (l3, o4, e4)) (k4 : e4 = 0) (d2 : Sd) (o5 : ByteArray) (e5 : Nat) (h5 : takeF d1 (flipF o4 bit) = (d2, o5, e5)) (k5 : e5 ≠ 0) :
    Calls Tryd.prog 21 #[stgV (⟨xd, xn, gx, xw, xc, cx⟩ : Stg), stgV (⟨yd, yn, gy, yw, yc, cy⟩ : Stg), .int .i64 3, .int .u16 bit] W fun e W' => e = .returned (.tuple #[.int .i64 d2.state, .int .i64 l3.state]) ∧ Below W.heap.size W W' := by
  have X0 := Lib.hid (Bx.of (x := (⟨xd, xn, gx, xw, xc, cx⟩ : Stg)) ((Blk.new W 26 #[.bool xd, .string xn, .int .i64 (gx : Int), .string xw, .string xc, .int .u64 (cx : Int)]).alloc (.cells #[.bool yd, .string yn, .int .i64 (gy : Int), .string yw, .string yc, .int .u64 (cy : Int)] 26)))
  have Y0 := Lib.hid (Bx.of (x := (⟨yd, yn, gy, yw, yc, cy⟩ : Stg)) (Blk.new (W.alloc (.cells #[.bool xd, .string xn, .int .i64 (gx : Int), .string xw, .string xc, .int .u64 (cx : Int)] 26)) 26 #[.bool yd, .string yn, .int .i64 (gy : Int), .string yw, .string yc, .int .u64 (cy : Int)]))
  have S0 := Lib.hid (((St.refl ht).alloc (.cells #[.bool xd, .string xn, .int .i64 (gx : Int), .string xw, .string xc, .int .u64 (cx : Int)] 26)).alloc (.cells #[.bool yd, .string yn, .int .i64 (gy : Int), .string yw, .string yc, .int .u64 (cy : Int)] 26))
  have DY := Lib.hid hDY
  have LY := Lib.hid hLY
  have FC := Lib.hid (fun W b hz => flipped_any b bit hz hbit W)
  have fine0 := F0
  clear fine0
  have z0 : hel.size ≤ 100000 := by omega
  have A1 : Hid (∀ V D K, Ss W V [(D, 83, d), (K, 83, l)] → Calls Tryd.prog 29 #[.pointer (some ⟨K, 0, none⟩), .string hel] V (Saw W [(D, 83, d), (K, 83, l1)] (.tuple #[.string o1, .int .i64 e1]))) :=
    Lib.hid (fun V D K h => by have := h.take83 1 rfl G0 hel z0; rw [h1] at this; exact this)
  have G1 : Fine l1 := by have := G0.take hel; rw [h1] at this; exact this
  have A2 : Hid (∀ V D K, Ss W V [(D, 83, d), (K, 83, l1)] → Calls Tryd.prog 28 #[.pointer (some ⟨K, 0, none⟩), .int .i64 1] V (Saw W [(D, 83, d), (K, 83, l2)] (.tuple #[.string o2, .int .i64 e2]))) :=
    Lib.hid (fun V D K h => by have := h.answer83 1 rfl G1 1; rw [h2] at this; exact this)
  have y2 : o2.size ≤ 100 := by have := answer_out l1 G1 1; rw [h2] at this; exact this
  have z1 : o2.size ≤ 100000 := by omega
  have A3 : Hid (∀ V D K, Ss W V [(D, 83, d), (K, 83, l2)] → Calls Tryd.prog 29 #[.pointer (some ⟨D, 0, none⟩), .string o2] V (Saw W [(D, 83, d1), (K, 83, l2)] (.tuple #[.string o3, .int .i64 e3]))) :=
    Lib.hid (fun V D K h => by have := h.take83 0 rfl F0 o2 z1; rw [h3] at this; exact this)
  have y2' := Lib.hid y2
  have G2 : Fine l2 := by have := G1.answer 1; rw [h2] at this; exact this
  have y3 : o3.size ≤ 100 := by have := take_out d o2; rw [h3] at this; exact this
  have z2 : o3.size ≤ 100000 := by omega
  have y3' := Lib.hid y3
  have A4 : Hid (∀ V D K, Ss W V [(D, 83, d1), (K, 83, l2)] → Calls Tryd.prog 29 #[.pointer (some ⟨K, 0, none⟩), .string o3] V (Saw W [(D, 83, d1), (K, 83, l3)] (.tuple #[.string o4, .int .i64 e4]))) :=
    Lib.hid (fun V D K h => by have := h.take83 1 rfl G2 o3 z2; rw [h4] at this; exact this)
  have F1 : Fine d1 := by have := F0.take o2; rw [h3] at this; exact this
  have y4 : o4.size ≤ 100 := by have := take_out l2 o3; rw [h4] at this; exact this
  have z3 : (flipF o4 bit).size ≤ 100000 := by have := flipF_size o4 bit; omega
  have y4' := Lib.hid y4
  have A5 : Hid (∀ V D K, Ss W V [(D, 83, d1), (K, 83, l3)] → Calls Tryd.prog 29 #[.pointer (some ⟨D, 0, none⟩), .string (flipF o4 bit)] V (Saw W [(D, 83, d2), (K, 83, l3)] (.tuple #[.string o5, .int .i64 e5]))) :=
    Lib.hid (fun V D K h => by have := h.take83 0 rfl F1 (flipF o4 bit) z3; rw [h5] at this; exact this)
  have q1 : ((e1 : Int) != 0) = false := by rw [bne_eq_false_iff_eq]; omega
  have p1 : ((e1 : Int) == 0) = true := by rw [beq_iff_eq]; omega
  have q2 : ((e2 : Int) != 0) = false := by rw [bne_eq_false_iff_eq]; omega
  have p2 : ((e2 : Int) == 0) = true := by rw [beq_iff_eq]; omega
  have q3 : ((e3 : Int) != 0) = false := by rw [bne_eq_false_iff_eq]; omega
  have p3 : ((e3 : Int) == 0) = true := by rw [beq_iff_eq]; omega
  have q4 : ((e4 : Int) != 0) = false := by rw [bne_eq_false_iff_eq]; omega
  have p4 : ((e4 : Int) == 0) = true := by rw [beq_iff_eq]; omega
  have q5 : ((e5 : Int) != 0) = true := by rw [bne_iff_ne]; omega
  have p5 : ((e5 : Int) == 0) = false := by exact beq_eq_false_iff_ne.2 (by omega)
  have zh' := Lib.hid zh
  obtain ⟨cc, hcc⟩ : ∃ c, c = flipF o4 bit := ⟨_, rfl⟩
  have FB : Hid (∀ W, o4.size ≤ 100000 → Calls Tryd.prog 20 #[.string o4, .int .u16 bit] W fun e w' => e = .returned (.string cc) ∧ Below W.heap.size W w') := Lib.hid (fun W h => by rw [hcc]; exact FC.out W o4 h)
  rw [← hcc] at A5
  clear hcc
  clear ht hDY hLY F0 G0 zh hbit FC k1 k2 k3 k4 k5 h1 z0 G1 h2 y2 z1 h3 G2 y3 z2 h4 F1 y4 z3 h5
  unfold stgV
  go_enter Tryd.func21, Tryd.ntmps21
  obtain ⟨c0, c1, c2, c3, c4, c5⟩ := X0.out
  obtain ⟨d0, d1, d2, d3, d4, d5⟩ := Y0.out
  dsimp only at c0 c1 c2 c3 c4 c5
  simp only [World.size_alloc] at d0 d1 d2 d3 d4 d5
  have SS0 := Lib.hid (Ss.ofSt S0.out)
  go_wp2_with fail
  refine (DY.out _).mono ?_
  rintro e w1 ⟨D, rfl, gB, kB, b1⟩
  have SS1 := Lib.hid (SS0.out.add kB gB b1)
  clear c0 c1 c2 c3 c4 c5 d0 d1 d2 d3 d4 d5
  have X1 := Lib.hid (X0.out.below b1)
  have Y1 := Lib.hid (Y0.out.below b1)
  obtain ⟨c0, c1, c2, c3, c4, c5⟩ := X1.out
  obtain ⟨d0, d1, d2, d3, d4, d5⟩ := Y1.out
  dsimp only at c0 c1 c2 c3 c4 c5
  simp only [World.size_alloc] at d0 d1 d2 d3 d4 d5
  clear b1 SS0 X0 Y0 gB kB
  go_wp2_with fail
  refine (LY.out _).mono ?_
  rintro e w2 ⟨K, rfl, gB, kB, b2⟩
  have SS2 := Lib.hid (SS1.out.add kB gB b2)
  clear c0 c1 c2 c3 c4 c5 d0 d1 d2 d3 d4 d5
  have X2 := Lib.hid (X1.out.below b2)
  have Y2 := Lib.hid (Y1.out.below b2)
  clear b2 SS1 X1 Y1 gB kB
  clear X2 Y2 S0
  go_wp2_with fail
  refine wp_loop_rounds 5 ?_
  rw [rounds_succ]
  go_wp2_with fail
  refine (A1.out _ D K SS2.out).mono ?_
  rintro e w3 ⟨rfl, s3⟩
  have SS3 := Lib.hid s3
  clear s3 SS2
  go_wp2_with fail
  refine (A2.out _ D K SS3.out).mono ?_
  rintro e w4 ⟨rfl, s4⟩
  have SS4 := Lib.hid s4
  clear s4 SS3
  go_wp2_with fail
  rw [rounds_succ]
  go_wp2_with fail
  refine (A3.out _ D K SS4.out).mono ?_
  rintro e w5 ⟨rfl, s5⟩
  have SS5 := Lib.hid s5
  clear s5 SS4
  go_wp2_with fail
  rw [rounds_succ]
  go_wp2_with fail
  refine (A4.out _ D K SS5.out).mono ?_
  rintro e w6 ⟨rfl, s6⟩
  have SS6 := Lib.hid s6
  clear s6 SS5
  go_wp2_with fail
  rw [rounds_succ]
  go_wp2_with fail
  refine (FB.out _ (by have := y4'.out; omega)).mono ?_
  rintro e w7 ⟨rfl, b7⟩
  have SS7 := Lib.hid (SS6.out.below b7)
  clear b7 SS6
  go_wp2_with fail
  refine (A5.out _ D K SS7.out).mono ?_
  rintro e w8 ⟨rfl, s8⟩
  have SS8 := Lib.hid s8
  clear s8 SS7
  have j1 := (sd_cells (SS8.out.get 0 rfl)).c10
  have j2 := (sd_cells (SS8.out.get 1 rfl)).c10
  go_wp2_with fail
  go_quiet (fail)
  go_wp2
  go_ret2
  exact ⟨rfl, below_drewN SS8.out.st.bel _⟩
end Go.Proofs.YtnkkbkceapcahaaDoor
