/- The walk of run over a change that changes nothing. -/
import Derived.Test.YtnkkbkceapcahaaDoorRun
import Derived.Test.YtnkkbkceapcahaaDoorMeetsR
namespace Go.Proofs.YtnkkbkceapcahaaDoor
open Go.RowKit Go.Rt Go.Rw

/-- Both sides as a run leaves them. -/
def RunOut (W : World) (d l : Sd) (e : Ending) (W' : World) : Prop := ∃ D K, e = .returned (.tuple #[.pointer (some ⟨D, 0, none⟩), .pointer (some ⟨K, 0, none⟩)]) ∧ Ss W W' [(D, 46, d), (K, 46, l)]
theorem prOk_of {n : ByteArray} {g : Nat} (h : (nameF n && genI g) = true) : PrOk ⟨n, g⟩ := by
  rw [Bool.and_eq_true] at h
  have := h.2
  unfold genI at this
  simp only [Bool.and_eq_true, decide_eq_true_eq] at this
  exact ⟨h.1, by show 1 ≤ g; omega, by show g ≤ _; omega⟩
theorem Ss.base {w W W' : World} {L : List Ent} (h : Ss W W' L) (b : St w W) : Ss w W' L :=
  ⟨fun i x hx => ⟨(h.blk i x hx).1, by have := (h.blk i x hx).2; have := b.bel.size; omega⟩, h.ne, ⟨h.st.tabs, b.bel.trans (h.st.bel.mono b.bel.size)⟩⟩
theorem plain_any (i : Int) (b : ByteArray) (w : World) : Calls Tryd.prog 30 #[.int .i64 i, .string b] w fun e w' => e = .returned (.string b) ∧ w = w' := by
  go_enter Tryd.func30, Tryd.ntmps30
  go_wp2
  go_ret
  exact ⟨rfl, rfl⟩
theorem mId_size : ∀ i b, (mId i b).size ≤ b.size := fun _ _ => Nat.le_refl _
set_option maxRecDepth 100000 in
set_option maxHeartbeats 4000000 in
theorem runP_A (xd yd : Bool) (xn xw xc yn yw yc : ByteArray) (gx gy cx cy : Nat) (how : Int) (W : World) (ht : Tabs W) (d l : Sd) (hel : ByteArray) (hm : ∀ i b, (mId i b).size ≤ b.size)
    (hDY : ∀ W, Calls Tryd.prog 12 #[.agg #[.string xn, .int .i64 gx], .string xw, .string xc, .int .u64 cx] W (Made 46 d hel W)) (hLY : ∀ W, Calls Tryd.prog 13 #[.agg #[.string yn, .int .i64 gy], .string yc, .int .u64 cy] W (MadeL 46 l W))
    (F0 : Fine d) (G0 : Fine l) (zh : hel.size ≤ 100000) (l1 : Sd) (o1 : ByteArray) (e1 : Nat) (h1 : takeF l (mId 0 hel) = (l1, o1, e1)) (k1 : e1 ≠ 0) :
    Calls Tryd.prog 18 #[stgV (⟨xd, xn, gx, xw, xc, cx⟩ : Stg), stgV (⟨yd, yn, gy, yw, yc, cy⟩ : Stg), .int .i64 how, .func (.func 30) #[] #[]] W (RunOut W d l1) := by
  have X0 := Lib.hid (Bx.of (x := (⟨xd, xn, gx, xw, xc, cx⟩ : Stg)) ((Blk.new W 26 #[.bool xd, .string xn, .int .i64 (gx : Int), .string xw, .string xc, .int .u64 (cx : Int)]).alloc (.cells #[.bool yd, .string yn, .int .i64 (gy : Int), .string yw, .string yc, .int .u64 (cy : Int)] 26)))
  have Y0 := Lib.hid (Bx.of (x := (⟨yd, yn, gy, yw, yc, cy⟩ : Stg)) (Blk.new (W.alloc (.cells #[.bool xd, .string xn, .int .i64 (gx : Int), .string xw, .string xc, .int .u64 (cx : Int)] 26)) 26 #[.bool yd, .string yn, .int .i64 (gy : Int), .string yw, .string yc, .int .u64 (cy : Int)]))
  have S0 := Lib.hid (((St.refl ht).alloc (.cells #[.bool xd, .string xn, .int .i64 (gx : Int), .string xw, .string xc, .int .u64 (cx : Int)] 26)).alloc (.cells #[.bool yd, .string yn, .int .i64 (gy : Int), .string yw, .string yc, .int .u64 (cy : Int)] 26))
  have DY := Lib.hid hDY
  have LY := Lib.hid hLY
  have z1 : (mId 0 hel).size ≤ 100000 := by have := hm 0 hel; omega
  have A1 : Hid (∀ V D K, Ss W V [(D, 46, d), (K, 46, l)] → Calls Tryd.prog 14 #[.pointer (some ⟨K, 0, none⟩), .string (mId 0 hel)] V (Saw W [(D, 46, d), (K, 46, l1)] (.tuple #[.string o1, .int .i64 e1]))) :=
    Lib.hid (fun V D K h => by have := h.take46 1 rfl G0 (mId 0 hel) z1; rw [h1] at this; exact this)
  have fine0 := F0
  clear fine0
  have q1 : ((e1 : Int) != 0) = true := by rw [bne_iff_ne]; omega
  have zh' := Lib.hid zh
  simp only [mId] at *
  clear ht hDY hLY F0 G0 zh hm k1 h1 z1
  unfold stgV
  go_enter Tryd.func18, Tryd.ntmps18
  obtain ⟨c0, c1, c2, c3, c4, c5⟩ := X0.out
  obtain ⟨d0, d1, d2, d3, d4, d5⟩ := Y0.out
  dsimp only at c0 c1 c2 c3 c4 c5
  simp only [World.size_alloc] at d0 d1 d2 d3 d4 d5
  have SS0 := Lib.hid (Ss.ofSt S0.out)
  go_wp2_with fail
  refine (DY.out _).mono ?_
  rintro e w1 ⟨D, rfl, gB, kB, b1⟩
  have SS1 := Lib.hid (SS0.out.add kB gB b1)
  clear c0 c1 c2 c3 c4 c5 d0 d1 d2 d3 d4 d5
  have X1 := Lib.hid (X0.out.below b1)
  have Y1 := Lib.hid (Y0.out.below b1)
  obtain ⟨c0, c1, c2, c3, c4, c5⟩ := X1.out
  obtain ⟨d0, d1, d2, d3, d4, d5⟩ := Y1.out
  dsimp only at c0 c1 c2 c3 c4 c5
  simp only [World.size_alloc] at d0 d1 d2 d3 d4 d5
  clear b1 SS0 X0 Y0 gB kB
  go_wp2_with fail
  refine (LY.out _).mono ?_
  rintro e w2 ⟨K, rfl, gB, kB, b2⟩
  have SS2 := Lib.hid (SS1.out.add kB gB b2)
  clear c0 c1 c2 c3 c4 c5 d0 d1 d2 d3 d4 d5
  have X2 := Lib.hid (X1.out.below b2)
  have Y2 := Lib.hid (Y1.out.below b2)
  clear b2 SS1 X1 Y1 gB kB
  clear X2 Y2 S0
  go_wp2_with fail
  refine (plain_any 0 hel _).mono ?_
  rintro e w' ⟨rfl, rfl⟩
  go_wp2_with fail
  refine (A1.out _ D K SS2.out).mono ?_
  rintro e w3 ⟨rfl, s3⟩
  have SS3 := Lib.hid s3
  clear s3 SS2
  go_wp2
  go_ret2
  exact ⟨D, K, rfl, SS3.out⟩
set_option maxRecDepth 100000 in
set_option maxHeartbeats 4000000 in
theorem runP_B (xd yd : Bool) (xn xw xc yn yw yc : ByteArray) (gx gy cx cy : Nat) (how : Int) (W : World) (ht : Tabs W) (d l : Sd) (hel : ByteArray) (hm : ∀ i b, (mId i b).size ≤ b.size)
    (hDY : ∀ W, Calls Tryd.prog 12 #[.agg #[.string xn, .int .i64 gx], .string xw, .string xc, .int .u64 cx] W (Made 46 d hel W)) (hLY : ∀ W, Calls Tryd.prog 13 #[.agg #[.string yn, .int .i64 gy], .string yc, .int .u64 cy] W (MadeL 46 l W))
    (F0 : Fine d) (G0 : Fine l) (zh : hel.size ≤ 100000) (l1 : Sd) (o1 : ByteArray) (e1 : Nat) (h1 : takeF l (mId 0 hel) = (l1, o1, e1)) (k1 : e1 = 0) (l2 : Sd) (o2 : ByteArray) (e2 : Nat) (h2 : answerF l1 how = (l2, o2, e2)) (d1 : Sd) (o3 : ByteArray) (e3 : Nat) (h3 : takeF d (mId 1 o2) = (d1, o3, e3)) (k3 : e3 ≠ 0) :
    Calls Tryd.prog 18 #[stgV (⟨xd, xn, gx, xw, xc, cx⟩ : Stg), stgV (⟨yd, yn, gy, yw, yc, cy⟩ : Stg), .int .i64 how, .func (.func 30) #[] #[]] W (RunOut W d1 l2) := by
  have X0 := Lib.hid (Bx.of (x := (⟨xd, xn, gx, xw, xc, cx⟩ : Stg)) ((Blk.new W 26 #[.bool xd, .string xn, .int .i64 (gx : Int), .string xw, .string xc, .int .u64 (cx : Int)]).alloc (.cells #[.bool yd, .string yn, .int .i64 (gy : Int), .string yw, .string yc, .int .u64 (cy : Int)] 26)))
  have Y0 := Lib.hid (Bx.of (x := (⟨yd, yn, gy, yw, yc, cy⟩ : Stg)) (Blk.new (W.alloc (.cells #[.bool xd, .string xn, .int .i64 (gx : Int), .string xw, .string xc, .int .u64 (cx : Int)] 26)) 26 #[.bool yd, .string yn, .int .i64 (gy : Int), .string yw, .string yc, .int .u64 (cy : Int)]))
  have S0 := Lib.hid (((St.refl ht).alloc (.cells #[.bool xd, .string xn, .int .i64 (gx : Int), .string xw, .string xc, .int .u64 (cx : Int)] 26)).alloc (.cells #[.bool yd, .string yn, .int .i64 (gy : Int), .string yw, .string yc, .int .u64 (cy : Int)] 26))
  have DY := Lib.hid hDY
  have LY := Lib.hid hLY
  have z1 : (mId 0 hel).size ≤ 100000 := by have := hm 0 hel; omega
  have A1 : Hid (∀ V D K, Ss W V [(D, 46, d), (K, 46, l)] → Calls Tryd.prog 14 #[.pointer (some ⟨K, 0, none⟩), .string (mId 0 hel)] V (Saw W [(D, 46, d), (K, 46, l1)] (.tuple #[.string o1, .int .i64 e1]))) :=
    Lib.hid (fun V D K h => by have := h.take46 1 rfl G0 (mId 0 hel) z1; rw [h1] at this; exact this)
  have G1 : Fine l1 := by have := G0.take (mId 0 hel); rw [h1] at this; exact this
  have A2 : Hid (∀ V D K, Ss W V [(D, 46, d), (K, 46, l1)] → Calls Tryd.prog 15 #[.pointer (some ⟨K, 0, none⟩), .int .i64 how] V (Saw W [(D, 46, d), (K, 46, l2)] (.tuple #[.string o2, .int .i64 e2]))) :=
    Lib.hid (fun V D K h => by have := h.answer46 1 rfl G1 how; rw [h2] at this; exact this)
  have y2 : o2.size ≤ 100 := by have := answer_out l1 G1 how; rw [h2] at this; exact this
  have z2 : (mId 1 o2).size ≤ 100000 := by have := hm 1 o2; omega
  have A3 : Hid (∀ V D K, Ss W V [(D, 46, d), (K, 46, l2)] → Calls Tryd.prog 14 #[.pointer (some ⟨D, 0, none⟩), .string (mId 1 o2)] V (Saw W [(D, 46, d1), (K, 46, l2)] (.tuple #[.string o3, .int .i64 e3]))) :=
    Lib.hid (fun V D K h => by have := h.take46 0 rfl F0 (mId 1 o2) z2; rw [h3] at this; exact this)
  have y2' := Lib.hid y2
  have q1 : ((e1 : Int) != 0) = false := by rw [bne_eq_false_iff_eq]; omega
  have q3 : ((e3 : Int) != 0) = true := by rw [bne_iff_ne]; omega
  have zh' := Lib.hid zh
  simp only [mId] at *
  clear ht hDY hLY F0 G0 zh hm k1 k3 h1 z1 G1 h2 y2 z2 h3
  unfold stgV
  go_enter Tryd.func18, Tryd.ntmps18
  obtain ⟨c0, c1, c2, c3, c4, c5⟩ := X0.out
  obtain ⟨d0, d1, d2, d3, d4, d5⟩ := Y0.out
  dsimp only at c0 c1 c2 c3 c4 c5
  simp only [World.size_alloc] at d0 d1 d2 d3 d4 d5
  have SS0 := Lib.hid (Ss.ofSt S0.out)
  go_wp2_with fail
  refine (DY.out _).mono ?_
  rintro e w1 ⟨D, rfl, gB, kB, b1⟩
  have SS1 := Lib.hid (SS0.out.add kB gB b1)
  clear c0 c1 c2 c3 c4 c5 d0 d1 d2 d3 d4 d5
  have X1 := Lib.hid (X0.out.below b1)
  have Y1 := Lib.hid (Y0.out.below b1)
  obtain ⟨c0, c1, c2, c3, c4, c5⟩ := X1.out
  obtain ⟨d0, d1, d2, d3, d4, d5⟩ := Y1.out
  dsimp only at c0 c1 c2 c3 c4 c5
  simp only [World.size_alloc] at d0 d1 d2 d3 d4 d5
  clear b1 SS0 X0 Y0 gB kB
  go_wp2_with fail
  refine (LY.out _).mono ?_
  rintro e w2 ⟨K, rfl, gB, kB, b2⟩
  have SS2 := Lib.hid (SS1.out.add kB gB b2)
  clear c0 c1 c2 c3 c4 c5 d0 d1 d2 d3 d4 d5
  have X2 := Lib.hid (X1.out.below b2)
  have Y2 := Lib.hid (Y1.out.below b2)
  clear b2 SS1 X1 Y1 gB kB
  clear X2 Y2 S0
  go_wp2_with fail
  refine (plain_any 0 hel _).mono ?_
  rintro e w' ⟨rfl, rfl⟩
  go_wp2_with fail
  refine (A1.out _ D K SS2.out).mono ?_
  rintro e w3 ⟨rfl, s3⟩
  have SS3 := Lib.hid s3
  clear s3 SS2
  go_wp2_with fail
  refine (A2.out _ D K SS3.out).mono ?_
  rintro e w4 ⟨rfl, s4⟩
  have SS4 := Lib.hid s4
  clear s4 SS3
  go_wp2_with fail
  refine (plain_any 1 o2 _).mono ?_
  rintro e w' ⟨rfl, rfl⟩
  go_wp2_with fail
  refine (A3.out _ D K SS4.out).mono ?_
  rintro e w5 ⟨rfl, s5⟩
  have SS5 := Lib.hid s5
  clear s5 SS4
  go_wp2
  go_ret2
  exact ⟨D, K, rfl, SS5.out⟩
set_option maxRecDepth 100000 in
set_option maxHeartbeats 4000000 in
theorem runP_C (xd yd : Bool) (xn xw xc yn yw yc : ByteArray) (gx gy cx cy : Nat) (how : Int) (W : World) (ht : Tabs W) (d l : Sd) (hel : ByteArray) (hm : ∀ i b, (mId i b).size ≤ b.size)
    (hDY : ∀ W, Calls Tryd.prog 12 #[.agg #[.string xn, .int .i64 gx], .string xw, .string xc, .int .u64 cx] W (Made 46 d hel W)) (hLY : ∀ W, Calls Tryd.prog 13 #[.agg #[.string yn, .int .i64 gy], .string yc, .int .u64 cy] W (MadeL 46 l W))
    (F0 : Fine d) (G0 : Fine l) (zh : hel.size ≤ 100000) (l1 : Sd) (o1 : ByteArray) (e1 : Nat) (h1 : takeF l (mId 0 hel) = (l1, o1, e1)) (k1 : e1 = 0) (l2 : Sd) (o2 : ByteArray) (e2 : Nat) (h2 : answerF l1 how = (l2, o2, e2)) (d1 : Sd) (o3 : ByteArray) (e3 : Nat) (h3 : takeF d (mId 1 o2) = (d1, o3, e3)) (k3 : e3 = 0) (l3 : Sd) (o4 : ByteArray) (e4 : Nat) (h4 : takeF l2 (mId 2 o3) = (l3, o4, e4)) (k4 : e4 ≠ 0) :
    Calls Tryd.prog 18 #[stgV (⟨xd, xn, gx, xw, xc, cx⟩ : Stg), stgV (⟨yd, yn, gy, yw, yc, cy⟩ : Stg), .int .i64 how, .func (.func 30) #[] #[]] W (RunOut W d1 l3) := by
  have X0 := Lib.hid (Bx.of (x := (⟨xd, xn, gx, xw, xc, cx⟩ : Stg)) ((Blk.new W 26 #[.bool xd, .string xn, .int .i64 (gx : Int), .string xw, .string xc, .int .u64 (cx : Int)]).alloc (.cells #[.bool yd, .string yn, .int .i64 (gy : Int), .string yw, .string yc, .int .u64 (cy : Int)] 26)))
  have Y0 := Lib.hid (Bx.of (x := (⟨yd, yn, gy, yw, yc, cy⟩ : Stg)) (Blk.new (W.alloc (.cells #[.bool xd, .string xn, .int .i64 (gx : Int), .string xw, .string xc, .int .u64 (cx : Int)] 26)) 26 #[.bool yd, .string yn, .int .i64 (gy : Int), .string yw, .string yc, .int .u64 (cy : Int)]))
  have S0 := Lib.hid (((St.refl ht).alloc (.cells #[.bool xd, .string xn, .int .i64 (gx : Int), .string xw, .string xc, .int .u64 (cx : Int)] 26)).alloc (.cells #[.bool yd, .string yn, .int .i64 (gy : Int), .string yw, .string yc, .int .u64 (cy : Int)] 26))
  have DY := Lib.hid hDY
  have LY := Lib.hid hLY
  have z1 : (mId 0 hel).size ≤ 100000 := by have := hm 0 hel; omega
  have A1 : Hid (∀ V D K, Ss W V [(D, 46, d), (K, 46, l)] → Calls Tryd.prog 14 #[.pointer (some ⟨K, 0, none⟩), .string (mId 0 hel)] V (Saw W [(D, 46, d), (K, 46, l1)] (.tuple #[.string o1, .int .i64 e1]))) :=
    Lib.hid (fun V D K h => by have := h.take46 1 rfl G0 (mId 0 hel) z1; rw [h1] at this; exact this)
  have G1 : Fine l1 := by have := G0.take (mId 0 hel); rw [h1] at this; exact this
  have A2 : Hid (∀ V D K, Ss W V [(D, 46, d), (K, 46, l1)] → Calls Tryd.prog 15 #[.pointer (some ⟨K, 0, none⟩), .int .i64 how] V (Saw W [(D, 46, d), (K, 46, l2)] (.tuple #[.string o2, .int .i64 e2]))) :=
    Lib.hid (fun V D K h => by have := h.answer46 1 rfl G1 how; rw [h2] at this; exact this)
  have y2 : o2.size ≤ 100 := by have := answer_out l1 G1 how; rw [h2] at this; exact this
  have z2 : (mId 1 o2).size ≤ 100000 := by have := hm 1 o2; omega
  have A3 : Hid (∀ V D K, Ss W V [(D, 46, d), (K, 46, l2)] → Calls Tryd.prog 14 #[.pointer (some ⟨D, 0, none⟩), .string (mId 1 o2)] V (Saw W [(D, 46, d1), (K, 46, l2)] (.tuple #[.string o3, .int .i64 e3]))) :=
    Lib.hid (fun V D K h => by have := h.take46 0 rfl F0 (mId 1 o2) z2; rw [h3] at this; exact this)
  have y2' := Lib.hid y2
  have G2 : Fine l2 := by have := G1.answer how; rw [h2] at this; exact this
  have y3 : o3.size ≤ 100 := by have := take_out d (mId 1 o2); rw [h3] at this; exact this
  have z3 : (mId 2 o3).size ≤ 100000 := by have := hm 2 o3; omega
  have y3' := Lib.hid y3
  have A4 : Hid (∀ V D K, Ss W V [(D, 46, d1), (K, 46, l2)] → Calls Tryd.prog 14 #[.pointer (some ⟨K, 0, none⟩), .string (mId 2 o3)] V (Saw W [(D, 46, d1), (K, 46, l3)] (.tuple #[.string o4, .int .i64 e4]))) :=
    Lib.hid (fun V D K h => by have := h.take46 1 rfl G2 (mId 2 o3) z3; rw [h4] at this; exact this)
  have q1 : ((e1 : Int) != 0) = false := by rw [bne_eq_false_iff_eq]; omega
  have q3 : ((e3 : Int) != 0) = false := by rw [bne_eq_false_iff_eq]; omega
  have q4 : ((e4 : Int) != 0) = true := by rw [bne_iff_ne]; omega
  have zh' := Lib.hid zh
  simp only [mId] at *
  clear ht hDY hLY F0 G0 zh hm k1 k3 k4 h1 z1 G1 h2 y2 z2 h3 G2 y3 z3 h4
  unfold stgV
  go_enter Tryd.func18, Tryd.ntmps18
  obtain ⟨c0, c1, c2, c3, c4, c5⟩ := X0.out
  obtain ⟨d0, d1, d2, d3, d4, d5⟩ := Y0.out
  dsimp only at c0 c1 c2 c3 c4 c5
  simp only [World.size_alloc] at d0 d1 d2 d3 d4 d5
  have SS0 := Lib.hid (Ss.ofSt S0.out)
  go_wp2_with fail
  refine (DY.out _).mono ?_
  rintro e w1 ⟨D, rfl, gB, kB, b1⟩
  have SS1 := Lib.hid (SS0.out.add kB gB b1)
  clear c0 c1 c2 c3 c4 c5 d0 d1 d2 d3 d4 d5
  have X1 := Lib.hid (X0.out.below b1)
  have Y1 := Lib.hid (Y0.out.below b1)
  obtain ⟨c0, c1, c2, c3, c4, c5⟩ := X1.out
  obtain ⟨d0, d1, d2, d3, d4, d5⟩ := Y1.out
  dsimp only at c0 c1 c2 c3 c4 c5
  simp only [World.size_alloc] at d0 d1 d2 d3 d4 d5
  clear b1 SS0 X0 Y0 gB kB
  go_wp2_with fail
  refine (LY.out _).mono ?_
  rintro e w2 ⟨K, rfl, gB, kB, b2⟩
  have SS2 := Lib.hid (SS1.out.add kB gB b2)
  clear c0 c1 c2 c3 c4 c5 d0 d1 d2 d3 d4 d5
  have X2 := Lib.hid (X1.out.below b2)
  have Y2 := Lib.hid (Y1.out.below b2)
  clear b2 SS1 X1 Y1 gB kB
  clear X2 Y2 S0
  go_wp2_with fail
  refine (plain_any 0 hel _).mono ?_
  rintro e w' ⟨rfl, rfl⟩
  go_wp2_with fail
  refine (A1.out _ D K SS2.out).mono ?_
  rintro e w3 ⟨rfl, s3⟩
  have SS3 := Lib.hid s3
  clear s3 SS2
  go_wp2_with fail
  refine (A2.out _ D K SS3.out).mono ?_
  rintro e w4 ⟨rfl, s4⟩
  have SS4 := Lib.hid s4
  clear s4 SS3
  go_wp2_with fail
  refine (plain_any 1 o2 _).mono ?_
  rintro e w' ⟨rfl, rfl⟩
  go_wp2_with fail
  refine (A3.out _ D K SS4.out).mono ?_
  rintro e w5 ⟨rfl, s5⟩
  have SS5 := Lib.hid s5
  clear s5 SS4
  go_wp2_with fail
  refine (plain_any 2 o3 _).mono ?_
  rintro e w' ⟨rfl, rfl⟩
  go_wp2_with fail
  refine (A4.out _ D K SS5.out).mono ?_
  rintro e w6 ⟨rfl, s6⟩
  have SS6 := Lib.hid s6
  clear s6 SS5
  go_wp2
  go_ret2
  exact ⟨D, K, rfl, SS6.out⟩
set_option maxRecDepth 100000 in
set_option maxHeartbeats 4000000 in
theorem runP_D (xd yd : Bool) (xn xw xc yn yw yc : ByteArray) (gx gy cx cy : Nat) (how : Int) (W : World) (ht : Tabs W) (d l : Sd) (hel : ByteArray) (hm : ∀ i b, (mId i b).size ≤ b.size)
    (hDY : ∀ W, Calls Tryd.prog 12 #[.agg #[.string xn, .int .i64 gx], .string xw, .string xc, .int .u64 cx] W (Made 46 d hel W)) (hLY : ∀ W, Calls Tryd.prog 13 #[.agg #[.string yn, .int .i64 gy], .string yc, .int .u64 cy] W (MadeL 46 l W))
    (F0 : Fine d) (G0 : Fine l) (zh : hel.size ≤ 100000) (l1 : Sd) (o1 : ByteArray) (e1 : Nat) (h1 : takeF l (mId 0 hel) = (l1, o1, e1)) (k1 : e1 = 0) (l2 : Sd) (o2 : ByteArray) (e2 : Nat) (h2 : answerF l1 how = (l2, o2, e2)) (d1 : Sd) (o3 : ByteArray) (e3 : Nat) (h3 : takeF d (mId 1 o2) = (d1, o3, e3)) (k3 : e3 = 0) (l3 : Sd) (o4 : ByteArray) (e4 : Nat) (h4 : takeF l2 (mId 2 o3) = (l3, o4, e4)) (k4 : e4 = 0) (d2 : Sd) (o5 : ByteArray) (e5 : Nat) (h5 : takeF d1 (mId 3 o4) = (d2, o5, e5)) :
    Calls Tryd.prog 18 #[stgV (⟨xd, xn, gx, xw, xc, cx⟩ : Stg), stgV (⟨yd, yn, gy, yw, yc, cy⟩ : Stg), .int .i64 how, .func (.func 30) #[] #[]] W (RunOut W d2 l3) := by
  have X0 := Lib.hid (Bx.of (x := (⟨xd, xn, gx, xw, xc, cx⟩ : Stg)) ((Blk.new W 26 #[.bool xd, .string xn, .int .i64 (gx : Int), .string xw, .string xc, .int .u64 (cx : Int)]).alloc (.cells #[.bool yd, .string yn, .int .i64 (gy : Int), .string yw, .string yc, .int .u64 (cy : Int)] 26)))
  have Y0 := Lib.hid (Bx.of (x := (⟨yd, yn, gy, yw, yc, cy⟩ : Stg)) (Blk.new (W.alloc (.cells #[.bool xd, .string xn, .int .i64 (gx : Int), .string xw, .string xc, .int .u64 (cx : Int)] 26)) 26 #[.bool yd, .string yn, .int .i64 (gy : Int), .string yw, .string yc, .int .u64 (cy : Int)]))
  have S0 := Lib.hid (((St.refl ht).alloc (.cells #[.bool xd, .string xn, .int .i64 (gx : Int), .string xw, .string xc, .int .u64 (cx : Int)] 26)).alloc (.cells #[.bool yd, .string yn, .int .i64 (gy : Int), .string yw, .string yc, .int .u64 (cy : Int)] 26))
  have DY := Lib.hid hDY
  have LY := Lib.hid hLY
  have z1 : (mId 0 hel).size ≤ 100000 := by have := hm 0 hel; omega
  have A1 : Hid (∀ V D K, Ss W V [(D, 46, d), (K, 46, l)] → Calls Tryd.prog 14 #[.pointer (some ⟨K, 0, none⟩), .string (mId 0 hel)] V (Saw W [(D, 46, d), (K, 46, l1)] (.tuple #[.string o1, .int .i64 e1]))) :=
    Lib.hid (fun V D K h => by have := h.take46 1 rfl G0 (mId 0 hel) z1; rw [h1] at this; exact this)
  have G1 : Fine l1 := by have := G0.take (mId 0 hel); rw [h1] at this; exact this
  have A2 : Hid (∀ V D K, Ss W V [(D, 46, d), (K, 46, l1)] → Calls Tryd.prog 15 #[.pointer (some ⟨K, 0, none⟩), .int .i64 how] V (Saw W [(D, 46, d), (K, 46, l2)] (.tuple #[.string o2, .int .i64 e2]))) :=
    Lib.hid (fun V D K h => by have := h.answer46 1 rfl G1 how; rw [h2] at this; exact this)
  have y2 : o2.size ≤ 100 := by have := answer_out l1 G1 how; rw [h2] at this; exact this
  have z2 : (mId 1 o2).size ≤ 100000 := by have := hm 1 o2; omega
  have A3 : Hid (∀ V D K, Ss W V [(D, 46, d), (K, 46, l2)] → Calls Tryd.prog 14 #[.pointer (some ⟨D, 0, none⟩), .string (mId 1 o2)] V (Saw W [(D, 46, d1), (K, 46, l2)] (.tuple #[.string o3, .int .i64 e3]))) :=
    Lib.hid (fun V D K h => by have := h.take46 0 rfl F0 (mId 1 o2) z2; rw [h3] at this; exact this)
  have y2' := Lib.hid y2
  have G2 : Fine l2 := by have := G1.answer how; rw [h2] at this; exact this
  have y3 : o3.size ≤ 100 := by have := take_out d (mId 1 o2); rw [h3] at this; exact this
  have z3 : (mId 2 o3).size ≤ 100000 := by have := hm 2 o3; omega
  have y3' := Lib.hid y3
  have A4 : Hid (∀ V D K, Ss W V [(D, 46, d1), (K, 46, l2)] → Calls Tryd.prog 14 #[.pointer (some ⟨K, 0, none⟩), .string (mId 2 o3)] V (Saw W [(D, 46, d1), (K, 46, l3)] (.tuple #[.string o4, .int .i64 e4]))) :=
    Lib.hid (fun V D K h => by have := h.take46 1 rfl G2 (mId 2 o3) z3; rw [h4] at this; exact this)
  have F1 : Fine d1 := by have := F0.take (mId 1 o2); rw [h3] at this; exact this
  have y4 : o4.size ≤ 100 := by have := take_out l2 (mId 2 o3); rw [h4] at this; exact this
  have z4 : (mId 3 o4).size ≤ 100000 := by have := hm 3 o4; omega
  have y4' := Lib.hid y4
  have A5 : Hid (∀ V D K, Ss W V [(D, 46, d1), (K, 46, l3)] → Calls Tryd.prog 14 #[.pointer (some ⟨D, 0, none⟩), .string (mId 3 o4)] V (Saw W [(D, 46, d2), (K, 46, l3)] (.tuple #[.string o5, .int .i64 e5]))) :=
    Lib.hid (fun V D K h => by have := h.take46 0 rfl F1 (mId 3 o4) z4; rw [h5] at this; exact this)
  have q1 : ((e1 : Int) != 0) = false := by rw [bne_eq_false_iff_eq]; omega
  have q3 : ((e3 : Int) != 0) = false := by rw [bne_eq_false_iff_eq]; omega
  have q4 : ((e4 : Int) != 0) = false := by rw [bne_eq_false_iff_eq]; omega
  have zh' := Lib.hid zh
  simp only [mId] at *
  clear ht hDY hLY F0 G0 zh hm k1 k3 k4 h1 z1 G1 h2 y2 z2 h3 G2 y3 z3 h4 F1 y4 z4 h5
  unfold stgV
  go_enter Tryd.func18, Tryd.ntmps18
  obtain ⟨c0, c1, c2, c3, c4, c5⟩ := X0.out
  obtain ⟨d0, d1, d2, d3, d4, d5⟩ := Y0.out
  dsimp only at c0 c1 c2 c3 c4 c5
  simp only [World.size_alloc] at d0 d1 d2 d3 d4 d5
  have SS0 := Lib.hid (Ss.ofSt S0.out)
  go_wp2_with fail
  refine (DY.out _).mono ?_
  rintro e w1 ⟨D, rfl, gB, kB, b1⟩
  have SS1 := Lib.hid (SS0.out.add kB gB b1)
  clear c0 c1 c2 c3 c4 c5 d0 d1 d2 d3 d4 d5
  have X1 := Lib.hid (X0.out.below b1)
  have Y1 := Lib.hid (Y0.out.below b1)
  obtain ⟨c0, c1, c2, c3, c4, c5⟩ := X1.out
  obtain ⟨d0, d1, d2, d3, d4, d5⟩ := Y1.out
  dsimp only at c0 c1 c2 c3 c4 c5
  simp only [World.size_alloc] at d0 d1 d2 d3 d4 d5
  clear b1 SS0 X0 Y0 gB kB
  go_wp2_with fail
  refine (LY.out _).mono ?_
  rintro e w2 ⟨K, rfl, gB, kB, b2⟩
  have SS2 := Lib.hid (SS1.out.add kB gB b2)
  clear c0 c1 c2 c3 c4 c5 d0 d1 d2 d3 d4 d5
  have X2 := Lib.hid (X1.out.below b2)
  have Y2 := Lib.hid (Y1.out.below b2)
  clear b2 SS1 X1 Y1 gB kB
  clear X2 Y2 S0
  go_wp2_with fail
  refine (plain_any 0 hel _).mono ?_
  rintro e w' ⟨rfl, rfl⟩
  go_wp2_with fail
  refine (A1.out _ D K SS2.out).mono ?_
  rintro e w3 ⟨rfl, s3⟩
  have SS3 := Lib.hid s3
  clear s3 SS2
  go_wp2_with fail
  refine (A2.out _ D K SS3.out).mono ?_
  rintro e w4 ⟨rfl, s4⟩
  have SS4 := Lib.hid s4
  clear s4 SS3
  go_wp2_with fail
  refine (plain_any 1 o2 _).mono ?_
  rintro e w' ⟨rfl, rfl⟩
  go_wp2_with fail
  refine (A3.out _ D K SS4.out).mono ?_
  rintro e w5 ⟨rfl, s5⟩
  have SS5 := Lib.hid s5
  clear s5 SS4
  go_wp2_with fail
  refine (plain_any 2 o3 _).mono ?_
  rintro e w' ⟨rfl, rfl⟩
  go_wp2_with fail
  refine (A4.out _ D K SS5.out).mono ?_
  rintro e w6 ⟨rfl, s6⟩
  have SS6 := Lib.hid s6
  clear s6 SS5
  go_wp2_with fail
  refine (plain_any 3 o4 _).mono ?_
  rintro e w' ⟨rfl, rfl⟩
  go_wp2_with fail
  refine (A5.out _ D K SS6.out).mono ?_
  rintro e w7 ⟨rfl, s7⟩
  have SS7 := Lib.hid s7
  clear s7 SS6
  go_wp2
  go_ret2
  exact ⟨D, K, rfl, SS7.out⟩
/-- Both sides are made. -/
theorem runP_made (xd yd : Bool) (xn xw xc yn yw yc : ByteArray) (gx gy cx cy : Nat) (how : Int) (W : World) (ht : Tabs W) (hm : ∀ i b, (mId i b).size ≤ b.size)
    (hzx : xn.size ≤ 6000 ∧ xw.size ≤ 6000 ∧ xc.size ≤ 6000) (hzy : yc.size ≤ 6000) (h64x : cx ≤ 18446744073709551615) (h64y : cy ≤ 18446744073709551615) (hd : dialB xn gx xw = true) (hv : (nameF yn && genI gy) = true) :
    Calls Tryd.prog 18 #[stgV (⟨xd, xn, gx, xw, xc, cx⟩ : Stg), stgV (⟨yd, yn, gy, yw, yc, cy⟩ : Stg), .int .i64 how, .func (.func 30) #[] #[]] W (RunOut W (runF (dialS ⟨xn, gx⟩ xw xc cx) (listenS ⟨yn, gy⟩ yc cy) (helloF ⟨xn, gx⟩ xw) how (mId)).1 (runF (dialS ⟨xn, gx⟩ xw xc cx) (listenS ⟨yn, gy⟩ yc cy) (helloF ⟨xn, gx⟩ xw) how (mId)).2.1) := by
  have F0 : Fine (dialS ⟨xn, gx⟩ xw xc cx) := Fine.dialS (prOk_of (dialB_parts hd).1) hzx.2.1 hzx.2.2 h64x
  have G0 : Fine (listenS ⟨yn, gy⟩ yc cy) := Fine.listenS (prOk_of hv) hzy h64y
  have zh : (helloF ⟨xn, gx⟩ xw).size ≤ 100000 := by
    rw [helloF_size]
    show xn.size + _ + 8 ≤ _
    have := hzx.1
    have := hzx.2.1
    omega
  have DY := fun W => dial_yes xn gx xw xc cx hd W
  have LY := fun W => listen_yes yn gy yc cy hv W
  generalize helloF ⟨xn, gx⟩ xw = hel at *
  generalize dialS ⟨xn, gx⟩ xw xc cx = d at *
  generalize listenS ⟨yn, gy⟩ yc cy = l at *
  obtain ⟨⟨l1, o1, e1⟩, h1⟩ : ∃ r, takeF l ((mId) 0 hel) = r := ⟨_, rfl⟩
  by_cases k1 : e1 = 0
  · obtain ⟨⟨l2, o2, e2⟩, h2⟩ : ∃ r, answerF l1 how = r := ⟨_, rfl⟩
    obtain ⟨⟨d1, o3, e3⟩, h3⟩ : ∃ r, takeF d ((mId) 1 o2) = r := ⟨_, rfl⟩
    by_cases k3 : e3 = 0
    · obtain ⟨⟨l3, o4, e4⟩, h4⟩ : ∃ r, takeF l2 ((mId) 2 o3) = r := ⟨_, rfl⟩
      by_cases k4 : e4 = 0
      · obtain ⟨⟨d2, o5, e5⟩, h5⟩ : ∃ r, takeF d1 ((mId) 3 o4) = r := ⟨_, rfl⟩
        have e : (runF d l hel how (mId)).1 = d2 ∧ (runF d l hel how (mId)).2.1 = l3 := by
          unfold runF run2 run3 run4; simp [h1, h2, h3, h4, h5, k1, k3, k4]
        rw [e.1, e.2]
        exact runP_D xd yd xn xw xc yn yw yc gx gy cx cy how W ht d l hel hm DY LY F0 G0 zh l1 o1 e1 h1 k1 l2 o2 e2 h2 d1 o3 e3 h3 k3 l3 o4 e4 h4 k4 d2 o5 e5 h5
      · have e : (runF d l hel how (mId)).1 = d1 ∧ (runF d l hel how (mId)).2.1 = l3 := by
          unfold runF run2 run3 run4; simp [h1, h2, h3, h4, k1, k3, k4]
        rw [e.1, e.2]
        exact runP_C xd yd xn xw xc yn yw yc gx gy cx cy how W ht d l hel hm DY LY F0 G0 zh l1 o1 e1 h1 k1 l2 o2 e2 h2 d1 o3 e3 h3 k3 l3 o4 e4 h4 k4
    · have e : (runF d l hel how (mId)).1 = d1 ∧ (runF d l hel how (mId)).2.1 = l2 := by
        unfold runF run2; simp [h1, h2, h3, k1, k3]
      rw [e.1, e.2]
      exact runP_B xd yd xn xw xc yn yw yc gx gy cx cy how W ht d l hel hm DY LY F0 G0 zh l1 o1 e1 h1 k1 l2 o2 e2 h2 d1 o3 e3 h3 k3
  · have e : (runF d l hel how (mId)).1 = d ∧ (runF d l hel how (mId)).2.1 = l1 := by
      unfold runF; simp [h1, k1]
    rw [e.1, e.2]
    exact runP_A xd yd xn xw xc yn yw yc gx gy cx cy how W ht d l hel hm DY LY F0 G0 zh l1 o1 e1 h1 k1
set_option maxRecDepth 100000 in
set_option maxHeartbeats 4000000 in
theorem runP_nodial (xd yd : Bool) (xn xw xc yn yw yc : ByteArray) (gx gy : Int) (cx cy : Nat) (how : Int) (W : World) (ht : Tabs W) (hd : dialB xn gx xw = false) :
    Calls Tryd.prog 18 #[stgV (⟨xd, xn, gx, xw, xc, cx⟩ : Stg), stgV (⟨yd, yn, gy, yw, yc, cy⟩ : Stg), .int .i64 how, .func (.func 30) #[] #[]] W fun e W' => e = .returned (.tuple #[.pointer none, .pointer none]) ∧ Below W.heap.size W W' := by
  have X0 := Lib.hid (Bx.of (x := (⟨xd, xn, gx, xw, xc, cx⟩ : Stg)) ((Blk.new W 26 #[.bool xd, .string xn, .int .i64 gx, .string xw, .string xc, .int .u64 (cx : Int)]).alloc (.cells #[.bool yd, .string yn, .int .i64 gy, .string yw, .string yc, .int .u64 (cy : Int)] 26)))
  have Y0 := Lib.hid (Bx.of (x := (⟨yd, yn, gy, yw, yc, cy⟩ : Stg)) (Blk.new (W.alloc (.cells #[.bool xd, .string xn, .int .i64 gx, .string xw, .string xc, .int .u64 (cx : Int)] 26)) 26 #[.bool yd, .string yn, .int .i64 gy, .string yw, .string yc, .int .u64 (cy : Int)]))
  have S0 := Lib.hid (((St.refl ht).alloc (.cells #[.bool xd, .string xn, .int .i64 gx, .string xw, .string xc, .int .u64 (cx : Int)] 26)).alloc (.cells #[.bool yd, .string yn, .int .i64 gy, .string yw, .string yc, .int .u64 (cy : Int)] 26))
  have DN := Lib.hid (fun W => dial_no xn gx xw xc cx hd W)
  have LE := Lib.hid (fun W => listen_e yn gy yc cy W)
  clear ht hd
  unfold stgV
  go_enter Tryd.func18, Tryd.ntmps18
  obtain ⟨c0, c1, c2, c3, c4, c5⟩ := X0.out
  obtain ⟨d0, d1, d2, d3, d4, d5⟩ := Y0.out
  dsimp only at c0 c1 c2 c3 c4 c5
  simp only [World.size_alloc] at d0 d1 d2 d3 d4 d5
  go_wp2_with fail
  refine (DN.out _).mono ?_
  rintro e w1 ⟨rfl, b1⟩
  have S1 := Lib.hid (S0.out.keep b1)
  clear c0 c1 c2 c3 c4 c5 d0 d1 d2 d3 d4 d5
  have X1 := Lib.hid (X0.out.below b1)
  have Y1 := Lib.hid (Y0.out.below b1)
  obtain ⟨c0, c1, c2, c3, c4, c5⟩ := X1.out
  obtain ⟨d0, d1, d2, d3, d4, d5⟩ := Y1.out
  dsimp only at c0 c1 c2 c3 c4 c5
  simp only [World.size_alloc] at d0 d1 d2 d3 d4 d5
  clear b1 S0 X0 Y0
  go_wp2_with fail
  refine (LE.out _).mono ?_
  rintro e w2 ⟨⟨q, rfl⟩, b2⟩
  have S2 := Lib.hid (S1.out.keep b2)
  clear c0 c1 c2 c3 c4 c5 d0 d1 d2 d3 d4 d5
  have X2 := Lib.hid (X1.out.below b2)
  have Y2 := Lib.hid (Y1.out.below b2)
  obtain ⟨c0, c1, c2, c3, c4, c5⟩ := X2.out
  obtain ⟨d0, d1, d2, d3, d4, d5⟩ := Y2.out
  dsimp only at c0 c1 c2 c3 c4 c5
  simp only [World.size_alloc] at d0 d1 d2 d3 d4 d5
  clear b2 S1 X1 Y1
  clear c0 c1 c2 c3 c4 c5 d0 d1 d2 d3 d4 d5
  clear X2 Y2
  go_wp2
  go_ret2
  exact ⟨rfl, S2.out.bel⟩
set_option maxRecDepth 100000 in
set_option maxHeartbeats 4000000 in
theorem runP_nolisten (xd yd : Bool) (xn xw xc yn yw yc : ByteArray) (gx : Nat) (gy : Int) (cx cy : Nat) (how : Int) (W : World) (ht : Tabs W) (hd : dialB xn gx xw = true) (hv : (nameF yn && genI gy) = false) :
    Calls Tryd.prog 18 #[stgV (⟨xd, xn, gx, xw, xc, cx⟩ : Stg), stgV (⟨yd, yn, gy, yw, yc, cy⟩ : Stg), .int .i64 how, .func (.func 30) #[] #[]] W fun e W' => e = .returned (.tuple #[.pointer none, .pointer none]) ∧ Below W.heap.size W W' := by
  have X0 := Lib.hid (Bx.of (x := (⟨xd, xn, gx, xw, xc, cx⟩ : Stg)) ((Blk.new W 26 #[.bool xd, .string xn, .int .i64 gx, .string xw, .string xc, .int .u64 (cx : Int)]).alloc (.cells #[.bool yd, .string yn, .int .i64 gy, .string yw, .string yc, .int .u64 (cy : Int)] 26)))
  have Y0 := Lib.hid (Bx.of (x := (⟨yd, yn, gy, yw, yc, cy⟩ : Stg)) (Blk.new (W.alloc (.cells #[.bool xd, .string xn, .int .i64 gx, .string xw, .string xc, .int .u64 (cx : Int)] 26)) 26 #[.bool yd, .string yn, .int .i64 gy, .string yw, .string yc, .int .u64 (cy : Int)]))
  have S0 := Lib.hid (((St.refl ht).alloc (.cells #[.bool xd, .string xn, .int .i64 gx, .string xw, .string xc, .int .u64 (cx : Int)] 26)).alloc (.cells #[.bool yd, .string yn, .int .i64 gy, .string yw, .string yc, .int .u64 (cy : Int)] 26))
  have DN := Lib.hid (fun W => dial_yes xn gx xw xc cx hd W)
  have LE := Lib.hid (fun W => listen_no yn gy yc cy hv W)
  obtain ⟨hel, hhel⟩ : ∃ h, h = helloF ⟨xn, gx⟩ xw := ⟨_, rfl⟩
  obtain ⟨d, hdd⟩ : ∃ d, d = dialS ⟨xn, gx⟩ xw xc cx := ⟨_, rfl⟩
  rw [← hhel, ← hdd] at DN
  clear ht hd hv hhel hdd
  unfold stgV
  go_enter Tryd.func18, Tryd.ntmps18
  obtain ⟨c0, c1, c2, c3, c4, c5⟩ := X0.out
  obtain ⟨d0, d1, d2, d3, d4, d5⟩ := Y0.out
  dsimp only at c0 c1 c2 c3 c4 c5
  simp only [World.size_alloc] at d0 d1 d2 d3 d4 d5
  go_wp2_with fail
  refine (DN.out _).mono ?_
  rintro e w1 ⟨D, rfl, -, -, b1⟩
  have S1 := Lib.hid (S0.out.keep b1)
  clear c0 c1 c2 c3 c4 c5 d0 d1 d2 d3 d4 d5
  have X1 := Lib.hid (X0.out.below b1)
  have Y1 := Lib.hid (Y0.out.below b1)
  obtain ⟨c0, c1, c2, c3, c4, c5⟩ := X1.out
  obtain ⟨d0, d1, d2, d3, d4, d5⟩ := Y1.out
  dsimp only at c0 c1 c2 c3 c4 c5
  simp only [World.size_alloc] at d0 d1 d2 d3 d4 d5
  clear b1 S0 X0 Y0
  go_wp2_with fail
  refine (LE.out _).mono ?_
  rintro e w2 ⟨rfl, b2⟩
  have S2 := Lib.hid (S1.out.keep b2)
  clear c0 c1 c2 c3 c4 c5 d0 d1 d2 d3 d4 d5
  have X2 := Lib.hid (X1.out.below b2)
  have Y2 := Lib.hid (Y1.out.below b2)
  obtain ⟨c0, c1, c2, c3, c4, c5⟩ := X2.out
  obtain ⟨d0, d1, d2, d3, d4, d5⟩ := Y2.out
  dsimp only at c0 c1 c2 c3 c4 c5
  simp only [World.size_alloc] at d0 d1 d2 d3 d4 d5
  clear b2 S1 X1 Y1
  clear c0 c1 c2 c3 c4 c5 d0 d1 d2 d3 d4 d5
  clear X2 Y2
  go_wp2
  go_ret2
  exact ⟨rfl, S2.out.bel⟩
end Go.Proofs.YtnkkbkceapcahaaDoor
