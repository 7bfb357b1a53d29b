/- The walk of ShakeMeets. -/
import Derived.Test.YtnkkbkceapcahaaDoorLong
import Derived.OpenShut
namespace Go.Proofs.YtnkkbkceapcahaaDoor
open Go.RowKit Go.Rt Go.Rw

theorem proofF_size (l : ByteArray) (p q : Pr) (c : ByteArray) (a b : Nat) : (proofF l p q c a b).size = 32 := macS_size _ _
theorem take_out (s : Sd) (b : ByteArray) : (takeF s b).2.1.size ≤ 100 := by
  have z : (ByteArray.mk #[]).size ≤ 100 := by decide
  unfold takeF
  split
  · exact z
  · unfold moveF
    split
    · split
      · unfold ackF
        split
        · exact z
        · split <;> exact z
      · unfold offerF
        split
        · exact z
        · split
          · exact z
          · split
            · exact z
            · split
              · exact z
              · split
                · exact z
                · simp only [ByteArray.size_append, numF_size, proofF_size]
                  have : replyC.size = 1 := rfl
                  omega
    · split
      · unfold replyF
        split
        · exact z
        · simp only
          split
          · exact z
          · simp only [ByteArray.size_append, proofF_size]
            have : ackC.size = 1 := rfl
            omega
      · unfold greetF
        split
        · exact z
        · split <;> exact z
theorem answer_out (s : Sd) (hs : Fine s) (how : Int) : (answerF s how).2.1.size ≤ 100 := by
  have z : (ByteArray.mk #[]).size ≤ 100 := by decide
  unfold answerF
  split
  · exact z
  · split
    · simp only [ByteArray.size_append, numF_size]
      have : statusC.size = 1 := rfl
      omega
    · simp only [ByteArray.size_append, numF_size, encF_size]
      have : offerC.size = 2 := rfl
      have := (nameF_size _ hs.1.self.1).2
      omega
theorem helloF_size (p : Pr) (want : ByteArray) : (helloF p want).size = p.name.size + want.size + 8 := by
  unfold helloF
  rw [ByteArray.size_append, ByteArray.size_append, encF_size, lenF_size]
  have : helloC.size = 2 := rfl
  omega
/-- The box of a setting. -/
structure Bx (W : World) (b : Nat) (x : Stg) : Prop where
  c0 : W.cell? ⟨b, 0, none⟩ = some (.bool x.dials)
  c1 : W.cell? ⟨b, 1, none⟩ = some (.string x.name)
  c2 : W.cell? ⟨b, 2, none⟩ = some (.int .i64 x.gen)
  c3 : W.cell? ⟨b, 3, none⟩ = some (.string x.want)
  c4 : W.cell? ⟨b, 4, none⟩ = some (.string x.cookie)
  c5 : W.cell? ⟨b, 5, none⟩ = some (.int .u64 x.chal)
theorem Bx.below {W W' : World} {b : Nat} {x : Stg} (h : Bx W b x) (hb : Below W.heap.size W W') : Bx W' b x :=
  ⟨cell_keep hb h.c0, cell_keep hb h.c1, cell_keep hb h.c2, cell_keep hb h.c3, cell_keep hb h.c4, cell_keep hb h.c5⟩
theorem Bx.of {W : World} {b : Nat} {x : Stg} {T : TypeId} (h : Blk W b T #[.bool x.dials, .string x.name, .int .i64 x.gen, .string x.want, .string x.cookie, .int .u64 x.chal]) : Bx W b x :=
  ⟨h.cell 0, h.cell 1, h.cell 2, h.cell 3, h.cell 4, h.cell 5⟩
/-- The sizes of a setting's strings. -/
structure StgSz (x : Stg) : Prop where
  n : x.name.size ≤ 140737488355328
  w : x.want.size ≤ 140737488355328
  c : x.cookie.size ≤ 140737488355328

set_option maxRecDepth 100000 in
set_option maxHeartbeats 2000000 in
theorem meets_long (x y : Stg) (how : Int) (w : World) (ht : Tabs w) (sx : StgSz x) (sy : StgSz y) (h : (longB x || longB y) = true) :
    Calls Tryd.prog 8 #[stgV x, stgV y, .int .i64 how] w fun e w' => e = .returned (.bool true) ∧ Below w.heap.size w w' := by
  have X0 := Bx.of (x := x) ((Blk.new w 26 #[.bool x.dials, .string x.name, .int .i64 x.gen, .string x.want, .string x.cookie, .int .u64 x.chal]).alloc (.cells #[.bool y.dials, .string y.name, .int .i64 y.gen, .string y.want, .string y.cookie, .int .u64 y.chal] 26))
  have CX := Lib.hid (fun W => longN_any x sx.n sx.w sx.c W)
  have CY := Lib.hid (fun W => longN_any y sy.n sy.w sy.c W)
  have S0 := Lib.hid (((St.refl ht).alloc (.cells #[.bool x.dials, .string x.name, .int .i64 x.gen, .string x.want, .string x.cookie, .int .u64 x.chal] 26)).alloc (.cells #[.bool y.dials, .string y.name, .int .i64 y.gen, .string y.want, .string y.cookie, .int .u64 y.chal] 26))
  have AW := Lib.hid (fun W (t : Tabs W) => awakeS_any W t)
  clear ht sx sy X0
  cases hx : longB x with
  | true =>
    rw [hx] at CX
    clear h hx CY
    unfold stgV
    go_enter Tryd.func8, Tryd.ntmps8
    go_wp2_with fail
    refine (CX.out _).mono ?_
    rintro e w1 ⟨rfl, b1⟩
    have S1 := Lib.hid (S0.out.keep b1)
    clear b1 S0
    go_wp2_with fail
    refine (AW.out _ S1.out.tabs).mono ?_
    rintro e w2 ⟨rfl, b2⟩
    have S2 := Lib.hid (S1.out.keep b2)
    clear b2
    go_wp2
    go_ret
    exact ⟨rfl, S2.out.bel⟩
  | false =>
    rw [hx, Bool.false_or] at h
    rw [hx] at CX
    rw [h] at CY
    clear h hx
    have Y0 := Lib.hid (Bx.of (x := y) (Blk.new (w.alloc (.cells #[.bool x.dials, .string x.name, .int .i64 x.gen, .string x.want, .string x.cookie, .int .u64 x.chal] 26)) 26 #[.bool y.dials, .string y.name, .int .i64 y.gen, .string y.want, .string y.cookie, .int .u64 y.chal]))
    unfold stgV
    go_enter Tryd.func8, Tryd.ntmps8
    go_wp2_with fail
    refine (CX.out _).mono ?_
    rintro e w1 ⟨rfl, b1⟩
    have S1 := Lib.hid (S0.out.keep b1)
    obtain ⟨d0, d1, d2, d3, d4, d5⟩ := Y0.out.below b1
    simp only [World.size_alloc] at d0 d1 d2 d3 d4 d5
    clear b1 S0 Y0
    go_wp2_with fail
    refine (CY.out _).mono ?_
    rintro e w2 ⟨rfl, b2⟩
    have S2 := Lib.hid (S1.out.keep b2)
    clear b2 S1
    go_wp2_with fail
    refine (AW.out _ S2.out.tabs).mono ?_
    rintro e w3 ⟨rfl, b3⟩
    have S3 := Lib.hid (S2.out.keep b3)
    clear b3
    go_wp2
    go_ret
    exact ⟨rfl, S3.out.bel⟩

theorem Ss.ofSt {w W : World} (h : St w W) : Ss w W [] := ⟨fun i x h => by simp at h, fun i j x y h => by simp at h, h⟩
set_option maxRecDepth 100000 in
set_option maxHeartbeats 4000000 in
theorem meets_main (xd yd : Bool) (xn xw xc yn yw yc : ByteArray) (gx gy cx cy : Nat) (how : Int) (w : World) (ht : Tabs w) (sx : StgSz (⟨xd, xn, gx, xw, xc, cx⟩ : Stg)) (sy : StgSz (⟨yd, yn, gy, yw, yc, cy⟩ : Stg)) (hlx : longB (⟨xd, xn, gx, xw, xc, cx⟩ : Stg) = false) (hly : longB (⟨yd, yn, gy, yw, yc, cy⟩ : Stg) = false)
    (h64x : cx ≤ 18446744073709551615) (h64y : cy ≤ 18446744073709551615) (hd : dialB xn gx xw = true) (hv : (nameF yn && genI gy) = true) :
    Calls Tryd.prog 8 #[stgV (⟨xd, xn, gx, xw, xc, cx⟩ : Stg), stgV (⟨yd, yn, gy, yw, yc, cy⟩ : Stg), .int .i64 how] w fun e w' => e = .returned (.bool true) ∧ Below w.heap.size w w' := by
  have X0 := Lib.hid (Bx.of (x := (⟨xd, xn, gx, xw, xc, cx⟩ : Stg)) ((Blk.new w 26 #[.bool xd, .string xn, .int .i64 (gx : Int), .string xw, .string xc, .int .u64 (cx : Int)]).alloc (.cells #[.bool yd, .string yn, .int .i64 (gy : Int), .string yw, .string yc, .int .u64 (cy : Int)] 26)))
  have Y0 := Lib.hid (Bx.of (x := (⟨yd, yn, gy, yw, yc, cy⟩ : Stg)) (Blk.new (w.alloc (.cells #[.bool xd, .string xn, .int .i64 (gx : Int), .string xw, .string xc, .int .u64 (cx : Int)] 26)) 26 #[.bool yd, .string yn, .int .i64 (gy : Int), .string yw, .string yc, .int .u64 (cy : Int)]))
  have S0 := Lib.hid (((St.refl ht).alloc (.cells #[.bool xd, .string xn, .int .i64 (gx : Int), .string xw, .string xc, .int .u64 (cx : Int)] 26)).alloc (.cells #[.bool yd, .string yn, .int .i64 (gy : Int), .string yw, .string yc, .int .u64 (cy : Int)] 26))
  have CX : Hid (∀ W, Calls Tryd.prog 10 #[.agg #[.bool xd, .string xn, .int .i64 (gx : Int), .string xw, .string xc, .int .u64 (cx : Int)], .slice none 0 0] W fun e w' => e = .returned (.bool false) ∧ Below W.heap.size W w') := by
    refine Lib.hid fun W => ?_
    have := longN_any (⟨xd, xn, gx, xw, xc, cx⟩ : Stg) sx.n sx.w sx.c W
    rw [hlx] at this
    exact this
  have CY : Hid (∀ W, Calls Tryd.prog 10 #[.agg #[.bool yd, .string yn, .int .i64 (gy : Int), .string yw, .string yc, .int .u64 (cy : Int)], .slice none 0 0] W fun e w' => e = .returned (.bool false) ∧ Below W.heap.size W w') := by
    refine Lib.hid fun W => ?_
    have := longN_any (⟨yd, yn, gy, yw, yc, cy⟩ : Stg) sy.n sy.w sy.c W
    rw [hly] at this
    exact this
  have AW := Lib.hid (fun W (t : Tabs W) => awakeS_any W t)
  have lx : xw.size + xc.size + xn.size ≤ 6000 := by
    have := of_decide_eq_false hlx
    dsimp only at this
    omega
  have ly : yw.size + yc.size + yn.size ≤ 6000 := by
    have := of_decide_eq_false hly
    dsimp only at this
    omega
  obtain ⟨p1, p2, p3⟩ := dialB_parts hd
  have okx : PrOk ⟨xn, gx⟩ := by
    rw [Bool.and_eq_true] at p1
    have := p1.2
    unfold genI at this
    simp only [Bool.and_eq_true, decide_eq_true_eq] at this
    exact ⟨p1.1, by show 1 ≤ gx; omega, by show gx ≤ _; omega⟩
  have oky : PrOk ⟨yn, gy⟩ := by
    rw [Bool.and_eq_true] at hv
    have := hv.2
    unfold genI at this
    simp only [Bool.and_eq_true, decide_eq_true_eq] at this
    exact ⟨hv.1, by show 1 ≤ gy; omega, by show gy ≤ _; omega⟩
  have F0 : Fine (dialS ⟨xn, gx⟩ xw xc cx) := Fine.dialS okx (by omega) (by omega) h64x
  have G0 : Fine (listenS ⟨yn, gy⟩ yc cy) := Fine.listenS oky (by omega) h64y
  have zh : (helloF ⟨xn, gx⟩ xw).size ≤ 100000 := by
    rw [helloF_size]
    show xn.size + _ + 8 ≤ _
    omega
  have DY := Lib.hid (fun W => dial_yes xn gx xw xc cx hd W)
  have RY := Lib.hid (fun W => rdial_yes xn gx xw xc cx hd W)
  have LY := Lib.hid (fun W => listen_yes yn gy yc cy hv W)
  have SY := Lib.hid (fun W => rlisten_yes yn gy yc cy hv W)
  obtain ⟨hel, hhel⟩ : ∃ h, h = helloF ⟨xn, gx⟩ xw := ⟨_, rfl⟩
  obtain ⟨d, hdd⟩ : ∃ d, d = dialS ⟨xn, gx⟩ xw xc cx := ⟨_, rfl⟩
  obtain ⟨l, hll⟩ : ∃ l, l = listenS ⟨yn, gy⟩ yc cy := ⟨_, rfl⟩
  rw [← hhel] at zh DY RY
  rw [← hdd] at F0 DY RY
  rw [← hll] at G0 LY SY
  have G1 := G0.take hel
  have A1 : Hid (∀ W D P K Q, Ss w W [(D, 46, d), (P, 83, d), (K, 46, l), (Q, 83, l)] → Calls Tryd.prog 27 #[.pointer (some ⟨K, 0, none⟩), .pointer (some ⟨Q, 0, none⟩), .agg #[.int .i64 0, .int .i64 0, .string hel]] W (Saw w [(D, 46, d), (P, 83, d), (K, 46, (takeF l hel).1), (Q, 83, (takeF l hel).1)] (.bool true))) :=
    Lib.hid (fun W D P K Q h => act_take h 2 3 (by decide) rfl rfl G0 0 0 hel zh (by decide))
  obtain ⟨l1, hl1⟩ : ∃ r, r = (takeF l hel).1 := ⟨_, rfl⟩
  rw [← hl1] at G1 A1
  have G2 := G1.answer how
  have z2 := answer_out l1 G1 how
  have A2 : Hid (∀ W D P K Q, Ss w W [(D, 46, d), (P, 83, d), (K, 46, l1), (Q, 83, l1)] → Calls Tryd.prog 15 #[.pointer (some ⟨K, 0, none⟩), .int .i64 how] W (Saw w [(D, 46, d), (P, 83, d), (K, 46, (answerF l1 how).1), (Q, 83, l1)] (.tuple #[.string (answerF l1 how).2.1, .int .i64 (answerF l1 how).2.2]))) :=
    Lib.hid (fun W D P K Q h => h.answer46 2 rfl G1 how)
  have A3 : Hid (∀ W D P K Q, Ss w W [(D, 46, d), (P, 83, d), (K, 46, (answerF l1 how).1), (Q, 83, l1)] → Calls Tryd.prog 28 #[.pointer (some ⟨Q, 0, none⟩), .int .i64 how] W (Saw w [(D, 46, d), (P, 83, d), (K, 46, (answerF l1 how).1), (Q, 83, (answerF l1 how).1)] (.tuple #[.string (answerF l1 how).2.1, .int .i64 (answerF l1 how).2.2]))) :=
    Lib.hid (fun W D P K Q h => h.answer83 3 rfl G1 how)
  obtain ⟨⟨l2, offer, e2⟩, hr2⟩ : ∃ r, r = answerF l1 how := ⟨_, rfl⟩
  rw [← hr2] at G2 z2 A2 A3
  simp only at G2 z2 A2 A3
  have F1 := F0.take offer
  have z3 := take_out d offer
  have A4 : Hid (∀ W D P K Q, Ss w W [(D, 46, d), (P, 83, d), (K, 46, l2), (Q, 83, l2)] → Calls Tryd.prog 14 #[.pointer (some ⟨D, 0, none⟩), .string offer] W (Saw w [(D, 46, (takeF d offer).1), (P, 83, d), (K, 46, l2), (Q, 83, l2)] (.tuple #[.string (takeF d offer).2.1, .int .i64 (takeF d offer).2.2]))) :=
    Lib.hid (fun W D P K Q h => h.take46 0 rfl F0 offer (by omega))
  have A5 : Hid (∀ W D P K Q, Ss w W [(D, 46, (takeF d offer).1), (P, 83, d), (K, 46, l2), (Q, 83, l2)] → Calls Tryd.prog 29 #[.pointer (some ⟨P, 0, none⟩), .string offer] W (Saw w [(D, 46, (takeF d offer).1), (P, 83, (takeF d offer).1), (K, 46, l2), (Q, 83, l2)] (.tuple #[.string (takeF d offer).2.1, .int .i64 (takeF d offer).2.2]))) :=
    Lib.hid (fun W D P K Q h => h.take83 1 rfl F0 offer (by omega))
  obtain ⟨⟨d1, reply, e3⟩, hr3⟩ : ∃ r, r = takeF d offer := ⟨_, rfl⟩
  rw [← hr3] at F1 z3 A4 A5
  simp only at F1 z3 A4 A5
  have G3 := G2.take reply
  have z4 := take_out l2 reply
  have A6 : Hid (∀ W D P K Q, Ss w W [(D, 46, d1), (P, 83, d1), (K, 46, l2), (Q, 83, l2)] → Calls Tryd.prog 14 #[.pointer (some ⟨K, 0, none⟩), .string reply] W (Saw w [(D, 46, d1), (P, 83, d1), (K, 46, (takeF l2 reply).1), (Q, 83, l2)] (.tuple #[.string (takeF l2 reply).2.1, .int .i64 (takeF l2 reply).2.2]))) :=
    Lib.hid (fun W D P K Q h => h.take46 2 rfl G2 reply (by omega))
  have A7 : Hid (∀ W D P K Q, Ss w W [(D, 46, d1), (P, 83, d1), (K, 46, (takeF l2 reply).1), (Q, 83, l2)] → Calls Tryd.prog 29 #[.pointer (some ⟨Q, 0, none⟩), .string reply] W (Saw w [(D, 46, d1), (P, 83, d1), (K, 46, (takeF l2 reply).1), (Q, 83, (takeF l2 reply).1)] (.tuple #[.string (takeF l2 reply).2.1, .int .i64 (takeF l2 reply).2.2]))) :=
    Lib.hid (fun W D P K Q h => h.take83 3 rfl G2 reply (by omega))
  obtain ⟨⟨l3, ack, e4⟩, hr4⟩ : ∃ r, r = takeF l2 reply := ⟨_, rfl⟩
  rw [← hr4] at G3 z4 A6 A7
  simp only at G3 z4 A6 A7
  have A8 : Hid (∀ W D P K Q, Ss w W [(D, 46, d1), (P, 83, d1), (K, 46, l3), (Q, 83, l3)] → Calls Tryd.prog 27 #[.pointer (some ⟨D, 0, none⟩), .pointer (some ⟨P, 0, none⟩), .agg #[.int .i64 0, .int .i64 0, .string ack]] W (Saw w [(D, 46, (takeF d1 ack).1), (P, 83, (takeF d1 ack).1), (K, 46, l3), (Q, 83, l3)] (.bool true))) :=
    Lib.hid (fun W D P K Q h => act_take h 0 1 (by decide) rfl rfl F1 0 0 ack (by omega) (by decide))
  obtain ⟨d2, hd2⟩ : ∃ r, r = (takeF d1 ack).1 := ⟨_, rfl⟩
  rw [← hd2] at A8
  have q1 : (hel.toList == hel.toList) = true := by simp
  have q2 : (offer.toList == offer.toList) = true := by simp
  have q3 : (reply.toList == reply.toList) = true := by simp
  have q4 : (ack.toList == ack.toList) = true := by simp
  have n2 : ((e2 : Int) != e2) = false := by simp
  have n3 : ((e3 : Int) != e3) = false := by simp
  have n4 : ((e4 : Int) == e4) = true := by simp
  have SM := Lib.hid (fun (s : Sd) (B C : Nat) (W : World) => same_any s B C W)
  clear ht sx sy hlx hly lx ly p1 p2 p3 okx oky F0 G0 G1 G2 G3 F1 zh z2 z3 z4 hhel hdd hll hl1 hr2 hr3 hr4 hd2 hd hv h64x h64y
  unfold stgV
  go_enter Tryd.func8, Tryd.ntmps8
  obtain ⟨c0, c1, c2, c3, c4, c5⟩ := X0.out
  obtain ⟨d0, d1, d2, d3, d4, d5⟩ := Y0.out
  dsimp only at c0 c1 c2 c3 c4 c5
  simp only [World.size_alloc] at d0 d1 d2 d3 d4 d5
  go_wp2_with fail
  refine (CX.out _).mono ?_
  rintro e w1 ⟨rfl, b1⟩
  have S1 := Lib.hid (S0.out.keep b1)
  clear c0 c1 c2 c3 c4 c5 d0 d1 d2 d3 d4 d5
  have X1 := Lib.hid (X0.out.below b1)
  have Y1 := Lib.hid (Y0.out.below b1)
  obtain ⟨c0, c1, c2, c3, c4, c5⟩ := X1.out
  obtain ⟨d0, d1, d2, d3, d4, d5⟩ := Y1.out
  dsimp only at c0 c1 c2 c3 c4 c5
  simp only [World.size_alloc] at d0 d1 d2 d3 d4 d5
  clear b1 S0 X0 Y0
  go_wp2_with fail
  refine (CY.out _).mono ?_
  rintro e w2 ⟨rfl, b2⟩
  have S2 := Lib.hid (S1.out.keep b2)
  clear c0 c1 c2 c3 c4 c5 d0 d1 d2 d3 d4 d5
  have X2 := Lib.hid (X1.out.below b2)
  have Y2 := Lib.hid (Y1.out.below b2)
  obtain ⟨c0, c1, c2, c3, c4, c5⟩ := X2.out
  obtain ⟨d0, d1, d2, d3, d4, d5⟩ := Y2.out
  dsimp only at c0 c1 c2 c3 c4 c5
  simp only [World.size_alloc] at d0 d1 d2 d3 d4 d5
  clear b2 S1 X1 Y1
  have SS0 := Lib.hid (Ss.ofSt S2.out)
  go_wp2_with fail
  refine (DY.out _).mono ?_
  rintro e w3 ⟨D, rfl, gB, kB, b3⟩
  have SS1 := Lib.hid (SS0.out.add kB gB b3)
  clear c0 c1 c2 c3 c4 c5 d0 d1 d2 d3 d4 d5
  have X3 := Lib.hid (X2.out.below b3)
  have Y3 := Lib.hid (Y2.out.below b3)
  obtain ⟨c0, c1, c2, c3, c4, c5⟩ := X3.out
  obtain ⟨d0, d1, d2, d3, d4, d5⟩ := Y3.out
  dsimp only at c0 c1 c2 c3 c4 c5
  simp only [World.size_alloc] at d0 d1 d2 d3 d4 d5
  clear b3 SS0 X2 Y2 gB kB
  go_wp2_with fail
  refine (RY.out _).mono ?_
  rintro e w4 ⟨P, rfl, gB, kB, b4⟩
  have SS2 := Lib.hid (SS1.out.add kB gB b4)
  clear c0 c1 c2 c3 c4 c5 d0 d1 d2 d3 d4 d5
  have X4 := Lib.hid (X3.out.below b4)
  have Y4 := Lib.hid (Y3.out.below b4)
  obtain ⟨c0, c1, c2, c3, c4, c5⟩ := X4.out
  obtain ⟨d0, d1, d2, d3, d4, d5⟩ := Y4.out
  dsimp only at c0 c1 c2 c3 c4 c5
  simp only [World.size_alloc] at d0 d1 d2 d3 d4 d5
  clear b4 SS1 X3 Y3 gB kB
  go_wp2_with fail
  refine (LY.out _).mono ?_
  rintro e w5 ⟨K, rfl, gB, kB, b5⟩
  have SS3 := Lib.hid (SS2.out.add kB gB b5)
  clear c0 c1 c2 c3 c4 c5 d0 d1 d2 d3 d4 d5
  have X5 := Lib.hid (X4.out.below b5)
  have Y5 := Lib.hid (Y4.out.below b5)
  obtain ⟨c0, c1, c2, c3, c4, c5⟩ := X5.out
  obtain ⟨d0, d1, d2, d3, d4, d5⟩ := Y5.out
  dsimp only at c0 c1 c2 c3 c4 c5
  simp only [World.size_alloc] at d0 d1 d2 d3 d4 d5
  clear b5 SS2 X4 Y4 gB kB
  go_wp2_with fail
  refine (SY.out _).mono ?_
  rintro e w6 ⟨Q, rfl, gB, kB, b6⟩
  have SS4 := Lib.hid (SS3.out.add kB gB b6)
  clear c0 c1 c2 c3 c4 c5 d0 d1 d2 d3 d4 d5
  have X6 := Lib.hid (X5.out.below b6)
  have Y6 := Lib.hid (Y5.out.below b6)
  clear b6 SS3 X5 Y5 gB kB
  clear X6 Y6 S2
  go_wp2_with fail
  refine (A1.out _ D P K Q SS4.out).mono ?_
  rintro e w7 ⟨rfl, s7⟩
  have SS7 := Lib.hid s7
  clear s7 SS4
  go_wp2_with fail
  refine (SM.out l1 K Q _ (SS7.out.get 2 rfl) (SS7.out.get 3 rfl)).mono ?_
  rintro e w8 ⟨rfl, b8⟩
  have SS8 := Lib.hid (SS7.out.below b8)
  clear b8 SS7
  go_wp2_with fail
  refine (A2.out _ D P K Q SS8.out).mono ?_
  rintro e w9 ⟨rfl, s9⟩
  have SS9 := Lib.hid s9
  clear s9 SS8
  go_wp2_with fail
  refine (A3.out _ D P K Q SS9.out).mono ?_
  rintro e w10 ⟨rfl, s10⟩
  have SS10 := Lib.hid s10
  clear s10 SS9
  go_wp2_with fail
  refine (SM.out l2 K Q _ (SS10.out.get 2 rfl) (SS10.out.get 3 rfl)).mono ?_
  rintro e w11 ⟨rfl, b11⟩
  have SS11 := Lib.hid (SS10.out.below b11)
  clear b11 SS10
  go_wp2_with fail
  refine (A4.out _ D P K Q SS11.out).mono ?_
  rintro e w12 ⟨rfl, s12⟩
  have SS12 := Lib.hid s12
  clear s12 SS11
  go_wp2_with fail
  refine (A5.out _ D P K Q SS12.out).mono ?_
  rintro e w13 ⟨rfl, s13⟩
  have SS13 := Lib.hid s13
  clear s13 SS12
  go_wp2_with fail
  refine (SM.out d1 D P _ (SS13.out.get 0 rfl) (SS13.out.get 1 rfl)).mono ?_
  rintro e w14 ⟨rfl, b14⟩
  have SS14 := Lib.hid (SS13.out.below b14)
  clear b14 SS13
  go_wp2_with fail
  refine (A6.out _ D P K Q SS14.out).mono ?_
  rintro e w15 ⟨rfl, s15⟩
  have SS15 := Lib.hid s15
  clear s15 SS14
  go_wp2_with fail
  refine (A7.out _ D P K Q SS15.out).mono ?_
  rintro e w16 ⟨rfl, s16⟩
  have SS16 := Lib.hid s16
  clear s16 SS15
  go_wp2_with fail
  refine (SM.out l3 K Q _ (SS16.out.get 2 rfl) (SS16.out.get 3 rfl)).mono ?_
  rintro e w17 ⟨rfl, b17⟩
  have SS17 := Lib.hid (SS16.out.below b17)
  clear b17 SS16
  go_wp2_with fail
  refine (A8.out _ D P K Q SS17.out).mono ?_
  rintro e w18 ⟨rfl, s18⟩
  have SS18 := Lib.hid s18
  clear s18 SS17
  go_wp2_with fail
  refine (SM.out d2 D P _ (SS18.out.get 0 rfl) (SS18.out.get 1 rfl)).mono ?_
  rintro e w19 ⟨rfl, b19⟩
  have SS19 := Lib.hid (SS18.out.below b19)
  clear b19 SS18
  go_wp2_with fail
  refine (AW.out _ SS19.out.st.tabs).mono ?_
  rintro e w20 ⟨rfl, b20⟩
  have S20 := Lib.hid (SS19.out.st.keep b20)
  clear b20
  go_wp2
  go_ret
  exact ⟨rfl, S20.out.bel⟩
end Go.Proofs.YtnkkbkceapcahaaDoor
