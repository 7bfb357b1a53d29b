/- WirePuts: the walk. -/
import Derived.Test.YtcpdmlnodhokmaaShort
import Derived.Test.YtcpdmlnodhokmaaKept
import Derived.Test.YtcpdmlnodhokmaaRefP
namespace Go.Proofs.Ytcpdmlnodhokmaa
open Go.RowKit Go.Rt Go.Rw

set_option maxRecDepth 100000 in
set_option maxHeartbeats 2000000 in
theorem puts_walk (t : Tm) (x : Ft) (w : World) (hx : TmAt (fun b => b < w.heap.size) w t x) (hr : rngT t) : Calls Try.prog 9 #[ftV x] w fun e w' => e = .returned (.bool true) ∧ Below w.heap.size w w' := by
  obtain ⟨_, sx, cx, vx⟩ := hx.its.2.form
  obtain ⟨xf, xv⟩ := x
  dsimp only at vx
  subst vx
  obtain ⟨lx, hlx⟩ : ∃ l, l = t.l.length := ⟨_, rfl⟩
  rw [← hlx] at hx ⊢
  clear hlx
  have Tx_0 := Lib.hid (hx.below ((Below.refl _ _).alloc (Nat.le_refl _) (.cells #[.int .i64 xf.k, .int .i64 xf.n, .int .i64 xf.g, .string xf.nm, .string xf.fn, .int .i64 xf.ar, .slice sx lx cx, .string xf.bs, .int .i64 xf.bt] 25)) (fun _ _ h => h))
  have Xx_0 := Lib.hid (Blk.new w 25 #[.int .i64 xf.k, .int .i64 xf.n, .int .i64 xf.g, .string xf.nm, .string xf.fn, .int .i64 xf.ar, .slice sx lx cx, .string xf.bs, .int .i64 xf.bt])
  have B_0 := Lib.hid ((Below.refl w.heap.size w).alloc (Nat.le_refl _) (.cells #[.int .i64 xf.k, .int .i64 xf.n, .int .i64 xf.g, .string xf.nm, .string xf.fn, .int .i64 xf.ar, .slice sx lx cx, .string xf.bs, .int .i64 xf.bt] 25))
  have HR := Lib.hid hr
  clear hx hr
  unfold ftV
  go_enter Try.func9, Try.ntmps9
  go_upto_region 1 with fail
  generalize w.alloc (.cells #[.int .i64 xf.k, .int .i64 xf.n, .int .i64 xf.g, .string xf.nm, .string xf.fn, .int .i64 xf.ar, .slice sx lx cx, .string xf.bs, .int .i64 xf.bt] 25) = v0 at Tx_0 Xx_0 B_0 ⊢
  have CG := Lib.hid (great_any t ⟨xf, .slice sx lx cx⟩ v0 Tx_0.out.old)
  unfold ftV at CG
  try dsimp only at CG
  go_wp2_with (refine wpList_load_blk rfl 25 _ rfl (w.heap.size) rfl _ 25 _ Xx_0.out Try.underlying25 rfl info25 ?_)
  refine (CG.out).mono ?_
  rintro e v1 ⟨g, rfl, hg, bb⟩
  have Tx_1 := Lib.hid (Tx_0.out.below bb (fun _ _ h => h))
  have Xx_1 := Lib.hid (Xx_0.out.below bb Xx_0.out.lt)
  have B_1 := Lib.hid (B_0.out.trans (bb.mono B_0.out.size))
  clear bb
  clear B_0 Tx_0 Xx_0
  clear CG
  cases g with
  | true =>
    clear hg
    go_wp2_with fail
    refine (awake_any v1).mono ?_
    rintro e v2 ⟨rfl, bb⟩
    have Tx_2 := Lib.hid (Tx_1.out.below bb (fun _ _ h => h))
    have Xx_2 := Lib.hid (Xx_1.out.below bb Xx_1.out.lt)
    have B_2 := Lib.hid (B_1.out.trans (bb.mono B_1.out.size))
    clear bb
    clear B_1 Tx_1 Xx_1
    go_wp2_with fail
    go_ret
    exact ⟨rfl, B_2.out⟩
  | false =>
    have HOK := Lib.hid (ok_of_great HR.out (hg rfl))
    clear hg HR
    have CL := Lib.hid (lend_any t v1.heap.size ⟨xf, .slice sx lx cx⟩ v1 HOK.out.2 Tx_1.out.old (Nat.le_refl _))
    unfold ftV at CL
    try dsimp only at CL
    go_wp2_with (refine wpList_load_blk rfl 25 _ rfl (w.heap.size) rfl _ 25 _ Xx_1.out Try.underlying25 rfl info25 ?_)
    refine CL.out.mono ?_
    rintro e v2 ⟨bb, y, rfl, py⟩
    have Tx_2 := Lib.hid (Tx_1.out.below bb (fun _ _ h => h))
    have Xx_2 := Lib.hid (Xx_1.out.below bb Xx_1.out.lt)
    have B_2 := Lib.hid (B_1.out.trans (bb.mono B_1.out.size))
    clear bb CL
    clear B_1 Tx_1 Xx_1
    obtain ⟨⟨sy, cy, vy⟩, _⟩ := py.its.2.2.form
    obtain ⟨yf, yv⟩ := y
    dsimp only at vy
    subst vy
    obtain ⟨ly, hly⟩ : ∃ l, l = t.l.length := ⟨_, rfl⟩
    rw [← hly] at py ⊢
    clear hly
    unfold ftV
    have P_3 := Lib.hid (py.below ((Below.refl _ _).alloc (Nat.le_refl _) (.cells #[.int .i64 yf.k, .int .i64 yf.n, .int .i64 yf.g, .string yf.nm, .string yf.fn, .int .i64 yf.ar, .slice sy ly cy, .string yf.bs, .int .i64 yf.bt] 25)))
    have Ty_3 := Lib.hid P_3.out.own.old
    have Tx_3 := Lib.hid (Tx_2.out.below ((Below.refl _ _).alloc (Nat.le_refl _) (.cells #[.int .i64 yf.k, .int .i64 yf.n, .int .i64 yf.g, .string yf.nm, .string yf.fn, .int .i64 yf.ar, .slice sy ly cy, .string yf.bs, .int .i64 yf.bt] 25)) (fun _ _ h => h))
    have Xx_3 := Lib.hid (Xx_2.out.alloc (.cells #[.int .i64 yf.k, .int .i64 yf.n, .int .i64 yf.g, .string yf.nm, .string yf.fn, .int .i64 yf.ar, .slice sy ly cy, .string yf.bs, .int .i64 yf.bt] 25))
    have B_3 := Lib.hid (B_2.out.alloc B_2.out.size (.cells #[.int .i64 yf.k, .int .i64 yf.n, .int .i64 yf.g, .string yf.nm, .string yf.fn, .int .i64 yf.ar, .slice sy ly cy, .string yf.bs, .int .i64 yf.bt] 25))
    have Xy_3 := Lib.hid (Blk.new v2 25 #[.int .i64 yf.k, .int .i64 yf.n, .int .i64 yf.g, .string yf.nm, .string yf.fn, .int .i64 yf.ar, .slice sy ly cy, .string yf.bs, .int .i64 yf.bt])
    clear py
    clear B_2 Tx_2 Xx_2
    try dsimp only
    go_upto_region 4 with fail
    generalize v2.alloc (.cells #[.int .i64 yf.k, .int .i64 yf.n, .int .i64 yf.g, .string yf.nm, .string yf.fn, .int .i64 yf.ar, .slice sy ly cy, .string yf.bs, .int .i64 yf.bt] 25) = v3 at *
    generalize v2.heap.size = gy at *
    have CP := Lib.hid (fun (W : World) (h : TmAt (fun b => b < W.heap.size) W t ⟨yf, .slice sy ly cy⟩) => put_any t ⟨yf, .slice sy ly cy⟩ W h HOK.out)
    have CZ := Lib.hid (fun (W : World) (h : TmAt (fun b => b < W.heap.size) W t ⟨yf, .slice sy ly cy⟩) => size_any t ⟨yf, .slice sy ly cy⟩ W h HOK.out)
    have CR := Lib.hid (fun (W : World) (h : TmAt (fun b => b < W.heap.size) W t ⟨xf, .slice sx lx cx⟩) => rput_any t ⟨xf, .slice sx lx cx⟩ W h HOK.out)
    have CK := Lib.hid (fun (W : World) (h : PairAt (fun b => b < v1.heap.size ∨ v1.heap.size ≤ b) W t ⟨yf, .slice sy ly cy⟩ ⟨xf, .slice sx lx cx⟩) => kept_any t _ ⟨yf, .slice sy ly cy⟩ ⟨xf, .slice sx lx cx⟩ W h)
    unfold ftV at CP CZ CR CK
    dsimp only at CP CZ CR CK
    generalize putS t = A at CP CZ CR
    generalize putE t = E at CP CR
    have hst : (A.toList == A.toList) = true := beq_self_eq_true _
    go_wp2_with (first
      | (refine wpList_load_blk rfl 25 _ rfl (w.heap.size) rfl _ 25 _ Xx_3.out Try.underlying25 rfl info25 ?_)
      | (refine wpList_load_blk rfl 25 _ rfl (gy) rfl _ 25 _ Xy_3.out Try.underlying25 rfl info25 ?_))
    refine (CP.out v3 Ty_3.out.old).mono ?_
    rintro e v4 ⟨rfl, bb⟩
    have P_4 := Lib.hid (P_3.out.below bb)
    have Tx_4 := Lib.hid (Tx_3.out.below bb (fun _ _ h => h))
    have Ty_4 := Lib.hid (Ty_3.out.below bb (fun _ _ h => h))
    have Xx_4 := Lib.hid (Xx_3.out.below bb Xx_3.out.lt)
    have Xy_4 := Lib.hid (Xy_3.out.below bb Xy_3.out.lt)
    have B_4 := Lib.hid (B_3.out.trans (bb.mono B_3.out.size))
    clear bb P_3
    clear B_3 Tx_3 Ty_3 Xx_3 Xy_3
    clear CP
    go_wp2_with (first
      | (refine wpList_load_blk rfl 25 _ rfl (w.heap.size) rfl _ 25 _ Xx_4.out Try.underlying25 rfl info25 ?_)
      | (refine wpList_load_blk rfl 25 _ rfl (gy) rfl _ 25 _ Xy_4.out Try.underlying25 rfl info25 ?_))
    refine (CZ.out v4 Ty_4.out.old).mono ?_
    rintro e v5 ⟨rfl, bb⟩
    have P_5 := Lib.hid (P_4.out.below bb)
    have Tx_5 := Lib.hid (Tx_4.out.below bb (fun _ _ h => h))
    have Ty_5 := Lib.hid (Ty_4.out.below bb (fun _ _ h => h))
    have Xx_5 := Lib.hid (Xx_4.out.below bb Xx_4.out.lt)
    have Xy_5 := Lib.hid (Xy_4.out.below bb Xy_4.out.lt)
    have B_5 := Lib.hid (B_4.out.trans (bb.mono B_4.out.size))
    clear bb P_4
    clear B_4 Tx_4 Ty_4 Xx_4 Xy_4
    clear CZ
    go_wp2_with (first
      | (refine wpList_load_blk rfl 25 _ rfl (w.heap.size) rfl _ 25 _ Xx_5.out Try.underlying25 rfl info25 ?_)
      | (refine wpList_load_blk rfl 25 _ rfl (gy) rfl _ 25 _ Xy_5.out Try.underlying25 rfl info25 ?_))
    refine (CK.out v5 P_5.out).mono ?_
    rintro e v6 ⟨rfl, bb⟩
    have P_6 := Lib.hid (P_5.out.below bb)
    have Tx_6 := Lib.hid (Tx_5.out.below bb (fun _ _ h => h))
    have Ty_6 := Lib.hid (Ty_5.out.below bb (fun _ _ h => h))
    have Xx_6 := Lib.hid (Xx_5.out.below bb Xx_5.out.lt)
    have Xy_6 := Lib.hid (Xy_5.out.below bb Xy_5.out.lt)
    have B_6 := Lib.hid (B_5.out.trans (bb.mono B_5.out.size))
    clear bb P_5
    clear B_5 Tx_5 Ty_5 Xx_5 Xy_5
    clear CK
    go_wp2_with (first
      | (refine wpList_load_blk rfl 25 _ rfl (w.heap.size) rfl _ 25 _ Xx_6.out Try.underlying25 rfl info25 ?_)
      | (refine wpList_load_blk rfl 25 _ rfl (gy) rfl _ 25 _ Xy_6.out Try.underlying25 rfl info25 ?_))
    refine (CR.out v6 Tx_6.out.old).mono ?_
    rintro e v7 ⟨rfl, bb⟩
    have P_7 := Lib.hid (P_6.out.below bb)
    have Tx_7 := Lib.hid (Tx_6.out.below bb (fun _ _ h => h))
    have Ty_7 := Lib.hid (Ty_6.out.below bb (fun _ _ h => h))
    have Xx_7 := Lib.hid (Xx_6.out.below bb Xx_6.out.lt)
    have Xy_7 := Lib.hid (Xy_6.out.below bb Xy_6.out.lt)
    have B_7 := Lib.hid (B_6.out.trans (bb.mono B_6.out.size))
    clear bb P_6
    clear B_6 Tx_6 Ty_6 Xx_6 Xy_6
    clear CR
    go_wp2_with fail
    refine (awake_any v7).mono ?_
    rintro e v8 ⟨rfl, bb⟩
    have P_8 := Lib.hid (P_7.out.below bb)
    have Tx_8 := Lib.hid (Tx_7.out.below bb (fun _ _ h => h))
    have Ty_8 := Lib.hid (Ty_7.out.below bb (fun _ _ h => h))
    have Xx_8 := Lib.hid (Xx_7.out.below bb Xx_7.out.lt)
    have Xy_8 := Lib.hid (Xy_7.out.below bb Xy_7.out.lt)
    have B_8 := Lib.hid (B_7.out.trans (bb.mono B_7.out.size))
    clear bb P_7
    clear B_7 Tx_7 Ty_7 Xx_7 Xy_7
    go_wp2_with fail
    go_ret
    exact ⟨rfl, B_8.out⟩
end Go.Proofs.Ytcpdmlnodhokmaa
