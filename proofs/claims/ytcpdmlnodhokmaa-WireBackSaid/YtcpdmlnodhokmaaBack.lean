/- WireBack: the walk. -/
import Derived.Test.YtcpdmlnodhokmaaShort
namespace Go.Proofs.Ytcpdmlnodhokmaa
open Go.RowKit Go.Rt Go.Rw

set_option maxRecDepth 100000 in
set_option maxHeartbeats 2000000 in
theorem back_walk (t : Tm) (x : Ft) (w : World) (hx : TmAt (fun b => b < w.heap.size) w t x) (hr : rngT t) : Calls Try.prog 10 #[ftV x] w fun e w' => e = .returned (.bool true) ∧ Below w.heap.size w w' := by
  obtain ⟨_, sx, cx, vx⟩ := hx.its.2.form
  obtain ⟨xf, xv⟩ := x
  dsimp only at vx
  subst vx
  obtain ⟨lx, hlx⟩ : ∃ l, l = t.l.length := ⟨_, rfl⟩
  rw [← hlx] at hx ⊢
  clear hlx
  have Tx_0 := Lib.hid (hx.below ((Below.refl _ _).alloc (Nat.le_refl _) (.cells #[.int .i64 xf.k, .int .i64 xf.n, .int .i64 xf.g, .string xf.nm, .string xf.fn, .int .i64 xf.ar, .slice sx lx cx, .string xf.bs, .int .i64 xf.bt] 25)) (fun _ _ h => h))
  have Xx_0 := Lib.hid (Blk.new w 25 #[.int .i64 xf.k, .int .i64 xf.n, .int .i64 xf.g, .string xf.nm, .string xf.fn, .int .i64 xf.ar, .slice sx lx cx, .string xf.bs, .int .i64 xf.bt])
  have B_0 := Lib.hid ((Below.refl w.heap.size w).alloc (Nat.le_refl _) (.cells #[.int .i64 xf.k, .int .i64 xf.n, .int .i64 xf.g, .string xf.nm, .string xf.fn, .int .i64 xf.ar, .slice sx lx cx, .string xf.bs, .int .i64 xf.bt] 25))
  have HR := Lib.hid hr
  clear hx hr
  unfold ftV
  go_enter Try.func10, Try.ntmps10
  go_upto_region 1 with fail
  generalize w.alloc (.cells #[.int .i64 xf.k, .int .i64 xf.n, .int .i64 xf.g, .string xf.nm, .string xf.fn, .int .i64 xf.ar, .slice sx lx cx, .string xf.bs, .int .i64 xf.bt] 25) = v0 at Tx_0 Xx_0 B_0 ⊢
  have CG := Lib.hid (great_any t ⟨xf, .slice sx lx cx⟩ v0 Tx_0.out.old)
  unfold ftV at CG
  try dsimp only at CG
  go_wp2_with (refine wpList_load_blk rfl 25 _ rfl (w.heap.size) rfl _ 25 _ Xx_0.out Try.underlying25 rfl info25 ?_)
  refine (CG.out).mono ?_
  rintro e v1 ⟨g, rfl, hg, bb⟩
  have Tx_1 := Lib.hid (Tx_0.out.below bb (fun _ _ h => h))
  have Xx_1 := Lib.hid (Xx_0.out.below bb Xx_0.out.lt)
  have B_1 := Lib.hid (B_0.out.trans (bb.mono B_0.out.size))
  clear bb
  clear B_0 Tx_0 Xx_0
  clear CG
  cases g with
  | true =>
    clear hg
    go_wp2_with fail
    refine (awake_any v1).mono ?_
    rintro e v2 ⟨rfl, bb⟩
    have Tx_2 := Lib.hid (Tx_1.out.below bb (fun _ _ h => h))
    have Xx_2 := Lib.hid (Xx_1.out.below bb Xx_1.out.lt)
    have B_2 := Lib.hid (B_1.out.trans (bb.mono B_1.out.size))
    clear bb
    clear B_1 Tx_1 Xx_1
    go_wp2_with fail
    go_ret
    exact ⟨rfl, B_2.out⟩
  | false =>
    have HOK := Lib.hid (ok_of_great HR.out (hg rfl))
    clear hg HR
    cases hv : validB t with
    | false =>
      have HV : Hid (validB t = false) := Lib.hid hv
      clear hv
      have CP := Lib.hid (put_any t ⟨xf, .slice sx lx cx⟩ v1 Tx_1.out.old HOK.out)
      rw [putS_no HV.out, putE_no HV.out] at CP
      unfold ftV at CP
      try dsimp only at CP
      go_wp2_with (refine wpList_load_blk rfl 25 _ rfl (w.heap.size) rfl _ 25 _ Xx_1.out Try.underlying25 rfl info25 ?_)
      refine (CP.out).mono ?_
      rintro e v2 ⟨rfl, bb⟩
      have Tx_2 := Lib.hid (Tx_1.out.below bb (fun _ _ h => h))
      have Xx_2 := Lib.hid (Xx_1.out.below bb Xx_1.out.lt)
      have B_2 := Lib.hid (B_1.out.trans (bb.mono B_1.out.size))
      clear bb
      clear B_1 Tx_1 Xx_1
      clear CP
      have CV := Lib.hid (rvalid_any _ t ⟨xf, .slice sx lx cx⟩ v2 Tx_2.out HOK.out.1 HOK.out.bulk)
      rw [HV.out] at CV
      unfold ftV at CV
      try dsimp only at CV
      go_wp2_with (refine wpList_load_blk rfl 25 _ rfl (w.heap.size) rfl _ 25 _ Xx_2.out Try.underlying25 rfl info25 ?_)
      refine (CV.out).mono ?_
      rintro e v3 ⟨rfl, bb⟩
      have Tx_3 := Lib.hid (Tx_2.out.below bb (fun _ _ h => h))
      have Xx_3 := Lib.hid (Xx_2.out.below bb Xx_2.out.lt)
      have B_3 := Lib.hid (B_2.out.trans (bb.mono B_2.out.size))
      clear bb
      clear B_2 Tx_2 Xx_2
      clear CV
      have CZ := Lib.hid (size_any t ⟨xf, .slice sx lx cx⟩ v3 Tx_3.out.old HOK.out)
      rw [putS_no HV.out] at CZ
      unfold ftV at CZ
      try dsimp only at CZ
      have cXx0 : v3.cell? ⟨w.heap.size, 0, none⟩ = some (.int .i64 xf.k) := Xx_3.out.cell 0
      have cXx1 : v3.cell? ⟨w.heap.size, 1, none⟩ = some (.int .i64 xf.n) := Xx_3.out.cell 1
      have cXx2 : v3.cell? ⟨w.heap.size, 2, none⟩ = some (.int .i64 xf.g) := Xx_3.out.cell 2
      have cXx3 : v3.cell? ⟨w.heap.size, 3, none⟩ = some (.string xf.nm) := Xx_3.out.cell 3
      have cXx4 : v3.cell? ⟨w.heap.size, 4, none⟩ = some (.string xf.fn) := Xx_3.out.cell 4
      have cXx5 : v3.cell? ⟨w.heap.size, 5, none⟩ = some (.int .i64 xf.ar) := Xx_3.out.cell 5
      have cXx6 : v3.cell? ⟨w.heap.size, 6, none⟩ = some (.slice sx lx cx) := Xx_3.out.cell 6
      have cXx7 : v3.cell? ⟨w.heap.size, 7, none⟩ = some (.string xf.bs) := Xx_3.out.cell 7
      have cXx8 : v3.cell? ⟨w.heap.size, 8, none⟩ = some (.int .i64 xf.bt) := Xx_3.out.cell 8
      go_wp2_with fail
      clear cXx0 cXx1 cXx2 cXx3 cXx4 cXx5 cXx6 cXx7 cXx8
      refine (CZ.out).mono ?_
      rintro e v4 ⟨rfl, bb⟩
      have Tx_4 := Lib.hid (Tx_3.out.below bb (fun _ _ h => h))
      have Xx_4 := Lib.hid (Xx_3.out.below bb Xx_3.out.lt)
      have B_4 := Lib.hid (B_3.out.trans (bb.mono B_3.out.size))
      clear bb
      clear B_3 Tx_3 Xx_3
      clear CZ
      go_wp2_with fail
      refine (awake_any v4).mono ?_
      rintro e v5 ⟨rfl, bb⟩
      have Tx_5 := Lib.hid (Tx_4.out.below bb (fun _ _ h => h))
      have Xx_5 := Lib.hid (Xx_4.out.below bb Xx_4.out.lt)
      have B_5 := Lib.hid (B_4.out.trans (bb.mono B_4.out.size))
      clear bb
      clear B_4 Tx_4 Xx_4
      go_wp2_with fail
      go_ret
      exact ⟨rfl, B_5.out⟩
    | true =>
      have HV : Hid (validB t = true) := Lib.hid hv
      have HGT : Hid (getF (putS t) = (t, 0)) := Lib.hid (by rw [getF_code hv HOK.out.1 (m := []) (by rw [List.append_nil]; exact putS_list hv), if_pos rfl])
      have HTT : Hid (takeF (tailB (putS t)) = (t, (codeT t).length, 0)) := Lib.hid (takeF_code hv HOK.out.1 (m := []) (by rw [List.append_nil]; exact tail_putS hv))
      obtain ⟨hp1, hp2⟩ := putS_short hv HOK.out.1
      have hp3 := putS_two hv
      have hp4 := tailB_size (putS t)
      obtain ⟨N, hN⟩ : ∃ N, N = (codeT t).length := ⟨_, rfl⟩
      rw [← hN] at HTT hp1
      clear hv hN
      have CP := Lib.hid (put_any t ⟨xf, .slice sx lx cx⟩ v1 Tx_1.out.old HOK.out)
      rw [putE_valid HV.out] at CP
      unfold ftV at CP
      try dsimp only at CP
      have CZ0 := Lib.hid (fun (W : World) (h : TmAt (fun b => b < W.heap.size) W t ⟨xf, .slice sx lx cx⟩) => size_any t _ W h HOK.out)
      obtain ⟨P, hP⟩ : ∃ P, P = putS t := ⟨_, rfl⟩
      rw [← hP] at HGT HTT hp1 hp2 hp3 hp4 CP CZ0
      clear hP
      have CG2 := Lib.hid (fun (W : World) => get_any P (by omega) W)
      rw [HGT.out] at CG2
      have CT2 := Lib.hid (fun (W : World) => take_any' (tailB P) (by omega) W)
      rw [HTT.out] at CT2
      clear HGT HTT hp4
      have hPN : (P.size : Int) - 1 = (N : Int) := by omega
      have w1 : IntKind.i64.wrap ((P.size : Int) - 1) = (N : Int) := by rw [IntKind.wrap_i64]; omega
      have hsl : ∀ W, (Instr.slice 9 (.string P) (some (.int .i64 1)) none none).run Try.prog W = .ok (.string (tailB P)) W := fun W => by rw [run_slice_string_from_if W 9 P .i64 1 Try.underlying9, if_pos (by omega)]; rfl
      have d2 : decide ((P.size : Int) < 2) = false := decide_eq_false (by omega)
      clear hp1 hPN
      generalize tailB P = P' at CT2 hsl
      go_wp2_with (refine wpList_load_blk rfl 25 _ rfl (w.heap.size) rfl _ 25 _ Xx_1.out Try.underlying25 rfl info25 ?_)
      refine (CP.out).mono ?_
      rintro e v2 ⟨rfl, bb⟩
      have Tx_2 := Lib.hid (Tx_1.out.below bb (fun _ _ h => h))
      have Xx_2 := Lib.hid (Xx_1.out.below bb Xx_1.out.lt)
      have B_2 := Lib.hid (B_1.out.trans (bb.mono B_1.out.size))
      clear bb
      clear B_1 Tx_1 Xx_1
      clear CP
      have CV := Lib.hid (rvalid_any _ t ⟨xf, .slice sx lx cx⟩ v2 Tx_2.out HOK.out.1 HOK.out.bulk)
      rw [HV.out] at CV
      unfold ftV at CV
      try dsimp only at CV
      go_wp2_with (refine wpList_load_blk rfl 25 _ rfl (w.heap.size) rfl _ 25 _ Xx_2.out Try.underlying25 rfl info25 ?_)
      refine (CV.out).mono ?_
      rintro e v3 ⟨rfl, bb⟩
      have Tx_3 := Lib.hid (Tx_2.out.below bb (fun _ _ h => h))
      have Xx_3 := Lib.hid (Xx_2.out.below bb Xx_2.out.lt)
      have B_3 := Lib.hid (B_2.out.trans (bb.mono B_2.out.size))
      clear bb
      clear B_2 Tx_2 Xx_2
      clear CV
      go_wp2_with fail
      refine (CG2.out v3).mono ?_
      rintro e v4 ⟨bb, x, rfl, tx⟩
      dsimp only at tx
      have Tx_4 := Lib.hid (Tx_3.out.below bb (fun _ _ h => h))
      have Xx_4 := Lib.hid (Xx_3.out.below bb Xx_3.out.lt)
      have B_4 := Lib.hid (B_3.out.trans (bb.mono B_3.out.size))
      clear bb CG2
      clear B_3 Tx_3 Xx_3
      obtain ⟨_, sq, cq, vx⟩ := tx.its.2.form
      obtain ⟨qf, xv⟩ := x
      dsimp only at vx
      subst vx
      obtain ⟨lq, hlq⟩ : ∃ l, l = (t).l.length := ⟨_, rfl⟩
      rw [← hlq] at tx ⊢
      clear hlq
      unfold ftV
      have Tq_5 := Lib.hid (tx.below ((Below.refl _ _).alloc (Nat.le_refl _) (.cells #[.int .i64 qf.k, .int .i64 qf.n, .int .i64 qf.g, .string qf.nm, .string qf.fn, .int .i64 qf.ar, .slice sq lq cq, .string qf.bs, .int .i64 qf.bt] 25)) (fun _ _ h => h))
      have Tx_5 := Lib.hid (Tx_4.out.below ((Below.refl _ _).alloc (Nat.le_refl _) (.cells #[.int .i64 qf.k, .int .i64 qf.n, .int .i64 qf.g, .string qf.nm, .string qf.fn, .int .i64 qf.ar, .slice sq lq cq, .string qf.bs, .int .i64 qf.bt] 25)) (fun _ _ h => h))
      have Xx_5 := Lib.hid (Xx_4.out.alloc (.cells #[.int .i64 qf.k, .int .i64 qf.n, .int .i64 qf.g, .string qf.nm, .string qf.fn, .int .i64 qf.ar, .slice sq lq cq, .string qf.bs, .int .i64 qf.bt] 25))
      have B_5 := Lib.hid (B_4.out.alloc B_4.out.size (.cells #[.int .i64 qf.k, .int .i64 qf.n, .int .i64 qf.g, .string qf.nm, .string qf.fn, .int .i64 qf.ar, .slice sq lq cq, .string qf.bs, .int .i64 qf.bt] 25))
      have Xq_5 := Lib.hid (Blk.new v4 25 #[.int .i64 qf.k, .int .i64 qf.n, .int .i64 qf.g, .string qf.nm, .string qf.fn, .int .i64 qf.ar, .slice sq lq cq, .string qf.bs, .int .i64 qf.bt])
      clear tx
      clear B_4 Tx_4 Xx_4
      try dsimp only
      go_upto_region 7 with fail
      generalize v4.alloc (.cells #[.int .i64 qf.k, .int .i64 qf.n, .int .i64 qf.g, .string qf.nm, .string qf.fn, .int .i64 qf.ar, .slice sq lq cq, .string qf.bs, .int .i64 qf.bt] 25) = v5 at * 
      generalize v4.heap.size = gq at *
      go_wp2_with fail
      refine (CT2.out v5).mono ?_
      rintro e v6 ⟨bb, x, rfl, tx⟩
      dsimp only at tx
      have Tx_6 := Lib.hid (Tx_5.out.below bb (fun _ _ h => h))
      have Tq_6 := Lib.hid (Tq_5.out.below bb (fun _ _ h => h))
      have Xx_6 := Lib.hid (Xx_5.out.below bb Xx_5.out.lt)
      have Xq_6 := Lib.hid (Xq_5.out.below bb Xq_5.out.lt)
      have B_6 := Lib.hid (B_5.out.trans (bb.mono B_5.out.size))
      clear bb CT2 hsl
      clear B_5 Tx_5 Tq_5 Xx_5 Xq_5
      obtain ⟨_, sr, cr, vx⟩ := tx.its.2.form
      obtain ⟨rf, xv⟩ := x
      dsimp only at vx
      subst vx
      obtain ⟨lr, hlr⟩ : ∃ l, l = (t).l.length := ⟨_, rfl⟩
      rw [← hlr] at tx ⊢
      clear hlr
      unfold ftV
      have Tr_7 := Lib.hid (tx.below ((Below.refl _ _).alloc (Nat.le_refl _) (.cells #[.int .i64 rf.k, .int .i64 rf.n, .int .i64 rf.g, .string rf.nm, .string rf.fn, .int .i64 rf.ar, .slice sr lr cr, .string rf.bs, .int .i64 rf.bt] 25)) (fun _ _ h => h))
      have Tx_7 := Lib.hid (Tx_6.out.below ((Below.refl _ _).alloc (Nat.le_refl _) (.cells #[.int .i64 rf.k, .int .i64 rf.n, .int .i64 rf.g, .string rf.nm, .string rf.fn, .int .i64 rf.ar, .slice sr lr cr, .string rf.bs, .int .i64 rf.bt] 25)) (fun _ _ h => h))
      have Tq_7 := Lib.hid (Tq_6.out.below ((Below.refl _ _).alloc (Nat.le_refl _) (.cells #[.int .i64 rf.k, .int .i64 rf.n, .int .i64 rf.g, .string rf.nm, .string rf.fn, .int .i64 rf.ar, .slice sr lr cr, .string rf.bs, .int .i64 rf.bt] 25)) (fun _ _ h => h))
      have Xx_7 := Lib.hid (Xx_6.out.alloc (.cells #[.int .i64 rf.k, .int .i64 rf.n, .int .i64 rf.g, .string rf.nm, .string rf.fn, .int .i64 rf.ar, .slice sr lr cr, .string rf.bs, .int .i64 rf.bt] 25))
      have Xq_7 := Lib.hid (Xq_6.out.alloc (.cells #[.int .i64 rf.k, .int .i64 rf.n, .int .i64 rf.g, .string rf.nm, .string rf.fn, .int .i64 rf.ar, .slice sr lr cr, .string rf.bs, .int .i64 rf.bt] 25))
      have B_7 := Lib.hid (B_6.out.alloc B_6.out.size (.cells #[.int .i64 rf.k, .int .i64 rf.n, .int .i64 rf.g, .string rf.nm, .string rf.fn, .int .i64 rf.ar, .slice sr lr cr, .string rf.bs, .int .i64 rf.bt] 25))
      have Xr_7 := Lib.hid (Blk.new v6 25 #[.int .i64 rf.k, .int .i64 rf.n, .int .i64 rf.g, .string rf.nm, .string rf.fn, .int .i64 rf.ar, .slice sr lr cr, .string rf.bs, .int .i64 rf.bt])
      clear tx
      clear B_6 Tx_6 Tq_6 Xx_6 Xq_6
      try dsimp only
      go_upto_region 10 with fail
      generalize v6.alloc (.cells #[.int .i64 rf.k, .int .i64 rf.n, .int .i64 rf.g, .string rf.nm, .string rf.fn, .int .i64 rf.ar, .slice sr lr cr, .string rf.bs, .int .i64 rf.bt] 25) = v7 at * 
      generalize v6.heap.size = gr at *
      have CS := Lib.hid (same_any t t _ _ ⟨xf, .slice sx lx cx⟩ ⟨qf, .slice sq lq cq⟩ v7 Tx_7.out Tq_7.out)
      rw [(eqT_iff t t).2 rfl] at CS
      unfold ftV at CS
      try dsimp only at CS
      have cXx0 : v7.cell? ⟨w.heap.size, 0, none⟩ = some (.int .i64 xf.k) := Xx_7.out.cell 0
      have cXx1 : v7.cell? ⟨w.heap.size, 1, none⟩ = some (.int .i64 xf.n) := Xx_7.out.cell 1
      have cXx2 : v7.cell? ⟨w.heap.size, 2, none⟩ = some (.int .i64 xf.g) := Xx_7.out.cell 2
      have cXx3 : v7.cell? ⟨w.heap.size, 3, none⟩ = some (.string xf.nm) := Xx_7.out.cell 3
      have cXx4 : v7.cell? ⟨w.heap.size, 4, none⟩ = some (.string xf.fn) := Xx_7.out.cell 4
      have cXx5 : v7.cell? ⟨w.heap.size, 5, none⟩ = some (.int .i64 xf.ar) := Xx_7.out.cell 5
      have cXx6 : v7.cell? ⟨w.heap.size, 6, none⟩ = some (.slice sx lx cx) := Xx_7.out.cell 6
      have cXx7 : v7.cell? ⟨w.heap.size, 7, none⟩ = some (.string xf.bs) := Xx_7.out.cell 7
      have cXx8 : v7.cell? ⟨w.heap.size, 8, none⟩ = some (.int .i64 xf.bt) := Xx_7.out.cell 8
      have cXq0 : v7.cell? ⟨gq, 0, none⟩ = some (.int .i64 qf.k) := Xq_7.out.cell 0
      have cXq1 : v7.cell? ⟨gq, 1, none⟩ = some (.int .i64 qf.n) := Xq_7.out.cell 1
      have cXq2 : v7.cell? ⟨gq, 2, none⟩ = some (.int .i64 qf.g) := Xq_7.out.cell 2
      have cXq3 : v7.cell? ⟨gq, 3, none⟩ = some (.string qf.nm) := Xq_7.out.cell 3
      have cXq4 : v7.cell? ⟨gq, 4, none⟩ = some (.string qf.fn) := Xq_7.out.cell 4
      have cXq5 : v7.cell? ⟨gq, 5, none⟩ = some (.int .i64 qf.ar) := Xq_7.out.cell 5
      have cXq6 : v7.cell? ⟨gq, 6, none⟩ = some (.slice sq lq cq) := Xq_7.out.cell 6
      have cXq7 : v7.cell? ⟨gq, 7, none⟩ = some (.string qf.bs) := Xq_7.out.cell 7
      have cXq8 : v7.cell? ⟨gq, 8, none⟩ = some (.int .i64 qf.bt) := Xq_7.out.cell 8
      have cXr0 : v7.cell? ⟨gr, 0, none⟩ = some (.int .i64 rf.k) := Xr_7.out.cell 0
      have cXr1 : v7.cell? ⟨gr, 1, none⟩ = some (.int .i64 rf.n) := Xr_7.out.cell 1
      have cXr2 : v7.cell? ⟨gr, 2, none⟩ = some (.int .i64 rf.g) := Xr_7.out.cell 2
      have cXr3 : v7.cell? ⟨gr, 3, none⟩ = some (.string rf.nm) := Xr_7.out.cell 3
      have cXr4 : v7.cell? ⟨gr, 4, none⟩ = some (.string rf.fn) := Xr_7.out.cell 4
      have cXr5 : v7.cell? ⟨gr, 5, none⟩ = some (.int .i64 rf.ar) := Xr_7.out.cell 5
      have cXr6 : v7.cell? ⟨gr, 6, none⟩ = some (.slice sr lr cr) := Xr_7.out.cell 6
      have cXr7 : v7.cell? ⟨gr, 7, none⟩ = some (.string rf.bs) := Xr_7.out.cell 7
      have cXr8 : v7.cell? ⟨gr, 8, none⟩ = some (.int .i64 rf.bt) := Xr_7.out.cell 8
      go_wp2_with fail
      clear cXx0 cXx1 cXx2 cXx3 cXx4 cXx5 cXx6 cXx7 cXx8 cXq0 cXq1 cXq2 cXq3 cXq4 cXq5 cXq6 cXq7 cXq8 cXr0 cXr1 cXr2 cXr3 cXr4 cXr5 cXr6 cXr7 cXr8
      refine (CS.out).mono ?_
      rintro e v8 ⟨rfl, bb⟩
      have Tx_8 := Lib.hid (Tx_7.out.below bb (fun _ _ h => h))
      have Tq_8 := Lib.hid (Tq_7.out.below bb (fun _ _ h => h))
      have Tr_8 := Lib.hid (Tr_7.out.below bb (fun _ _ h => h))
      have Xx_8 := Lib.hid (Xx_7.out.below bb Xx_7.out.lt)
      have Xq_8 := Lib.hid (Xq_7.out.below bb Xq_7.out.lt)
      have Xr_8 := Lib.hid (Xr_7.out.below bb Xr_7.out.lt)
      have B_8 := Lib.hid (B_7.out.trans (bb.mono B_7.out.size))
      clear bb
      clear B_7 Tx_7 Tq_7 Tr_7 Xx_7 Xq_7 Xr_7
      clear CS
      have CS := Lib.hid (same_any t t _ _ ⟨xf, .slice sx lx cx⟩ ⟨rf, .slice sr lr cr⟩ v8 Tx_8.out Tr_8.out)
      rw [(eqT_iff t t).2 rfl] at CS
      unfold ftV at CS
      try dsimp only at CS
      have cXx0 : v8.cell? ⟨w.heap.size, 0, none⟩ = some (.int .i64 xf.k) := Xx_8.out.cell 0
      have cXx1 : v8.cell? ⟨w.heap.size, 1, none⟩ = some (.int .i64 xf.n) := Xx_8.out.cell 1
      have cXx2 : v8.cell? ⟨w.heap.size, 2, none⟩ = some (.int .i64 xf.g) := Xx_8.out.cell 2
      have cXx3 : v8.cell? ⟨w.heap.size, 3, none⟩ = some (.string xf.nm) := Xx_8.out.cell 3
      have cXx4 : v8.cell? ⟨w.heap.size, 4, none⟩ = some (.string xf.fn) := Xx_8.out.cell 4
      have cXx5 : v8.cell? ⟨w.heap.size, 5, none⟩ = some (.int .i64 xf.ar) := Xx_8.out.cell 5
      have cXx6 : v8.cell? ⟨w.heap.size, 6, none⟩ = some (.slice sx lx cx) := Xx_8.out.cell 6
      have cXx7 : v8.cell? ⟨w.heap.size, 7, none⟩ = some (.string xf.bs) := Xx_8.out.cell 7
      have cXx8 : v8.cell? ⟨w.heap.size, 8, none⟩ = some (.int .i64 xf.bt) := Xx_8.out.cell 8
      have cXr0 : v8.cell? ⟨gr, 0, none⟩ = some (.int .i64 rf.k) := Xr_8.out.cell 0
      have cXr1 : v8.cell? ⟨gr, 1, none⟩ = some (.int .i64 rf.n) := Xr_8.out.cell 1
      have cXr2 : v8.cell? ⟨gr, 2, none⟩ = some (.int .i64 rf.g) := Xr_8.out.cell 2
      have cXr3 : v8.cell? ⟨gr, 3, none⟩ = some (.string rf.nm) := Xr_8.out.cell 3
      have cXr4 : v8.cell? ⟨gr, 4, none⟩ = some (.string rf.fn) := Xr_8.out.cell 4
      have cXr5 : v8.cell? ⟨gr, 5, none⟩ = some (.int .i64 rf.ar) := Xr_8.out.cell 5
      have cXr6 : v8.cell? ⟨gr, 6, none⟩ = some (.slice sr lr cr) := Xr_8.out.cell 6
      have cXr7 : v8.cell? ⟨gr, 7, none⟩ = some (.string rf.bs) := Xr_8.out.cell 7
      have cXr8 : v8.cell? ⟨gr, 8, none⟩ = some (.int .i64 rf.bt) := Xr_8.out.cell 8
      go_wp2_with fail
      clear cXx0 cXx1 cXx2 cXx3 cXx4 cXx5 cXx6 cXx7 cXx8 cXr0 cXr1 cXr2 cXr3 cXr4 cXr5 cXr6 cXr7 cXr8
      refine (CS.out).mono ?_
      rintro e v9 ⟨rfl, bb⟩
      have Tx_9 := Lib.hid (Tx_8.out.below bb (fun _ _ h => h))
      have Tq_9 := Lib.hid (Tq_8.out.below bb (fun _ _ h => h))
      have Tr_9 := Lib.hid (Tr_8.out.below bb (fun _ _ h => h))
      have Xx_9 := Lib.hid (Xx_8.out.below bb Xx_8.out.lt)
      have Xq_9 := Lib.hid (Xq_8.out.below bb Xq_8.out.lt)
      have Xr_9 := Lib.hid (Xr_8.out.below bb Xr_8.out.lt)
      have B_9 := Lib.hid (B_8.out.trans (bb.mono B_8.out.size))
      clear bb
      clear B_8 Tx_8 Tq_8 Tr_8 Xx_8 Xq_8 Xr_8
      clear CS
      have CZ := Lib.hid (CZ0.out v9 Tx_9.out.old)
      unfold ftV at CZ
      try dsimp only at CZ
      clear CZ0
      have cXx0 : v9.cell? ⟨w.heap.size, 0, none⟩ = some (.int .i64 xf.k) := Xx_9.out.cell 0
      have cXx1 : v9.cell? ⟨w.heap.size, 1, none⟩ = some (.int .i64 xf.n) := Xx_9.out.cell 1
      have cXx2 : v9.cell? ⟨w.heap.size, 2, none⟩ = some (.int .i64 xf.g) := Xx_9.out.cell 2
      have cXx3 : v9.cell? ⟨w.heap.size, 3, none⟩ = some (.string xf.nm) := Xx_9.out.cell 3
      have cXx4 : v9.cell? ⟨w.heap.size, 4, none⟩ = some (.string xf.fn) := Xx_9.out.cell 4
      have cXx5 : v9.cell? ⟨w.heap.size, 5, none⟩ = some (.int .i64 xf.ar) := Xx_9.out.cell 5
      have cXx6 : v9.cell? ⟨w.heap.size, 6, none⟩ = some (.slice sx lx cx) := Xx_9.out.cell 6
      have cXx7 : v9.cell? ⟨w.heap.size, 7, none⟩ = some (.string xf.bs) := Xx_9.out.cell 7
      have cXx8 : v9.cell? ⟨w.heap.size, 8, none⟩ = some (.int .i64 xf.bt) := Xx_9.out.cell 8
      go_wp2_with fail
      clear cXx0 cXx1 cXx2 cXx3 cXx4 cXx5 cXx6 cXx7 cXx8
      refine (CZ.out).mono ?_
      rintro e v10 ⟨rfl, bb⟩
      have Tx_10 := Lib.hid (Tx_9.out.below bb (fun _ _ h => h))
      have Tq_10 := Lib.hid (Tq_9.out.below bb (fun _ _ h => h))
      have Tr_10 := Lib.hid (Tr_9.out.below bb (fun _ _ h => h))
      have Xx_10 := Lib.hid (Xx_9.out.below bb Xx_9.out.lt)
      have Xq_10 := Lib.hid (Xq_9.out.below bb Xq_9.out.lt)
      have Xr_10 := Lib.hid (Xr_9.out.below bb Xr_9.out.lt)
      have B_10 := Lib.hid (B_9.out.trans (bb.mono B_9.out.size))
      clear bb
      clear B_9 Tx_9 Tq_9 Tr_9 Xx_9 Xq_9 Xr_9
      clear CZ
      go_wp2_with fail
      refine (awake_any v10).mono ?_
      rintro e v11 ⟨rfl, bb⟩
      have Tx_11 := Lib.hid (Tx_10.out.below bb (fun _ _ h => h))
      have Tq_11 := Lib.hid (Tq_10.out.below bb (fun _ _ h => h))
      have Tr_11 := Lib.hid (Tr_10.out.below bb (fun _ _ h => h))
      have Xx_11 := Lib.hid (Xx_10.out.below bb Xx_10.out.lt)
      have Xq_11 := Lib.hid (Xq_10.out.below bb Xq_10.out.lt)
      have Xr_11 := Lib.hid (Xr_10.out.below bb Xr_10.out.lt)
      have B_11 := Lib.hid (B_10.out.trans (bb.mono B_10.out.size))
      clear bb
      clear B_10 Tx_10 Tq_10 Tr_10 Xx_10 Xq_10 Xr_10
      go_wp2_with fail
      go_ret
      exact ⟨rfl, B_11.out⟩
end Go.Proofs.Ytcpdmlnodhokmaa
