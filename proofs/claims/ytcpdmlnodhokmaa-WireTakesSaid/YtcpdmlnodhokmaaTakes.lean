/- WireTakes: the walk. -/
import Derived.Test.YtcpdmlnodhokmaaOnce
import Derived.Test.YtcpdmlnodhokmaaRk
namespace Go.Proofs.Ytcpdmlnodhokmaa
open Go.RowKit Go.Rt Go.Rw

set_option maxRecDepth 100000 in
set_option maxHeartbeats 2000000 in
theorem takes_walk (b : ByteArray) (w : World) (hz : b.size ≤ 9223372036854775807) : Calls Try.prog 4 #[.string b] w fun e w' => e = .returned (.bool true) ∧ Below w.heap.size w w' := by
  by_cases hbig : 200000 < b.size
  · have d1 : decide ((200000 : Int) < b.size) = true := decide_eq_true (by omega)
    go_enter Try.func4, Try.ntmps4
    go_wp2_with fail
    refine (awake_any w).mono ?_
    rintro e v1 ⟨rfl, b1⟩
    have B1 := Lib.hid b1
    clear b1
    go_wp2_with fail
    go_ret
    exact ⟨rfl, B1.out⟩
  · have hle : b.size ≤ 200000 := by omega
    have d1 : decide ((200000 : Int) < b.size) = false := decide_eq_false (by omega)
    have HG := Lib.hid (fun (W : World) => take_any' b hle W)
    have HR := Lib.hid (fun (W : World) => rtk_any b hle W)
    rw [rtakeF_eq b hle] at HR
    obtain ⟨f, hf⟩ : ∃ f, f = takeF b := ⟨_, rfl⟩
    rw [← hf] at HG HR
    obtain ⟨t, m, n⟩ := f
    clear hf hbig hle
    go_enter Try.func4, Try.ntmps4
    go_wp2_with fail
    refine (HG.out w).mono ?_
    rintro e v1 ⟨bb, x, rfl, tx⟩
    have B_1 := Lib.hid bb
    dsimp only at tx
    clear bb HG
    obtain ⟨_, sq, cq, vx⟩ := tx.its.2.form
    obtain ⟨qf, xv⟩ := x
    dsimp only at vx
    subst vx
    obtain ⟨lq, hlq⟩ : ∃ l, l = (t).l.length := ⟨_, rfl⟩
    rw [← hlq] at tx ⊢
    clear hlq
    unfold ftV
    have Tq_2 := Lib.hid (tx.below ((Below.refl _ _).alloc (Nat.le_refl _) (.cells #[.int .i64 qf.k, .int .i64 qf.n, .int .i64 qf.g, .string qf.nm, .string qf.fn, .int .i64 qf.ar, .slice sq lq cq, .string qf.bs, .int .i64 qf.bt] 25)) (fun _ _ h => h))
    have B_2 := Lib.hid (B_1.out.alloc B_1.out.size (.cells #[.int .i64 qf.k, .int .i64 qf.n, .int .i64 qf.g, .string qf.nm, .string qf.fn, .int .i64 qf.ar, .slice sq lq cq, .string qf.bs, .int .i64 qf.bt] 25))
    have Xq_2 := Lib.hid (Blk.new v1 25 #[.int .i64 qf.k, .int .i64 qf.n, .int .i64 qf.g, .string qf.nm, .string qf.fn, .int .i64 qf.ar, .slice sq lq cq, .string qf.bs, .int .i64 qf.bt])
    clear tx
    clear B_1
    try dsimp only
    clear d1
    go_upto_region 4 with fail
    generalize v1.alloc (.cells #[.int .i64 qf.k, .int .i64 qf.n, .int .i64 qf.g, .string qf.nm, .string qf.fn, .int .i64 qf.ar, .slice sq lq cq, .string qf.bs, .int .i64 qf.bt] 25) = v2 at * 
    generalize v1.heap.size = gq at *
    go_wp2_with fail
    refine (HR.out v2).mono ?_
    rintro e v3 ⟨bb, x, rfl, tx⟩
    dsimp only at tx
    have Tq_3 := Lib.hid (Tq_2.out.below bb (fun _ _ h => h))
    have Xq_3 := Lib.hid (Xq_2.out.below bb Xq_2.out.lt)
    have B_3 := Lib.hid (B_2.out.trans (bb.mono B_2.out.size))
    clear bb HR
    clear B_2 Tq_2 Xq_2
    obtain ⟨_, sr, cr, vx⟩ := tx.its.2.form
    obtain ⟨rf, xv⟩ := x
    dsimp only at vx
    subst vx
    obtain ⟨lr, hlr⟩ : ∃ l, l = (t).l.length := ⟨_, rfl⟩
    rw [← hlr] at tx ⊢
    clear hlr
    unfold ftV
    have Tr_4 := Lib.hid (tx.below ((Below.refl _ _).alloc (Nat.le_refl _) (.cells #[.int .i64 rf.k, .int .i64 rf.n, .int .i64 rf.g, .string rf.nm, .string rf.fn, .int .i64 rf.ar, .slice sr lr cr, .string rf.bs, .int .i64 rf.bt] 25)) (fun _ _ h => h))
    have Tq_4 := Lib.hid (Tq_3.out.below ((Below.refl _ _).alloc (Nat.le_refl _) (.cells #[.int .i64 rf.k, .int .i64 rf.n, .int .i64 rf.g, .string rf.nm, .string rf.fn, .int .i64 rf.ar, .slice sr lr cr, .string rf.bs, .int .i64 rf.bt] 25)) (fun _ _ h => h))
    have Xq_4 := Lib.hid (Xq_3.out.alloc (.cells #[.int .i64 rf.k, .int .i64 rf.n, .int .i64 rf.g, .string rf.nm, .string rf.fn, .int .i64 rf.ar, .slice sr lr cr, .string rf.bs, .int .i64 rf.bt] 25))
    have B_4 := Lib.hid (B_3.out.alloc B_3.out.size (.cells #[.int .i64 rf.k, .int .i64 rf.n, .int .i64 rf.g, .string rf.nm, .string rf.fn, .int .i64 rf.ar, .slice sr lr cr, .string rf.bs, .int .i64 rf.bt] 25))
    have Xr_4 := Lib.hid (Blk.new v3 25 #[.int .i64 rf.k, .int .i64 rf.n, .int .i64 rf.g, .string rf.nm, .string rf.fn, .int .i64 rf.ar, .slice sr lr cr, .string rf.bs, .int .i64 rf.bt])
    clear tx
    clear B_3 Tq_3 Xq_3
    try dsimp only
    go_upto_region 5 with fail
    generalize v3.alloc (.cells #[.int .i64 rf.k, .int .i64 rf.n, .int .i64 rf.g, .string rf.nm, .string rf.fn, .int .i64 rf.ar, .slice sr lr cr, .string rf.bs, .int .i64 rf.bt] 25) = v4 at * 
    generalize v3.heap.size = gr at *
    have CS := Lib.hid (same_any t t _ _ ⟨qf, .slice sq lq cq⟩ ⟨rf, .slice sr lr cr⟩ v4 Tq_4.out Tr_4.out)
    rw [(eqT_iff t t).2 rfl] at CS
    unfold ftV at CS
    try dsimp only at CS
    have cXq0 : v4.cell? ⟨gq, 0, none⟩ = some (.int .i64 qf.k) := Xq_4.out.cell 0
    have cXq1 : v4.cell? ⟨gq, 1, none⟩ = some (.int .i64 qf.n) := Xq_4.out.cell 1
    have cXq2 : v4.cell? ⟨gq, 2, none⟩ = some (.int .i64 qf.g) := Xq_4.out.cell 2
    have cXq3 : v4.cell? ⟨gq, 3, none⟩ = some (.string qf.nm) := Xq_4.out.cell 3
    have cXq4 : v4.cell? ⟨gq, 4, none⟩ = some (.string qf.fn) := Xq_4.out.cell 4
    have cXq5 : v4.cell? ⟨gq, 5, none⟩ = some (.int .i64 qf.ar) := Xq_4.out.cell 5
    have cXq6 : v4.cell? ⟨gq, 6, none⟩ = some (.slice sq lq cq) := Xq_4.out.cell 6
    have cXq7 : v4.cell? ⟨gq, 7, none⟩ = some (.string qf.bs) := Xq_4.out.cell 7
    have cXq8 : v4.cell? ⟨gq, 8, none⟩ = some (.int .i64 qf.bt) := Xq_4.out.cell 8
    have cXr0 : v4.cell? ⟨gr, 0, none⟩ = some (.int .i64 rf.k) := Xr_4.out.cell 0
    have cXr1 : v4.cell? ⟨gr, 1, none⟩ = some (.int .i64 rf.n) := Xr_4.out.cell 1
    have cXr2 : v4.cell? ⟨gr, 2, none⟩ = some (.int .i64 rf.g) := Xr_4.out.cell 2
    have cXr3 : v4.cell? ⟨gr, 3, none⟩ = some (.string rf.nm) := Xr_4.out.cell 3
    have cXr4 : v4.cell? ⟨gr, 4, none⟩ = some (.string rf.fn) := Xr_4.out.cell 4
    have cXr5 : v4.cell? ⟨gr, 5, none⟩ = some (.int .i64 rf.ar) := Xr_4.out.cell 5
    have cXr6 : v4.cell? ⟨gr, 6, none⟩ = some (.slice sr lr cr) := Xr_4.out.cell 6
    have cXr7 : v4.cell? ⟨gr, 7, none⟩ = some (.string rf.bs) := Xr_4.out.cell 7
    have cXr8 : v4.cell? ⟨gr, 8, none⟩ = some (.int .i64 rf.bt) := Xr_4.out.cell 8
    go_wp2_with fail
    clear cXq0 cXq1 cXq2 cXq3 cXq4 cXq5 cXq6 cXq7 cXq8 cXr0 cXr1 cXr2 cXr3 cXr4 cXr5 cXr6 cXr7 cXr8
    refine (CS.out).mono ?_
    rintro e v5 ⟨rfl, bb⟩
    have Tq_5 := Lib.hid (Tq_4.out.below bb (fun _ _ h => h))
    have Tr_5 := Lib.hid (Tr_4.out.below bb (fun _ _ h => h))
    have Xq_5 := Lib.hid (Xq_4.out.below bb Xq_4.out.lt)
    have Xr_5 := Lib.hid (Xr_4.out.below bb Xr_4.out.lt)
    have B_5 := Lib.hid (B_4.out.trans (bb.mono B_4.out.size))
    clear bb
    clear B_4 Tq_4 Tr_4 Xq_4 Xr_4
    clear CS
    go_wp2_with fail
    refine (awake_any v5).mono ?_
    rintro e v6 ⟨rfl, bb⟩
    have Tq_6 := Lib.hid (Tq_5.out.below bb (fun _ _ h => h))
    have Tr_6 := Lib.hid (Tr_5.out.below bb (fun _ _ h => h))
    have Xq_6 := Lib.hid (Xq_5.out.below bb Xq_5.out.lt)
    have Xr_6 := Lib.hid (Xr_5.out.below bb Xr_5.out.lt)
    have B_6 := Lib.hid (B_5.out.trans (bb.mono B_5.out.size))
    clear bb
    clear B_5 Tq_5 Tr_5 Xq_5 Xr_5
    go_wp2_with fail
    go_ret
    exact ⟨rfl, B_6.out⟩
end Go.Proofs.Ytcpdmlnodhokmaa
