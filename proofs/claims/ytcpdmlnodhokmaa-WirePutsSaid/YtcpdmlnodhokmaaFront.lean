/- WireFront: the walk. -/
import Derived.Test.YtcpdmlnodhokmaaShort
namespace Go.Proofs.Ytcpdmlnodhokmaa
open Go.RowKit Go.Rt Go.Rw

theorem append_list (a b : ByteArray) : (a ++ b).data.toList = a.data.toList ++ b.data.toList := by rw [ByteArray.data_append, Array.toList_append]
theorem size0_list {m : ByteArray} (h : m.size = 0) : m.data.toList = [] := List.eq_nil_of_length_eq_zero (by rw [← size_list]; exact h)
theorem size1_list {m : ByteArray} (h : ¬ m.size = 0) : ¬ m.data.toList = [] := fun e => h (by rw [size_list, e]; rfl)
theorem empty_yes {m : ByteArray} (h : m.size = 0) : m.toList.isEmpty = true := by
  have : m = ByteArray.mk #[] := ByteArray.ext (Array.eq_empty_of_size_eq_zero h)
  subst this
  simp
theorem empty_no {m : ByteArray} (h : ¬ m.size = 0) : m.toList.isEmpty = false := by
  rw [List.isEmpty_eq_false_iff]
  intro e
  have h2 : m.toList.length = 0 := by rw [e]; rfl
  rw [ByteArray.toList_eq] at h2
  exact h h2
set_option maxRecDepth 100000 in
set_option maxHeartbeats 2000000 in
theorem front_walk (t : Tm) (x : Ft) (m : ByteArray) (w : World) (hx : TmAt (fun b => b < w.heap.size) w t x) (hr : rngT t) (hz : m.size ≤ 9223372036854775807) : Calls Try.prog 6 #[ftV x, .string m] w fun e w' => e = .returned (.bool true) ∧ Below w.heap.size w w' := by
  obtain ⟨_, sx, cx, vx⟩ := hx.its.2.form
  obtain ⟨xf, xv⟩ := x
  dsimp only at vx
  subst vx
  obtain ⟨lx, hlx⟩ : ∃ l, l = t.l.length := ⟨_, rfl⟩
  rw [← hlx] at hx ⊢
  clear hlx
  have Tx_0 := Lib.hid (hx.below ((Below.refl _ _).alloc (Nat.le_refl _) (.cells #[.int .i64 xf.k, .int .i64 xf.n, .int .i64 xf.g, .string xf.nm, .string xf.fn, .int .i64 xf.ar, .slice sx lx cx, .string xf.bs, .int .i64 xf.bt] 25)) (fun _ _ h => h))
  have Xx_0 := Lib.hid (Blk.new w 25 #[.int .i64 xf.k, .int .i64 xf.n, .int .i64 xf.g, .string xf.nm, .string xf.fn, .int .i64 xf.ar, .slice sx lx cx, .string xf.bs, .int .i64 xf.bt])
  have B_0 := Lib.hid ((Below.refl w.heap.size w).alloc (Nat.le_refl _) (.cells #[.int .i64 xf.k, .int .i64 xf.n, .int .i64 xf.g, .string xf.nm, .string xf.fn, .int .i64 xf.ar, .slice sx lx cx, .string xf.bs, .int .i64 xf.bt] 25))
  have HR := Lib.hid hr
  clear hx hr
  unfold ftV
  go_enter Try.func6, Try.ntmps6
  go_upto_region 1 with fail
  generalize w.alloc (.cells #[.int .i64 xf.k, .int .i64 xf.n, .int .i64 xf.g, .string xf.nm, .string xf.fn, .int .i64 xf.ar, .slice sx lx cx, .string xf.bs, .int .i64 xf.bt] 25) = v0 at Tx_0 Xx_0 B_0 ⊢
  have CG := Lib.hid (great_any t ⟨xf, .slice sx lx cx⟩ v0 Tx_0.out.old)
  unfold ftV at CG
  try dsimp only at CG
  go_wp2_with (refine wpList_load_blk rfl 25 _ rfl (w.heap.size) rfl _ 25 _ Xx_0.out Try.underlying25 rfl info25 ?_)
  refine (CG.out).mono ?_
  rintro e v1 ⟨g, rfl, hg, bb⟩
  have Tx_1 := Lib.hid (Tx_0.out.below bb (fun _ _ h => h))
  have Xx_1 := Lib.hid (Xx_0.out.below bb Xx_0.out.lt)
  have B_1 := Lib.hid (B_0.out.trans (bb.mono B_0.out.size))
  clear bb
  clear B_0 Tx_0 Xx_0
  clear CG
  cases g with
  | true =>
    clear hg
    go_wp2_with fail
    refine (awake_any v1).mono ?_
    rintro e v2 ⟨rfl, bb⟩
    have Tx_2 := Lib.hid (Tx_1.out.below bb (fun _ _ h => h))
    have Xx_2 := Lib.hid (Xx_1.out.below bb Xx_1.out.lt)
    have B_2 := Lib.hid (B_1.out.trans (bb.mono B_1.out.size))
    clear bb
    clear B_1 Tx_1 Xx_1
    go_wp2_with fail
    go_ret
    exact ⟨rfl, B_2.out⟩
  | false =>
    have HOK := Lib.hid (ok_of_great HR.out (hg rfl))
    clear hg HR
    by_cases hm : 1000 < m.size
    · have d1 : decide ((1000 : Int) < m.size) = true := decide_eq_true (by omega)
      clear hm
      go_wp2_with fail
      refine (awake_any v1).mono ?_
      rintro e v2 ⟨rfl, bb⟩
      have Tx_2 := Lib.hid (Tx_1.out.below bb (fun _ _ h => h))
      have Xx_2 := Lib.hid (Xx_1.out.below bb Xx_1.out.lt)
      have B_2 := Lib.hid (B_1.out.trans (bb.mono B_1.out.size))
      clear bb
      clear B_1 Tx_1 Xx_1
      go_wp2_with fail
      go_ret
      exact ⟨rfl, B_2.out⟩
    · have d1 : decide ((1000 : Int) < m.size) = false := decide_eq_false (by omega)
      obtain ⟨V, hv⟩ : ∃ V, V = validB t := ⟨_, rfl⟩
      have CV := Lib.hid (rvalid_any _ t ⟨xf, .slice sx lx cx⟩ v1 Tx_1.out HOK.out.1 HOK.out.bulk)
      rw [← hv] at CV
      unfold ftV at CV
      try dsimp only at CV
      have HV := Lib.hid hv.symm
      have HM := Lib.hid hm
      clear hv hm
      have cXx0 : v1.cell? ⟨w.heap.size, 0, none⟩ = some (.int .i64 xf.k) := Xx_1.out.cell 0
      have cXx1 : v1.cell? ⟨w.heap.size, 1, none⟩ = some (.int .i64 xf.n) := Xx_1.out.cell 1
      have cXx2 : v1.cell? ⟨w.heap.size, 2, none⟩ = some (.int .i64 xf.g) := Xx_1.out.cell 2
      have cXx3 : v1.cell? ⟨w.heap.size, 3, none⟩ = some (.string xf.nm) := Xx_1.out.cell 3
      have cXx4 : v1.cell? ⟨w.heap.size, 4, none⟩ = some (.string xf.fn) := Xx_1.out.cell 4
      have cXx5 : v1.cell? ⟨w.heap.size, 5, none⟩ = some (.int .i64 xf.ar) := Xx_1.out.cell 5
      have cXx6 : v1.cell? ⟨w.heap.size, 6, none⟩ = some (.slice sx lx cx) := Xx_1.out.cell 6
      have cXx7 : v1.cell? ⟨w.heap.size, 7, none⟩ = some (.string xf.bs) := Xx_1.out.cell 7
      have cXx8 : v1.cell? ⟨w.heap.size, 8, none⟩ = some (.int .i64 xf.bt) := Xx_1.out.cell 8
      go_wp2_with fail
      clear cXx0 cXx1 cXx2 cXx3 cXx4 cXx5 cXx6 cXx7 cXx8
      refine (CV.out).mono ?_
      rintro e v2 ⟨rfl, bb⟩
      have Tx_2 := Lib.hid (Tx_1.out.below bb (fun _ _ h => h))
      have Xx_2 := Lib.hid (Xx_1.out.below bb Xx_1.out.lt)
      have B_2 := Lib.hid (B_1.out.trans (bb.mono B_1.out.size))
      clear bb
      clear B_1 Tx_1 Xx_1
      clear CV
      cases V with
      | false =>
        go_wp2_with fail
        refine (awake_any v2).mono ?_
        rintro e v3 ⟨rfl, bb⟩
        have Tx_3 := Lib.hid (Tx_2.out.below bb (fun _ _ h => h))
        have Xx_3 := Lib.hid (Xx_2.out.below bb Xx_2.out.lt)
        have B_3 := Lib.hid (B_2.out.trans (bb.mono B_2.out.size))
        clear bb
        clear B_2 Tx_2 Xx_2
        go_wp2_with fail
        go_ret
        exact ⟨rfl, B_3.out⟩
      | true =>
        have hv := HV.out
        have hm := HM.out
        have HGT : Hid (getF (putS t ++ m) = if m.data.toList = [] then (t, 0) else (zeroT, 6)) := Lib.hid (getF_code hv HOK.out.1 (m := m.data.toList) (by rw [append_list, putS_list hv]))
        have HTT : Hid (takeF (tailB (putS t) ++ m) = (t, (codeT t).length, 0)) := Lib.hid (takeF_code hv HOK.out.1 (m := m.data.toList) (by rw [append_list, tail_putS hv]))
        obtain ⟨hp1, hp2⟩ := putS_short hv HOK.out.1
        have hp3 := putS_two hv
        have hp4 := tailB_size (putS t)
        obtain ⟨N, hN⟩ : ∃ N, N = (codeT t).length := ⟨_, rfl⟩
        rw [← hN] at HTT hp1
        clear hN
        have CP := Lib.hid (put_any t ⟨xf, .slice sx lx cx⟩ v2 Tx_2.out.old HOK.out)
        rw [putE_valid hv] at CP
        unfold ftV at CP
        try dsimp only at CP
        obtain ⟨P, hP⟩ : ∃ P, P = putS t := ⟨_, rfl⟩
        rw [← hP] at HGT HTT hp1 hp2 hp3 hp4 CP
        clear hP hv
        have CG2 := Lib.hid (fun (W : World) => get_any (P ++ m) (by rw [ByteArray.size_append]; omega) W)
        rw [HGT.out] at CG2
        have CT2 := Lib.hid (fun (W : World) => take_any' (tailB P ++ m) (by rw [ByteArray.size_append]; omega) W)
        rw [HTT.out] at CT2
        clear HGT HTT
        have hPN : (P.size : Int) - 1 = (N : Int) := by omega
        have w1 : IntKind.i64.wrap ((P.size : Int) - 1) = (N : Int) := by rw [IntKind.wrap_i64]; omega
        have hsl : ∀ W, (Instr.slice 9 (.string P) (some (.int .i64 1)) none none).run Try.prog W = .ok (.string (tailB P)) W := fun W => by rw [run_slice_string_from_if W 9 P .i64 1 Try.underlying9, if_pos (by omega)]; rfl
        have d2 : decide ((P.size : Int) < 2) = false := decide_eq_false (by omega)
        have hp5 : (tailB P).size ≤ 160001 := by omega
        clear hp4
        have hm1 : m.size ≤ 1000 := by omega
        have HM0 : Hid (m.size = 0 ∨ ¬ m.size = 0) := Lib.hid (Classical.em _)
        clear hp1 hPN hm HM
        generalize tailB P = P' at CT2 hsl hp5
        go_wp2_with (refine wpList_load_blk rfl 25 _ rfl (w.heap.size) rfl _ 25 _ Xx_2.out Try.underlying25 rfl info25 ?_)
        refine (CP.out).mono ?_
        rintro e v3 ⟨rfl, bb⟩
        have Tx_3 := Lib.hid (Tx_2.out.below bb (fun _ _ h => h))
        have Xx_3 := Lib.hid (Xx_2.out.below bb Xx_2.out.lt)
        have B_3 := Lib.hid (B_2.out.trans (bb.mono B_2.out.size))
        clear bb
        clear B_2 Tx_2 Xx_2
        clear CP
        have z1 : ¬ 9223372036854775807 < P'.size + m.size := by omega
        have z2 : ¬ 9223372036854775807 < P.size + m.size := by omega
        go_wp2_with fail
        refine (CT2.out v3).mono ?_
        rintro e v4 ⟨bb, x, rfl, tx⟩
        dsimp only at tx
        have Tx_4 := Lib.hid (Tx_3.out.below bb (fun _ _ h => h))
        have Xx_4 := Lib.hid (Xx_3.out.below bb Xx_3.out.lt)
        have B_4 := Lib.hid (B_3.out.trans (bb.mono B_3.out.size))
        clear bb CT2 hsl
        clear B_3 Tx_3 Xx_3
        obtain ⟨_, sq, cq, vx⟩ := tx.its.2.form
        obtain ⟨qf, xv⟩ := x
        dsimp only at vx
        subst vx
        obtain ⟨lq, hlq⟩ : ∃ l, l = (t).l.length := ⟨_, rfl⟩
        rw [← hlq] at tx ⊢
        clear hlq
        unfold ftV
        have Tq_5 := Lib.hid (tx.below ((Below.refl _ _).alloc (Nat.le_refl _) (.cells #[.int .i64 qf.k, .int .i64 qf.n, .int .i64 qf.g, .string qf.nm, .string qf.fn, .int .i64 qf.ar, .slice sq lq cq, .string qf.bs, .int .i64 qf.bt] 25)) (fun _ _ h => h))
        have Tx_5 := Lib.hid (Tx_4.out.below ((Below.refl _ _).alloc (Nat.le_refl _) (.cells #[.int .i64 qf.k, .int .i64 qf.n, .int .i64 qf.g, .string qf.nm, .string qf.fn, .int .i64 qf.ar, .slice sq lq cq, .string qf.bs, .int .i64 qf.bt] 25)) (fun _ _ h => h))
        have Xx_5 := Lib.hid (Xx_4.out.alloc (.cells #[.int .i64 qf.k, .int .i64 qf.n, .int .i64 qf.g, .string qf.nm, .string qf.fn, .int .i64 qf.ar, .slice sq lq cq, .string qf.bs, .int .i64 qf.bt] 25))
        have B_5 := Lib.hid (B_4.out.alloc B_4.out.size (.cells #[.int .i64 qf.k, .int .i64 qf.n, .int .i64 qf.g, .string qf.nm, .string qf.fn, .int .i64 qf.ar, .slice sq lq cq, .string qf.bs, .int .i64 qf.bt] 25))
        have Xq_5 := Lib.hid (Blk.new v4 25 #[.int .i64 qf.k, .int .i64 qf.n, .int .i64 qf.g, .string qf.nm, .string qf.fn, .int .i64 qf.ar, .slice sq lq cq, .string qf.bs, .int .i64 qf.bt])
        clear tx
        clear B_4 Tx_4 Xx_4
        try dsimp only
        go_upto_region 7 with fail
        generalize v4.alloc (.cells #[.int .i64 qf.k, .int .i64 qf.n, .int .i64 qf.g, .string qf.nm, .string qf.fn, .int .i64 qf.ar, .slice sq lq cq, .string qf.bs, .int .i64 qf.bt] 25) = v5 at * 
        generalize v4.heap.size = gq at *
        obtain ⟨u, e6, hu6, HU⟩ : ∃ u e6, (if m.data.toList = [] then (t, (0 : Int)) else (zeroT, 6)) = (u, e6) ∧ Hid ((m.size = 0 ∧ e6 = 0) ∨ (¬ m.size = 0 ∧ e6 = 6)) := by
          rcases HM0.out with h | h
          · rw [if_pos (size0_list h)]; exact ⟨_, _, rfl, Lib.hid (.inl ⟨h, rfl⟩)⟩
          · rw [if_neg (size1_list h)]; exact ⟨_, _, rfl, Lib.hid (.inr ⟨h, rfl⟩)⟩
        rw [hu6] at CG2
        clear hu6 HM0
        go_wp2_with fail
        refine (CG2.out v5).mono ?_
        rintro e v6 ⟨bb, x, rfl, tx⟩
        dsimp only at tx
        have Tx_6 := Lib.hid (Tx_5.out.below bb (fun _ _ h => h))
        have Tq_6 := Lib.hid (Tq_5.out.below bb (fun _ _ h => h))
        have Xx_6 := Lib.hid (Xx_5.out.below bb Xx_5.out.lt)
        have Xq_6 := Lib.hid (Xq_5.out.below bb Xq_5.out.lt)
        have B_6 := Lib.hid (B_5.out.trans (bb.mono B_5.out.size))
        clear bb CG2
        clear B_5 Tx_5 Tq_5 Xx_5 Xq_5
        obtain ⟨_, sr, cr, vx⟩ := tx.its.2.form
        obtain ⟨rf, xv⟩ := x
        dsimp only at vx
        subst vx
        obtain ⟨lr, hlr⟩ : ∃ l, l = (u).l.length := ⟨_, rfl⟩
        rw [← hlr] at tx ⊢
        clear hlr
        unfold ftV
        have Tr_7 := Lib.hid (tx.below ((Below.refl _ _).alloc (Nat.le_refl _) (.cells #[.int .i64 rf.k, .int .i64 rf.n, .int .i64 rf.g, .string rf.nm, .string rf.fn, .int .i64 rf.ar, .slice sr lr cr, .string rf.bs, .int .i64 rf.bt] 25)) (fun _ _ h => h))
        have Tx_7 := Lib.hid (Tx_6.out.below ((Below.refl _ _).alloc (Nat.le_refl _) (.cells #[.int .i64 rf.k, .int .i64 rf.n, .int .i64 rf.g, .string rf.nm, .string rf.fn, .int .i64 rf.ar, .slice sr lr cr, .string rf.bs, .int .i64 rf.bt] 25)) (fun _ _ h => h))
        have Tq_7 := Lib.hid (Tq_6.out.below ((Below.refl _ _).alloc (Nat.le_refl _) (.cells #[.int .i64 rf.k, .int .i64 rf.n, .int .i64 rf.g, .string rf.nm, .string rf.fn, .int .i64 rf.ar, .slice sr lr cr, .string rf.bs, .int .i64 rf.bt] 25)) (fun _ _ h => h))
        have Xx_7 := Lib.hid (Xx_6.out.alloc (.cells #[.int .i64 rf.k, .int .i64 rf.n, .int .i64 rf.g, .string rf.nm, .string rf.fn, .int .i64 rf.ar, .slice sr lr cr, .string rf.bs, .int .i64 rf.bt] 25))
        have Xq_7 := Lib.hid (Xq_6.out.alloc (.cells #[.int .i64 rf.k, .int .i64 rf.n, .int .i64 rf.g, .string rf.nm, .string rf.fn, .int .i64 rf.ar, .slice sr lr cr, .string rf.bs, .int .i64 rf.bt] 25))
        have B_7 := Lib.hid (B_6.out.alloc B_6.out.size (.cells #[.int .i64 rf.k, .int .i64 rf.n, .int .i64 rf.g, .string rf.nm, .string rf.fn, .int .i64 rf.ar, .slice sr lr cr, .string rf.bs, .int .i64 rf.bt] 25))
        have Xr_7 := Lib.hid (Blk.new v6 25 #[.int .i64 rf.k, .int .i64 rf.n, .int .i64 rf.g, .string rf.nm, .string rf.fn, .int .i64 rf.ar, .slice sr lr cr, .string rf.bs, .int .i64 rf.bt])
        clear tx
        clear B_6 Tx_6 Tq_6 Xx_6 Xq_6
        try dsimp only
        go_upto_region 8 with fail
        generalize v6.alloc (.cells #[.int .i64 rf.k, .int .i64 rf.n, .int .i64 rf.g, .string rf.nm, .string rf.fn, .int .i64 rf.ar, .slice sr lr cr, .string rf.bs, .int .i64 rf.bt] 25) = v7 at * 
        generalize v6.heap.size = gr at *
        have CS := Lib.hid (same_any t t _ _ ⟨xf, .slice sx lx cx⟩ ⟨qf, .slice sq lq cq⟩ v7 Tx_7.out Tq_7.out)
        rw [(eqT_iff t t).2 rfl] at CS
        unfold ftV at CS
        try dsimp only at CS
        have cXx0 : v7.cell? ⟨w.heap.size, 0, none⟩ = some (.int .i64 xf.k) := Xx_7.out.cell 0
        have cXx1 : v7.cell? ⟨w.heap.size, 1, none⟩ = some (.int .i64 xf.n) := Xx_7.out.cell 1
        have cXx2 : v7.cell? ⟨w.heap.size, 2, none⟩ = some (.int .i64 xf.g) := Xx_7.out.cell 2
        have cXx3 : v7.cell? ⟨w.heap.size, 3, none⟩ = some (.string xf.nm) := Xx_7.out.cell 3
        have cXx4 : v7.cell? ⟨w.heap.size, 4, none⟩ = some (.string xf.fn) := Xx_7.out.cell 4
        have cXx5 : v7.cell? ⟨w.heap.size, 5, none⟩ = some (.int .i64 xf.ar) := Xx_7.out.cell 5
        have cXx6 : v7.cell? ⟨w.heap.size, 6, none⟩ = some (.slice sx lx cx) := Xx_7.out.cell 6
        have cXx7 : v7.cell? ⟨w.heap.size, 7, none⟩ = some (.string xf.bs) := Xx_7.out.cell 7
        have cXx8 : v7.cell? ⟨w.heap.size, 8, none⟩ = some (.int .i64 xf.bt) := Xx_7.out.cell 8
        have cXq0 : v7.cell? ⟨gq, 0, none⟩ = some (.int .i64 qf.k) := Xq_7.out.cell 0
        have cXq1 : v7.cell? ⟨gq, 1, none⟩ = some (.int .i64 qf.n) := Xq_7.out.cell 1
        have cXq2 : v7.cell? ⟨gq, 2, none⟩ = some (.int .i64 qf.g) := Xq_7.out.cell 2
        have cXq3 : v7.cell? ⟨gq, 3, none⟩ = some (.string qf.nm) := Xq_7.out.cell 3
        have cXq4 : v7.cell? ⟨gq, 4, none⟩ = some (.string qf.fn) := Xq_7.out.cell 4
        have cXq5 : v7.cell? ⟨gq, 5, none⟩ = some (.int .i64 qf.ar) := Xq_7.out.cell 5
        have cXq6 : v7.cell? ⟨gq, 6, none⟩ = some (.slice sq lq cq) := Xq_7.out.cell 6
        have cXq7 : v7.cell? ⟨gq, 7, none⟩ = some (.string qf.bs) := Xq_7.out.cell 7
        have cXq8 : v7.cell? ⟨gq, 8, none⟩ = some (.int .i64 qf.bt) := Xq_7.out.cell 8
        go_wp2_with fail
        clear cXx0 cXx1 cXx2 cXx3 cXx4 cXx5 cXx6 cXx7 cXx8 cXq0 cXq1 cXq2 cXq3 cXq4 cXq5 cXq6 cXq7 cXq8
        refine (CS.out).mono ?_
        rintro e v8 ⟨rfl, bb⟩
        have Tx_8 := Lib.hid (Tx_7.out.below bb (fun _ _ h => h))
        have Tq_8 := Lib.hid (Tq_7.out.below bb (fun _ _ h => h))
        have Tr_8 := Lib.hid (Tr_7.out.below bb (fun _ _ h => h))
        have Xx_8 := Lib.hid (Xx_7.out.below bb Xx_7.out.lt)
        have Xq_8 := Lib.hid (Xq_7.out.below bb Xq_7.out.lt)
        have Xr_8 := Lib.hid (Xr_7.out.below bb Xr_7.out.lt)
        have B_8 := Lib.hid (B_7.out.trans (bb.mono B_7.out.size))
        clear bb
        clear B_7 Tx_7 Tq_7 Tr_7 Xx_7 Xq_7 Xr_7
        clear CS
        rcases HU.out with ⟨h1, rfl⟩ | ⟨h1, rfl⟩
        · have hem := empty_yes h1
          clear h1 HU
          go_wp2_with fail
          refine (awake_any v8).mono ?_
          rintro e v9 ⟨rfl, bb⟩
          have Tx_9 := Lib.hid (Tx_8.out.below bb (fun _ _ h => h))
          have Tq_9 := Lib.hid (Tq_8.out.below bb (fun _ _ h => h))
          have Tr_9 := Lib.hid (Tr_8.out.below bb (fun _ _ h => h))
          have Xx_9 := Lib.hid (Xx_8.out.below bb Xx_8.out.lt)
          have Xq_9 := Lib.hid (Xq_8.out.below bb Xq_8.out.lt)
          have Xr_9 := Lib.hid (Xr_8.out.below bb Xr_8.out.lt)
          have B_9 := Lib.hid (B_8.out.trans (bb.mono B_8.out.size))
          clear bb
          clear B_8 Tx_8 Tq_8 Tr_8 Xx_8 Xq_8 Xr_8
          go_wp2_with fail
          go_ret
          exact ⟨rfl, B_9.out⟩
        · have hem := empty_no h1
          have hem2 : ¬ m.toList = [] := fun e => by rw [e] at hem; cases hem
          clear h1 HU
          go_wp2_with fail
          refine (awake_any v8).mono ?_
          rintro e v9 ⟨rfl, bb⟩
          have Tx_9 := Lib.hid (Tx_8.out.below bb (fun _ _ h => h))
          have Tq_9 := Lib.hid (Tq_8.out.below bb (fun _ _ h => h))
          have Tr_9 := Lib.hid (Tr_8.out.below bb (fun _ _ h => h))
          have Xx_9 := Lib.hid (Xx_8.out.below bb Xx_8.out.lt)
          have Xq_9 := Lib.hid (Xq_8.out.below bb Xq_8.out.lt)
          have Xr_9 := Lib.hid (Xr_8.out.below bb Xr_8.out.lt)
          have B_9 := Lib.hid (B_8.out.trans (bb.mono B_8.out.size))
          clear bb
          clear B_8 Tx_8 Tq_8 Tr_8 Xx_8 Xq_8 Xr_8
          go_wp2_with fail
          go_ret
          exact ⟨rfl, B_9.out⟩
end Go.Proofs.Ytcpdmlnodhokmaa
