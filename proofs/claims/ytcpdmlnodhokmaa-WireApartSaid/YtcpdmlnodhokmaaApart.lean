/- WireApart: the walk. -/
import Derived.Test.YtcpdmlnodhokmaaShort
namespace Go.Proofs.Ytcpdmlnodhokmaa
open Go.RowKit Go.Rt Go.Rw

set_option maxRecDepth 100000 in
set_option maxHeartbeats 2000000 in
theorem apart_walk (t u : Tm) (x y : Ft) (w : World) (hx : TmAt (fun b => b < w.heap.size) w t x) (hy : TmAt (fun b => b < w.heap.size) w u y) (hr : rngT t) (hs : rngT u) : Calls Try.prog 7 #[ftV x, ftV y] w fun e w' => e = .returned (.bool true) ∧ Below w.heap.size w w' := by
  obtain ⟨_, sx, cx, vx⟩ := hx.its.2.form
  obtain ⟨xf, xv⟩ := x
  dsimp only at vx
  subst vx
  obtain ⟨lx, hlx⟩ : ∃ l, l = t.l.length := ⟨_, rfl⟩
  rw [← hlx] at hx ⊢
  obtain ⟨_, sy, cy, vy⟩ := hy.its.2.form
  obtain ⟨yf, yv⟩ := y
  dsimp only at vy
  subst vy
  obtain ⟨ly, hly⟩ : ∃ l, l = u.l.length := ⟨_, rfl⟩
  rw [← hly] at hy ⊢
  clear hlx hly
  have bb0 := ((Below.refl w.heap.size w).alloc (Nat.le_refl _) (.cells #[.int .i64 xf.k, .int .i64 xf.n, .int .i64 xf.g, .string xf.nm, .string xf.fn, .int .i64 xf.ar, .slice sx lx cx, .string xf.bs, .int .i64 xf.bt] 25)).alloc (by simp) (.cells #[.int .i64 yf.k, .int .i64 yf.n, .int .i64 yf.g, .string yf.nm, .string yf.fn, .int .i64 yf.ar, .slice sy ly cy, .string yf.bs, .int .i64 yf.bt] 25)
  have Tx_0 := Lib.hid (hx.below bb0 (fun _ _ h => h))
  have Ty_0 := Lib.hid (hy.below bb0 (fun _ _ h => h))
  have Xx_0 := Lib.hid ((Blk.new w 25 #[.int .i64 xf.k, .int .i64 xf.n, .int .i64 xf.g, .string xf.nm, .string xf.fn, .int .i64 xf.ar, .slice sx lx cx, .string xf.bs, .int .i64 xf.bt]).alloc (.cells #[.int .i64 yf.k, .int .i64 yf.n, .int .i64 yf.g, .string yf.nm, .string yf.fn, .int .i64 yf.ar, .slice sy ly cy, .string yf.bs, .int .i64 yf.bt] 25))
  have xy0 := Blk.new (w.alloc (.cells #[.int .i64 xf.k, .int .i64 xf.n, .int .i64 xf.g, .string xf.nm, .string xf.fn, .int .i64 xf.ar, .slice sx lx cx, .string xf.bs, .int .i64 xf.bt] 25)) 25 #[.int .i64 yf.k, .int .i64 yf.n, .int .i64 yf.g, .string yf.nm, .string yf.fn, .int .i64 yf.ar, .slice sy ly cy, .string yf.bs, .int .i64 yf.bt]
  simp only [World.size_alloc] at xy0
  have Xy_0 := Lib.hid xy0
  have B_0 := Lib.hid bb0
  have HR := Lib.hid hr
  have HS := Lib.hid hs
  clear hx hy hr hs bb0 xy0
  unfold ftV
  go_enter Try.func7, Try.ntmps7
  go_upto_region 1 with fail
  generalize (w.alloc (.cells #[.int .i64 xf.k, .int .i64 xf.n, .int .i64 xf.g, .string xf.nm, .string xf.fn, .int .i64 xf.ar, .slice sx lx cx, .string xf.bs, .int .i64 xf.bt] 25)).alloc (.cells #[.int .i64 yf.k, .int .i64 yf.n, .int .i64 yf.g, .string yf.nm, .string yf.fn, .int .i64 yf.ar, .slice sy ly cy, .string yf.bs, .int .i64 yf.bt] 25) = v0 at Tx_0 Ty_0 Xx_0 Xy_0 B_0 ⊢
  have CG := Lib.hid (great_any t ⟨xf, .slice sx lx cx⟩ v0 Tx_0.out.old)
  unfold ftV at CG
  try dsimp only at CG
  go_wp2_with (first
    | (refine wpList_load_blk rfl 25 _ rfl (w.heap.size) rfl _ 25 _ Xx_0.out Try.underlying25 rfl info25 ?_)
    | (refine wpList_load_blk rfl 25 _ rfl (w.heap.size + 1) rfl _ 25 _ Xy_0.out Try.underlying25 rfl info25 ?_))
  refine (CG.out).mono ?_
  rintro e v1 ⟨g, rfl, hg, bb⟩
  have Tx_1 := Lib.hid (Tx_0.out.below bb (fun _ _ h => h))
  have Ty_1 := Lib.hid (Ty_0.out.below bb (fun _ _ h => h))
  have Xx_1 := Lib.hid (Xx_0.out.below bb Xx_0.out.lt)
  have Xy_1 := Lib.hid (Xy_0.out.below bb Xy_0.out.lt)
  have B_1 := Lib.hid (B_0.out.trans (bb.mono B_0.out.size))
  clear bb
  clear B_0 Tx_0 Ty_0 Xx_0 Xy_0
  clear CG
  cases g with
  | true =>
    clear hg
    go_wp2_with fail
    refine (awake_any v1).mono ?_
    rintro e v2 ⟨rfl, bb⟩
    have Tx_2 := Lib.hid (Tx_1.out.below bb (fun _ _ h => h))
    have Ty_2 := Lib.hid (Ty_1.out.below bb (fun _ _ h => h))
    have Xx_2 := Lib.hid (Xx_1.out.below bb Xx_1.out.lt)
    have Xy_2 := Lib.hid (Xy_1.out.below bb Xy_1.out.lt)
    have B_2 := Lib.hid (B_1.out.trans (bb.mono B_1.out.size))
    clear bb
    clear B_1 Tx_1 Ty_1 Xx_1 Xy_1
    go_wp2_with fail
    go_ret
    exact ⟨rfl, B_2.out⟩
  | false =>
    have HOK := Lib.hid (ok_of_great HR.out (hg rfl))
    clear hg HR
    have CG := Lib.hid (great_any u ⟨yf, .slice sy ly cy⟩ v1 Ty_1.out.old)
    unfold ftV at CG
    try dsimp only at CG
    have cXy0 : v1.cell? ⟨w.heap.size + 1, 0, none⟩ = some (.int .i64 yf.k) := Xy_1.out.cell 0
    have cXy1 : v1.cell? ⟨w.heap.size + 1, 1, none⟩ = some (.int .i64 yf.n) := Xy_1.out.cell 1
    have cXy2 : v1.cell? ⟨w.heap.size + 1, 2, none⟩ = some (.int .i64 yf.g) := Xy_1.out.cell 2
    have cXy3 : v1.cell? ⟨w.heap.size + 1, 3, none⟩ = some (.string yf.nm) := Xy_1.out.cell 3
    have cXy4 : v1.cell? ⟨w.heap.size + 1, 4, none⟩ = some (.string yf.fn) := Xy_1.out.cell 4
    have cXy5 : v1.cell? ⟨w.heap.size + 1, 5, none⟩ = some (.int .i64 yf.ar) := Xy_1.out.cell 5
    have cXy6 : v1.cell? ⟨w.heap.size + 1, 6, none⟩ = some (.slice sy ly cy) := Xy_1.out.cell 6
    have cXy7 : v1.cell? ⟨w.heap.size + 1, 7, none⟩ = some (.string yf.bs) := Xy_1.out.cell 7
    have cXy8 : v1.cell? ⟨w.heap.size + 1, 8, none⟩ = some (.int .i64 yf.bt) := Xy_1.out.cell 8
    go_wp2_with fail
    clear cXy0 cXy1 cXy2 cXy3 cXy4 cXy5 cXy6 cXy7 cXy8
    refine (CG.out).mono ?_
    rintro e v2 ⟨g, rfl, hg, bb⟩
    have Tx_2 := Lib.hid (Tx_1.out.below bb (fun _ _ h => h))
    have Ty_2 := Lib.hid (Ty_1.out.below bb (fun _ _ h => h))
    have Xx_2 := Lib.hid (Xx_1.out.below bb Xx_1.out.lt)
    have Xy_2 := Lib.hid (Xy_1.out.below bb Xy_1.out.lt)
    have B_2 := Lib.hid (B_1.out.trans (bb.mono B_1.out.size))
    clear bb
    clear B_1 Tx_1 Ty_1 Xx_1 Xy_1
    clear CG
    cases g with
    | true =>
      clear hg
      go_wp2_with fail
      refine (awake_any v2).mono ?_
      rintro e v3 ⟨rfl, bb⟩
      have Tx_3 := Lib.hid (Tx_2.out.below bb (fun _ _ h => h))
      have Ty_3 := Lib.hid (Ty_2.out.below bb (fun _ _ h => h))
      have Xx_3 := Lib.hid (Xx_2.out.below bb Xx_2.out.lt)
      have Xy_3 := Lib.hid (Xy_2.out.below bb Xy_2.out.lt)
      have B_3 := Lib.hid (B_2.out.trans (bb.mono B_2.out.size))
      clear bb
      clear B_2 Tx_2 Ty_2 Xx_2 Xy_2
      go_wp2_with fail
      go_ret
      exact ⟨rfl, B_3.out⟩
    | false =>
      have HOL := Lib.hid (ok_of_great HS.out (hg rfl))
      clear hg HS
      obtain ⟨V, hv⟩ : ∃ V, V = validB t := ⟨_, rfl⟩
      have CV := Lib.hid (rvalid_any _ t ⟨xf, .slice sx lx cx⟩ v2 Tx_2.out HOK.out.1 HOK.out.bulk)
      rw [← hv] at CV
      unfold ftV at CV
      try dsimp only at CV
      have HV := Lib.hid hv.symm
      clear hv
      have cXx0 : v2.cell? ⟨w.heap.size, 0, none⟩ = some (.int .i64 xf.k) := Xx_2.out.cell 0
      have cXx1 : v2.cell? ⟨w.heap.size, 1, none⟩ = some (.int .i64 xf.n) := Xx_2.out.cell 1
      have cXx2 : v2.cell? ⟨w.heap.size, 2, none⟩ = some (.int .i64 xf.g) := Xx_2.out.cell 2
      have cXx3 : v2.cell? ⟨w.heap.size, 3, none⟩ = some (.string xf.nm) := Xx_2.out.cell 3
      have cXx4 : v2.cell? ⟨w.heap.size, 4, none⟩ = some (.string xf.fn) := Xx_2.out.cell 4
      have cXx5 : v2.cell? ⟨w.heap.size, 5, none⟩ = some (.int .i64 xf.ar) := Xx_2.out.cell 5
      have cXx6 : v2.cell? ⟨w.heap.size, 6, none⟩ = some (.slice sx lx cx) := Xx_2.out.cell 6
      have cXx7 : v2.cell? ⟨w.heap.size, 7, none⟩ = some (.string xf.bs) := Xx_2.out.cell 7
      have cXx8 : v2.cell? ⟨w.heap.size, 8, none⟩ = some (.int .i64 xf.bt) := Xx_2.out.cell 8
      go_wp2_with fail
      clear cXx0 cXx1 cXx2 cXx3 cXx4 cXx5 cXx6 cXx7 cXx8
      refine (CV.out).mono ?_
      rintro e v3 ⟨rfl, bb⟩
      have Tx_3 := Lib.hid (Tx_2.out.below bb (fun _ _ h => h))
      have Ty_3 := Lib.hid (Ty_2.out.below bb (fun _ _ h => h))
      have Xx_3 := Lib.hid (Xx_2.out.below bb Xx_2.out.lt)
      have Xy_3 := Lib.hid (Xy_2.out.below bb Xy_2.out.lt)
      have B_3 := Lib.hid (B_2.out.trans (bb.mono B_2.out.size))
      clear bb
      clear B_2 Tx_2 Ty_2 Xx_2 Xy_2
      clear CV
      cases V with
      | false =>
        go_wp2_with fail
        refine (awake_any v3).mono ?_
        rintro e v4 ⟨rfl, bb⟩
        have Tx_4 := Lib.hid (Tx_3.out.below bb (fun _ _ h => h))
        have Ty_4 := Lib.hid (Ty_3.out.below bb (fun _ _ h => h))
        have Xx_4 := Lib.hid (Xx_3.out.below bb Xx_3.out.lt)
        have Xy_4 := Lib.hid (Xy_3.out.below bb Xy_3.out.lt)
        have B_4 := Lib.hid (B_3.out.trans (bb.mono B_3.out.size))
        clear bb
        clear B_3 Tx_3 Ty_3 Xx_3 Xy_3
        go_wp2_with fail
        go_ret
        exact ⟨rfl, B_4.out⟩
      | true =>
        obtain ⟨V, hv⟩ : ∃ V, V = validB u := ⟨_, rfl⟩
        have CV := Lib.hid (rvalid_any _ u ⟨yf, .slice sy ly cy⟩ v3 Ty_3.out HOL.out.1 HOL.out.bulk)
        rw [← hv] at CV
        unfold ftV at CV
        try dsimp only at CV
        have HW := Lib.hid hv.symm
        clear hv
        have cXy0 : v3.cell? ⟨w.heap.size + 1, 0, none⟩ = some (.int .i64 yf.k) := Xy_3.out.cell 0
        have cXy1 : v3.cell? ⟨w.heap.size + 1, 1, none⟩ = some (.int .i64 yf.n) := Xy_3.out.cell 1
        have cXy2 : v3.cell? ⟨w.heap.size + 1, 2, none⟩ = some (.int .i64 yf.g) := Xy_3.out.cell 2
        have cXy3 : v3.cell? ⟨w.heap.size + 1, 3, none⟩ = some (.string yf.nm) := Xy_3.out.cell 3
        have cXy4 : v3.cell? ⟨w.heap.size + 1, 4, none⟩ = some (.string yf.fn) := Xy_3.out.cell 4
        have cXy5 : v3.cell? ⟨w.heap.size + 1, 5, none⟩ = some (.int .i64 yf.ar) := Xy_3.out.cell 5
        have cXy6 : v3.cell? ⟨w.heap.size + 1, 6, none⟩ = some (.slice sy ly cy) := Xy_3.out.cell 6
        have cXy7 : v3.cell? ⟨w.heap.size + 1, 7, none⟩ = some (.string yf.bs) := Xy_3.out.cell 7
        have cXy8 : v3.cell? ⟨w.heap.size + 1, 8, none⟩ = some (.int .i64 yf.bt) := Xy_3.out.cell 8
        go_wp2_with fail
        clear cXy0 cXy1 cXy2 cXy3 cXy4 cXy5 cXy6 cXy7 cXy8
        refine (CV.out).mono ?_
        rintro e v4 ⟨rfl, bb⟩
        have Tx_4 := Lib.hid (Tx_3.out.below bb (fun _ _ h => h))
        have Ty_4 := Lib.hid (Ty_3.out.below bb (fun _ _ h => h))
        have Xx_4 := Lib.hid (Xx_3.out.below bb Xx_3.out.lt)
        have Xy_4 := Lib.hid (Xy_3.out.below bb Xy_3.out.lt)
        have B_4 := Lib.hid (B_3.out.trans (bb.mono B_3.out.size))
        clear bb
        clear B_3 Tx_3 Ty_3 Xx_3 Xy_3
        clear CV
        cases V with
        | false =>
          go_wp2_with fail
          refine (awake_any v4).mono ?_
          rintro e v5 ⟨rfl, bb⟩
          have Tx_5 := Lib.hid (Tx_4.out.below bb (fun _ _ h => h))
          have Ty_5 := Lib.hid (Ty_4.out.below bb (fun _ _ h => h))
          have Xx_5 := Lib.hid (Xx_4.out.below bb Xx_4.out.lt)
          have Xy_5 := Lib.hid (Xy_4.out.below bb Xy_4.out.lt)
          have B_5 := Lib.hid (B_4.out.trans (bb.mono B_4.out.size))
          clear bb
          clear B_4 Tx_4 Ty_4 Xx_4 Xy_4
          go_wp2_with fail
          go_ret
          exact ⟨rfl, B_5.out⟩
        | true =>
          have CP := Lib.hid (put_any t ⟨xf, .slice sx lx cx⟩ v4 Tx_4.out.old HOK.out)
          rw [putE_valid HV.out] at CP
          have CQ0 := Lib.hid (fun (W : World) (h : TmAt (fun b => b < W.heap.size) W u ⟨yf, .slice sy ly cy⟩) => put_any u _ W h HOL.out)
          rw [putE_valid HW.out] at CQ0
          obtain ⟨hp1, hp2⟩ := putS_short HV.out HOK.out.1
          have hp3 := putS_two HV.out
          obtain ⟨hq1, hq2⟩ := putS_short HW.out HOL.out.1
          have hq3 := putS_two HW.out
          have HAP := Lib.hid (apart HV.out HOK.out.1 HW.out HOL.out.1)
          unfold ftV at CP
          try dsimp only at CP
          obtain ⟨P, hP⟩ : ∃ P, P = putS t := ⟨_, rfl⟩
          rw [← hP] at hp2 hp3 HAP CP
          obtain ⟨R, hQ⟩ : ∃ R, R = putS u := ⟨_, rfl⟩
          rw [← hQ] at hq2 hq3 HAP CQ0
          clear hP hQ hp1 hq1
          go_wp2_with (first
            | (refine wpList_load_blk rfl 25 _ rfl (w.heap.size) rfl _ 25 _ Xx_4.out Try.underlying25 rfl info25 ?_)
            | (refine wpList_load_blk rfl 25 _ rfl (w.heap.size + 1) rfl _ 25 _ Xy_4.out Try.underlying25 rfl info25 ?_))
          refine (CP.out).mono ?_
          rintro e v5 ⟨rfl, bb⟩
          have Tx_5 := Lib.hid (Tx_4.out.below bb (fun _ _ h => h))
          have Ty_5 := Lib.hid (Ty_4.out.below bb (fun _ _ h => h))
          have Xx_5 := Lib.hid (Xx_4.out.below bb Xx_4.out.lt)
          have Xy_5 := Lib.hid (Xy_4.out.below bb Xy_4.out.lt)
          have B_5 := Lib.hid (B_4.out.trans (bb.mono B_4.out.size))
          clear bb
          clear B_4 Tx_4 Ty_4 Xx_4 Xy_4
          clear CP
          have CQ := Lib.hid (CQ0.out v5 Ty_5.out.old)
          unfold ftV at CQ
          try dsimp only at CQ
          clear CQ0
          go_wp2_with (first
            | (refine wpList_load_blk rfl 25 _ rfl (w.heap.size) rfl _ 25 _ Xx_5.out Try.underlying25 rfl info25 ?_)
            | (refine wpList_load_blk rfl 25 _ rfl (w.heap.size + 1) rfl _ 25 _ Xy_5.out Try.underlying25 rfl info25 ?_))
          refine (CQ.out).mono ?_
          rintro e v6 ⟨rfl, bb⟩
          have Tx_6 := Lib.hid (Tx_5.out.below bb (fun _ _ h => h))
          have Ty_6 := Lib.hid (Ty_5.out.below bb (fun _ _ h => h))
          have Xx_6 := Lib.hid (Xx_5.out.below bb Xx_5.out.lt)
          have Xy_6 := Lib.hid (Xy_5.out.below bb Xy_5.out.lt)
          have B_6 := Lib.hid (B_5.out.trans (bb.mono B_5.out.size))
          clear bb
          clear B_5 Tx_5 Ty_5 Xx_5 Xy_5
          clear CQ
          have d1 : decide ((P.size : Int) < 2) = false := decide_eq_false (by omega)
          have d2 : decide ((R.size : Int) < 2) = false := decide_eq_false (by omega)
          by_cases hlt : R.size < P.size
          · have hnp : R.size ≤ P.size := by omega
            have hnr : R.size ≤ R.size := by omega
            have HE : Hid (((P.extract 0 R.size).toList == (R.extract 0 R.size).toList) = eqT t u) := Lib.hid (by
              rw [← HAP.out R.size (by omega)]
              by_cases h : P.extract 0 R.size = R.extract 0 R.size
              · rw [decide_eq_true h, h]; exact beq_self_eq_true _
              · rw [decide_eq_false h, beq_eq_false_iff_ne]; exact fun e => h (bytes_ext e))
            clear HAP
            go_upto_region 8 with fail
            have hslP : ∀ W, (Instr.slice 9 (.string P) none (some (.int .i64 (R.size : Int))) none).run Try.prog W = .ok (.string (P.extract 0 R.size)) W := fun W => by rw [run_slice_string_to_if W 9 P .i64 R.size Try.underlying9, if_pos (by omega)]; rfl
            have hslR : ∀ W, (Instr.slice 9 (.string R) none (some (.int .i64 (R.size : Int))) none).run Try.prog W = .ok (.string (R.extract 0 R.size)) W := fun W => by rw [run_slice_string_to_if W 9 R .i64 R.size Try.underlying9, if_pos (by omega)]; rfl
            have CS := Lib.hid (fun (W : World) (hb : Below v6.heap.size v6 W) => same_any t u _ _ ⟨xf, .slice sx lx cx⟩ ⟨yf, .slice sy ly cy⟩ W (Tx_6.out.below hb (fun _ _ h => h)) (Ty_6.out.below hb (fun _ _ h => h)))
            unfold ftV at CS
            try dsimp only at CS
            obtain ⟨E, hE⟩ : ∃ E, E = eqT t u := ⟨_, rfl⟩
            rw [← hE] at HE CS
            have hAB := HE.out
            clear hE HE hp2 hp3 hq2 hq3 hnp hnr hlt d1 d2
            generalize P.extract 0 R.size = PA at hslP hAB
            generalize R.extract 0 R.size = RA at hslR hAB
            cases E with
            | false =>
              have HS0 : Hid (∀ W, Blk W w.heap.size 25 #[.int .i64 xf.k, .int .i64 xf.n, .int .i64 xf.g, .string xf.nm, .string xf.fn, .int .i64 xf.ar, .slice sx lx cx, .string xf.bs, .int .i64 xf.bt] → Blk W (w.heap.size + 1) 25 #[.int .i64 yf.k, .int .i64 yf.n, .int .i64 yf.g, .string yf.nm, .string yf.fn, .int .i64 yf.ar, .slice sy ly cy, .string yf.bs, .int .i64 yf.bt] → (W.cell? ⟨w.heap.size, 0, none⟩ = some (.int .i64 xf.k) ∧ W.cell? ⟨w.heap.size, 1, none⟩ = some (.int .i64 xf.n) ∧ W.cell? ⟨w.heap.size, 2, none⟩ = some (.int .i64 xf.g) ∧ W.cell? ⟨w.heap.size, 3, none⟩ = some (.string xf.nm) ∧ W.cell? ⟨w.heap.size, 4, none⟩ = some (.string xf.fn) ∧ W.cell? ⟨w.heap.size, 5, none⟩ = some (.int .i64 xf.ar) ∧ W.cell? ⟨w.heap.size, 6, none⟩ = some (.slice sx lx cx) ∧ W.cell? ⟨w.heap.size, 7, none⟩ = some (.string xf.bs) ∧ W.cell? ⟨w.heap.size, 8, none⟩ = some (.int .i64 xf.bt) ∧ W.cell? ⟨w.heap.size + 1, 0, none⟩ = some (.int .i64 yf.k) ∧ W.cell? ⟨w.heap.size + 1, 1, none⟩ = some (.int .i64 yf.n) ∧ W.cell? ⟨w.heap.size + 1, 2, none⟩ = some (.int .i64 yf.g) ∧ W.cell? ⟨w.heap.size + 1, 3, none⟩ = some (.string yf.nm) ∧ W.cell? ⟨w.heap.size + 1, 4, none⟩ = some (.string yf.fn) ∧ W.cell? ⟨w.heap.size + 1, 5, none⟩ = some (.int .i64 yf.ar) ∧ W.cell? ⟨w.heap.size + 1, 6, none⟩ = some (.slice sy ly cy) ∧ W.cell? ⟨w.heap.size + 1, 7, none⟩ = some (.string yf.bs) ∧ W.cell? ⟨w.heap.size + 1, 8, none⟩ = some (.int .i64 yf.bt))) := Lib.hid (fun W h g => ⟨h.cell 0, h.cell 1, h.cell 2, h.cell 3, h.cell 4, h.cell 5, h.cell 6, h.cell 7, h.cell 8, g.cell 0, g.cell 1, g.cell 2, g.cell 3, g.cell 4, g.cell 5, g.cell 6, g.cell 7, g.cell 8⟩)
              refine wp_region_held_drew (S := (fun w' => w'.cell? ⟨w.heap.size, 0, none⟩ = some (.int .i64 xf.k) ∧ w'.cell? ⟨w.heap.size, 1, none⟩ = some (.int .i64 xf.n) ∧ w'.cell? ⟨w.heap.size, 2, none⟩ = some (.int .i64 xf.g) ∧ w'.cell? ⟨w.heap.size, 3, none⟩ = some (.string xf.nm) ∧ w'.cell? ⟨w.heap.size, 4, none⟩ = some (.string xf.fn) ∧ w'.cell? ⟨w.heap.size, 5, none⟩ = some (.int .i64 xf.ar) ∧ w'.cell? ⟨w.heap.size, 6, none⟩ = some (.slice sx lx cx) ∧ w'.cell? ⟨w.heap.size, 7, none⟩ = some (.string xf.bs) ∧ w'.cell? ⟨w.heap.size, 8, none⟩ = some (.int .i64 xf.bt) ∧ w'.cell? ⟨w.heap.size + 1, 0, none⟩ = some (.int .i64 yf.k) ∧ w'.cell? ⟨w.heap.size + 1, 1, none⟩ = some (.int .i64 yf.n) ∧ w'.cell? ⟨w.heap.size + 1, 2, none⟩ = some (.int .i64 yf.g) ∧ w'.cell? ⟨w.heap.size + 1, 3, none⟩ = some (.string yf.nm) ∧ w'.cell? ⟨w.heap.size + 1, 4, none⟩ = some (.string yf.fn) ∧ w'.cell? ⟨w.heap.size + 1, 5, none⟩ = some (.int .i64 yf.ar) ∧ w'.cell? ⟨w.heap.size + 1, 6, none⟩ = some (.slice sy ly cy) ∧ w'.cell? ⟨w.heap.size + 1, 7, none⟩ = some (.string yf.bs) ∧ w'.cell? ⟨w.heap.size + 1, 8, none⟩ = some (.int .i64 yf.bt))) (by kernel_rfl) (HS0.out _ Xx_6.out.drew Xy_6.out.drew) (fun hS => ?_)
              refine wpAnyH_take (i := 0) (v := ?_) rfl (by kernel_rfl) (by kernel_rfl) (by kernel_rfl) (fun _ _ _ h => h) (Or.inl ⟨by rfl, ?_⟩) (by assumption) ?_
              rotate_left
              · intro w hSw
                go_simp
                with_reducible rfl
              change wpAnyH _ _ _ _ _ _ _ (Act.put _ (some 48) _) _
              simp only [Act.put, List.setIfInBounds_toArray, List.set_cons_zero, List.set_cons_succ]
              refine wpAnyH_take (i := 1) (v := ?_) rfl (by kernel_rfl) (by kernel_rfl) (by kernel_rfl) (fun _ _ _ h => h) (Or.inl ⟨by rfl, ?_⟩) (by assumption) ?_
              rotate_left
              · intro w hSw
                go_simp
                with_reducible rfl
              change wpAnyH _ _ _ _ _ _ _ (Act.put _ (some 49) _) _
              simp only [Act.put, List.setIfInBounds_toArray, List.set_cons_zero, List.set_cons_succ]
              refine wpAnyH_take (i := 2) (v := ?_) rfl (by kernel_rfl) (by kernel_rfl) (by kernel_rfl) (fun _ _ _ h => h) (Or.inl ⟨by rfl, ?_⟩) (by assumption) ?_
              rotate_left
              · intro w hSw
                go_simp
                with_reducible rfl
              change wpAnyH _ _ _ _ _ _ _ (Act.put _ (some 50) _) _
              simp only [Act.put, List.setIfInBounds_toArray, List.set_cons_zero, List.set_cons_succ]
              refine wpAnyH_take (i := 3) (v := ?_) rfl (by kernel_rfl) (by kernel_rfl) (by kernel_rfl) (fun _ _ _ h => h) (Or.inl ⟨by rfl, ?_⟩) (by assumption) ?_
              rotate_left
              · intro w hSw
                go_simp
                with_reducible rfl
              change wpAnyH _ _ _ _ _ _ _ (Act.put _ (some 51) _) _
              simp only [Act.put, List.setIfInBounds_toArray, List.set_cons_zero, List.set_cons_succ]
              refine wpAnyH_take (i := 4) (v := ?_) rfl (by kernel_rfl) (by kernel_rfl) (by kernel_rfl) (fun _ _ _ h => h) (Or.inl ⟨by rfl, ?_⟩) (by assumption) ?_
              rotate_left
              · intro w hSw
                go_simp
                with_reducible rfl
              change wpAnyH _ _ _ _ _ _ _ (Act.put _ (some 52) _) _
              simp only [Act.put, List.setIfInBounds_toArray, List.set_cons_zero, List.set_cons_succ]
              refine wpAnyH_take (i := 5) (v := ?_) rfl (by kernel_rfl) (by kernel_rfl) (by kernel_rfl) (fun _ _ _ h => h) (Or.inl ⟨by rfl, ?_⟩) (by assumption) ?_
              rotate_left
              · intro w hSw
                go_simp
                with_reducible rfl
              change wpAnyH _ _ _ _ _ _ _ (Act.put _ (some 53) _) _
              simp only [Act.put, List.setIfInBounds_toArray, List.set_cons_zero, List.set_cons_succ]
              refine wpAnyH_take (i := 6) (v := ?_) rfl (by kernel_rfl) (by kernel_rfl) (by kernel_rfl) (fun _ _ _ h => h) (Or.inl ⟨by rfl, ?_⟩) (by assumption) ?_
              rotate_left
              · intro w hSw
                go_simp
                with_reducible rfl
              change wpAnyH _ _ _ _ _ _ _ (Act.put _ (some 54) _) _
              simp only [Act.put, List.setIfInBounds_toArray, List.set_cons_zero, List.set_cons_succ]
              refine wpAnyH_take (i := 7) (v := ?_) rfl (by kernel_rfl) (by kernel_rfl) (by kernel_rfl) (fun _ _ _ h => h) (Or.inl ⟨by rfl, ?_⟩) (by assumption) ?_
              rotate_left
              · intro w hSw
                go_simp
                with_reducible rfl
              change wpAnyH _ _ _ _ _ _ _ (Act.put _ (some 55) _) _
              simp only [Act.put, List.setIfInBounds_toArray, List.set_cons_zero, List.set_cons_succ]
              refine wpAnyH_take (i := 8) (v := ?_) rfl (by kernel_rfl) (by kernel_rfl) (by kernel_rfl) (fun _ _ _ h => h) (Or.inl ⟨by rfl, ?_⟩) (by assumption) ?_
              rotate_left
              · intro w hSw
                go_simp
                with_reducible rfl
              change wpAnyH _ _ _ _ _ _ _ (Act.put _ (some 56) _) _
              simp only [Act.put, List.setIfInBounds_toArray, List.set_cons_zero, List.set_cons_succ]
              refine wpAnyH_ready (rs := [9]) (by kernel_rfl) (by simp) ?_
              refine AllReadyH.cons rfl (fun K hK => ?_) AllReadyH.nil
              go_simp
              refine (CS.out _ ((Below.refl _ _).drew)).mono ?_
              rintro e v7 ⟨rfl, b7⟩
              have q7 := ((Below.refl v6.heap.size v6).drew).trans b7
              have Xx_7 := Lib.hid (Xx_6.out.below q7 Xx_6.out.lt)
              have Xy_7 := Lib.hid (Xy_6.out.below q7 Xy_6.out.lt)
              have B_7 := Lib.hid (B_6.out.trans (q7.mono B_6.out.size))
              clear b7 q7 CS
              go_wp2_with fail
              refine hK.out _ _ (HS0.out _ Xx_7.out Xy_7.out) (fun hS => ?_)
              clear hK K
              try simp only [Act.put, List.setIfInBounds_toArray, List.set_cons_zero, List.set_cons_succ]
              refine wpAnyH_take (i := 10) (v := ?_) rfl (by kernel_rfl) (by kernel_rfl) (by kernel_rfl) (fun _ _ _ h => h) (Or.inl ⟨by rfl, ?_⟩) (by assumption) ?_
              rotate_left
              · intro w hSw
                go_simp
                with_reducible rfl
              change wpAnyH _ _ _ _ _ _ _ (Act.put _ (some 58) _) _
              simp only [Act.put, List.setIfInBounds_toArray, List.set_cons_zero, List.set_cons_succ]
              refine wpAnyH_take (i := 11) (v := ?_) rfl (by kernel_rfl) (by kernel_rfl) (by kernel_rfl) (fun _ _ _ h => h) (Or.inl ⟨by rfl, ?_⟩) (by assumption) ?_
              rotate_left
              · intro w hSw
                go_simp
                with_reducible rfl
              change wpAnyH _ _ _ _ _ _ _ (Act.put _ (some 59) _) _
              simp only [Act.put, List.setIfInBounds_toArray, List.set_cons_zero, List.set_cons_succ]
              refine wpAnyH_ready (rs := [12]) (by kernel_rfl) (by simp) ?_
              refine AllReadyH.cons rfl (fun K hK => ?_) AllReadyH.nil
              go_simp
              refine (awake_any _).mono ?_
              rintro e v8 ⟨rfl, b8⟩
              have Xx_8 := Lib.hid (Xx_7.out.below b8 Xx_7.out.lt)
              have Xy_8 := Lib.hid (Xy_7.out.below b8 Xy_7.out.lt)
              have B_8 := Lib.hid (B_7.out.trans (b8.mono B_7.out.size))
              clear b8
              go_wp2_with fail
              refine hK.out _ _ (HS0.out _ Xx_8.out Xy_8.out) (fun hS => ?_)
              clear hK K
              try simp only [Act.put, List.setIfInBounds_toArray, List.set_cons_zero, List.set_cons_succ]
              refine wpAnyH_take (i := 13) (v := ?_) rfl (by kernel_rfl) (by kernel_rfl) (by kernel_rfl) (fun _ _ _ h => h) (Or.inl ⟨by rfl, ?_⟩) (by assumption) ?_
              rotate_left
              · intro w hSw
                go_simp
                with_reducible rfl
              change wpAnyH _ _ _ _ _ _ _ (Act.put _ (some 61) _) _
              simp only [Act.put, List.setIfInBounds_toArray, List.set_cons_zero, List.set_cons_succ]
              refine wpAnyH_take (i := 14) (v := ?_) rfl (by kernel_rfl) (by kernel_rfl) (by kernel_rfl) (fun _ _ _ h => h) (Or.inl ⟨by rfl, ?_⟩) (by assumption) ?_
              rotate_left
              · intro w hSw
                go_simp
                with_reducible rfl
              change wpAnyH _ _ _ _ _ _ _ (Act.put _ (some 4) _) _
              simp only [Act.put, List.setIfInBounds_toArray, List.set_cons_zero, List.set_cons_succ]
              refine wpAnyH_done (by kernel_rfl) ?_ _
              go_wp2_with fail
              go_ret
              exact ⟨rfl, B_8.out⟩
            | true =>
              have HS0 : Hid (∀ W, Blk W w.heap.size 25 #[.int .i64 xf.k, .int .i64 xf.n, .int .i64 xf.g, .string xf.nm, .string xf.fn, .int .i64 xf.ar, .slice sx lx cx, .string xf.bs, .int .i64 xf.bt] → Blk W (w.heap.size + 1) 25 #[.int .i64 yf.k, .int .i64 yf.n, .int .i64 yf.g, .string yf.nm, .string yf.fn, .int .i64 yf.ar, .slice sy ly cy, .string yf.bs, .int .i64 yf.bt] → (W.cell? ⟨w.heap.size, 0, none⟩ = some (.int .i64 xf.k) ∧ W.cell? ⟨w.heap.size, 1, none⟩ = some (.int .i64 xf.n) ∧ W.cell? ⟨w.heap.size, 2, none⟩ = some (.int .i64 xf.g) ∧ W.cell? ⟨w.heap.size, 3, none⟩ = some (.string xf.nm) ∧ W.cell? ⟨w.heap.size, 4, none⟩ = some (.string xf.fn) ∧ W.cell? ⟨w.heap.size, 5, none⟩ = some (.int .i64 xf.ar) ∧ W.cell? ⟨w.heap.size, 6, none⟩ = some (.slice sx lx cx) ∧ W.cell? ⟨w.heap.size, 7, none⟩ = some (.string xf.bs) ∧ W.cell? ⟨w.heap.size, 8, none⟩ = some (.int .i64 xf.bt) ∧ W.cell? ⟨w.heap.size + 1, 0, none⟩ = some (.int .i64 yf.k) ∧ W.cell? ⟨w.heap.size + 1, 1, none⟩ = some (.int .i64 yf.n) ∧ W.cell? ⟨w.heap.size + 1, 2, none⟩ = some (.int .i64 yf.g) ∧ W.cell? ⟨w.heap.size + 1, 3, none⟩ = some (.string yf.nm) ∧ W.cell? ⟨w.heap.size + 1, 4, none⟩ = some (.string yf.fn) ∧ W.cell? ⟨w.heap.size + 1, 5, none⟩ = some (.int .i64 yf.ar) ∧ W.cell? ⟨w.heap.size + 1, 6, none⟩ = some (.slice sy ly cy) ∧ W.cell? ⟨w.heap.size + 1, 7, none⟩ = some (.string yf.bs) ∧ W.cell? ⟨w.heap.size + 1, 8, none⟩ = some (.int .i64 yf.bt))) := Lib.hid (fun W h g => ⟨h.cell 0, h.cell 1, h.cell 2, h.cell 3, h.cell 4, h.cell 5, h.cell 6, h.cell 7, h.cell 8, g.cell 0, g.cell 1, g.cell 2, g.cell 3, g.cell 4, g.cell 5, g.cell 6, g.cell 7, g.cell 8⟩)
              refine wp_region_held_drew (S := (fun w' => w'.cell? ⟨w.heap.size, 0, none⟩ = some (.int .i64 xf.k) ∧ w'.cell? ⟨w.heap.size, 1, none⟩ = some (.int .i64 xf.n) ∧ w'.cell? ⟨w.heap.size, 2, none⟩ = some (.int .i64 xf.g) ∧ w'.cell? ⟨w.heap.size, 3, none⟩ = some (.string xf.nm) ∧ w'.cell? ⟨w.heap.size, 4, none⟩ = some (.string xf.fn) ∧ w'.cell? ⟨w.heap.size, 5, none⟩ = some (.int .i64 xf.ar) ∧ w'.cell? ⟨w.heap.size, 6, none⟩ = some (.slice sx lx cx) ∧ w'.cell? ⟨w.heap.size, 7, none⟩ = some (.string xf.bs) ∧ w'.cell? ⟨w.heap.size, 8, none⟩ = some (.int .i64 xf.bt) ∧ w'.cell? ⟨w.heap.size + 1, 0, none⟩ = some (.int .i64 yf.k) ∧ w'.cell? ⟨w.heap.size + 1, 1, none⟩ = some (.int .i64 yf.n) ∧ w'.cell? ⟨w.heap.size + 1, 2, none⟩ = some (.int .i64 yf.g) ∧ w'.cell? ⟨w.heap.size + 1, 3, none⟩ = some (.string yf.nm) ∧ w'.cell? ⟨w.heap.size + 1, 4, none⟩ = some (.string yf.fn) ∧ w'.cell? ⟨w.heap.size + 1, 5, none⟩ = some (.int .i64 yf.ar) ∧ w'.cell? ⟨w.heap.size + 1, 6, none⟩ = some (.slice sy ly cy) ∧ w'.cell? ⟨w.heap.size + 1, 7, none⟩ = some (.string yf.bs) ∧ w'.cell? ⟨w.heap.size + 1, 8, none⟩ = some (.int .i64 yf.bt))) (by kernel_rfl) (HS0.out _ Xx_6.out.drew Xy_6.out.drew) (fun hS => ?_)
              refine wpAnyH_take (i := 0) (v := ?_) rfl (by kernel_rfl) (by kernel_rfl) (by kernel_rfl) (fun _ _ _ h => h) (Or.inl ⟨by rfl, ?_⟩) (by assumption) ?_
              rotate_left
              · intro w hSw
                go_simp
                with_reducible rfl
              change wpAnyH _ _ _ _ _ _ _ (Act.put _ (some 48) _) _
              simp only [Act.put, List.setIfInBounds_toArray, List.set_cons_zero, List.set_cons_succ]
              refine wpAnyH_take (i := 1) (v := ?_) rfl (by kernel_rfl) (by kernel_rfl) (by kernel_rfl) (fun _ _ _ h => h) (Or.inl ⟨by rfl, ?_⟩) (by assumption) ?_
              rotate_left
              · intro w hSw
                go_simp
                with_reducible rfl
              change wpAnyH _ _ _ _ _ _ _ (Act.put _ (some 49) _) _
              simp only [Act.put, List.setIfInBounds_toArray, List.set_cons_zero, List.set_cons_succ]
              refine wpAnyH_take (i := 2) (v := ?_) rfl (by kernel_rfl) (by kernel_rfl) (by kernel_rfl) (fun _ _ _ h => h) (Or.inl ⟨by rfl, ?_⟩) (by assumption) ?_
              rotate_left
              · intro w hSw
                go_simp
                with_reducible rfl
              change wpAnyH _ _ _ _ _ _ _ (Act.put _ (some 50) _) _
              simp only [Act.put, List.setIfInBounds_toArray, List.set_cons_zero, List.set_cons_succ]
              refine wpAnyH_take (i := 3) (v := ?_) rfl (by kernel_rfl) (by kernel_rfl) (by kernel_rfl) (fun _ _ _ h => h) (Or.inl ⟨by rfl, ?_⟩) (by assumption) ?_
              rotate_left
              · intro w hSw
                go_simp
                with_reducible rfl
              change wpAnyH _ _ _ _ _ _ _ (Act.put _ (some 51) _) _
              simp only [Act.put, List.setIfInBounds_toArray, List.set_cons_zero, List.set_cons_succ]
              refine wpAnyH_take (i := 4) (v := ?_) rfl (by kernel_rfl) (by kernel_rfl) (by kernel_rfl) (fun _ _ _ h => h) (Or.inl ⟨by rfl, ?_⟩) (by assumption) ?_
              rotate_left
              · intro w hSw
                go_simp
                with_reducible rfl
              change wpAnyH _ _ _ _ _ _ _ (Act.put _ (some 52) _) _
              simp only [Act.put, List.setIfInBounds_toArray, List.set_cons_zero, List.set_cons_succ]
              refine wpAnyH_take (i := 5) (v := ?_) rfl (by kernel_rfl) (by kernel_rfl) (by kernel_rfl) (fun _ _ _ h => h) (Or.inl ⟨by rfl, ?_⟩) (by assumption) ?_
              rotate_left
              · intro w hSw
                go_simp
                with_reducible rfl
              change wpAnyH _ _ _ _ _ _ _ (Act.put _ (some 53) _) _
              simp only [Act.put, List.setIfInBounds_toArray, List.set_cons_zero, List.set_cons_succ]
              refine wpAnyH_take (i := 6) (v := ?_) rfl (by kernel_rfl) (by kernel_rfl) (by kernel_rfl) (fun _ _ _ h => h) (Or.inl ⟨by rfl, ?_⟩) (by assumption) ?_
              rotate_left
              · intro w hSw
                go_simp
                with_reducible rfl
              change wpAnyH _ _ _ _ _ _ _ (Act.put _ (some 54) _) _
              simp only [Act.put, List.setIfInBounds_toArray, List.set_cons_zero, List.set_cons_succ]
              refine wpAnyH_take (i := 7) (v := ?_) rfl (by kernel_rfl) (by kernel_rfl) (by kernel_rfl) (fun _ _ _ h => h) (Or.inl ⟨by rfl, ?_⟩) (by assumption) ?_
              rotate_left
              · intro w hSw
                go_simp
                with_reducible rfl
              change wpAnyH _ _ _ _ _ _ _ (Act.put _ (some 55) _) _
              simp only [Act.put, List.setIfInBounds_toArray, List.set_cons_zero, List.set_cons_succ]
              refine wpAnyH_take (i := 8) (v := ?_) rfl (by kernel_rfl) (by kernel_rfl) (by kernel_rfl) (fun _ _ _ h => h) (Or.inl ⟨by rfl, ?_⟩) (by assumption) ?_
              rotate_left
              · intro w hSw
                go_simp
                with_reducible rfl
              change wpAnyH _ _ _ _ _ _ _ (Act.put _ (some 56) _) _
              simp only [Act.put, List.setIfInBounds_toArray, List.set_cons_zero, List.set_cons_succ]
              refine wpAnyH_ready (rs := [9]) (by kernel_rfl) (by simp) ?_
              refine AllReadyH.cons rfl (fun K hK => ?_) AllReadyH.nil
              go_simp
              refine (CS.out _ ((Below.refl _ _).drew)).mono ?_
              rintro e v7 ⟨rfl, b7⟩
              have q7 := ((Below.refl v6.heap.size v6).drew).trans b7
              have Xx_7 := Lib.hid (Xx_6.out.below q7 Xx_6.out.lt)
              have Xy_7 := Lib.hid (Xy_6.out.below q7 Xy_6.out.lt)
              have B_7 := Lib.hid (B_6.out.trans (q7.mono B_6.out.size))
              clear b7 q7 CS
              go_wp2_with fail
              refine hK.out _ _ (HS0.out _ Xx_7.out Xy_7.out) (fun hS => ?_)
              clear hK K
              try simp only [Act.put, List.setIfInBounds_toArray, List.set_cons_zero, List.set_cons_succ]
              refine wpAnyH_take (i := 10) (v := ?_) rfl (by kernel_rfl) (by kernel_rfl) (by kernel_rfl) (fun _ _ _ h => h) (Or.inl ⟨by rfl, ?_⟩) (by assumption) ?_
              rotate_left
              · intro w hSw
                go_simp
                with_reducible rfl
              change wpAnyH _ _ _ _ _ _ _ (Act.put _ (some 58) _) _
              simp only [Act.put, List.setIfInBounds_toArray, List.set_cons_zero, List.set_cons_succ]
              refine wpAnyH_take (i := 11) (v := ?_) rfl (by kernel_rfl) (by kernel_rfl) (by kernel_rfl) (fun _ _ _ h => h) (Or.inl ⟨by rfl, ?_⟩) (by assumption) ?_
              rotate_left
              · intro w hSw
                go_simp
                with_reducible rfl
              change wpAnyH _ _ _ _ _ _ _ (Act.put _ (some 59) _) _
              simp only [Act.put, List.setIfInBounds_toArray, List.set_cons_zero, List.set_cons_succ]
              refine wpAnyH_ready (rs := [12]) (by kernel_rfl) (by simp) ?_
              refine AllReadyH.cons rfl (fun K hK => ?_) AllReadyH.nil
              go_simp
              refine (awake_any _).mono ?_
              rintro e v8 ⟨rfl, b8⟩
              have Xx_8 := Lib.hid (Xx_7.out.below b8 Xx_7.out.lt)
              have Xy_8 := Lib.hid (Xy_7.out.below b8 Xy_7.out.lt)
              have B_8 := Lib.hid (B_7.out.trans (b8.mono B_7.out.size))
              clear b8
              go_wp2_with fail
              refine hK.out _ _ (HS0.out _ Xx_8.out Xy_8.out) (fun hS => ?_)
              clear hK K
              try simp only [Act.put, List.setIfInBounds_toArray, List.set_cons_zero, List.set_cons_succ]
              refine wpAnyH_take (i := 13) (v := ?_) rfl (by kernel_rfl) (by kernel_rfl) (by kernel_rfl) (fun _ _ _ h => h) (Or.inl ⟨by rfl, ?_⟩) (by assumption) ?_
              rotate_left
              · intro w hSw
                go_simp
                with_reducible rfl
              change wpAnyH _ _ _ _ _ _ _ (Act.put _ (some 61) _) _
              simp only [Act.put, List.setIfInBounds_toArray, List.set_cons_zero, List.set_cons_succ]
              refine wpAnyH_take (i := 14) (v := ?_) rfl (by kernel_rfl) (by kernel_rfl) (by kernel_rfl) (fun _ _ _ h => h) (Or.inl ⟨by rfl, ?_⟩) (by assumption) ?_
              rotate_left
              · intro w hSw
                go_simp
                with_reducible rfl
              change wpAnyH _ _ _ _ _ _ _ (Act.put _ (some 4) _) _
              simp only [Act.put, List.setIfInBounds_toArray, List.set_cons_zero, List.set_cons_succ]
              refine wpAnyH_done (by kernel_rfl) ?_ _
              go_wp2_with fail
              go_ret
              exact ⟨rfl, B_8.out⟩
          · have hnp : P.size ≤ P.size := by omega
            have hnr : P.size ≤ R.size := by omega
            have HE : Hid (((P.extract 0 P.size).toList == (R.extract 0 P.size).toList) = eqT t u) := Lib.hid (by
              rw [← HAP.out P.size (by omega)]
              by_cases h : P.extract 0 P.size = R.extract 0 P.size
              · rw [decide_eq_true h, h]; exact beq_self_eq_true _
              · rw [decide_eq_false h, beq_eq_false_iff_ne]; exact fun e => h (bytes_ext e))
            clear HAP
            go_upto_region 8 with fail
            have hslP : ∀ W, (Instr.slice 9 (.string P) none (some (.int .i64 (P.size : Int))) none).run Try.prog W = .ok (.string (P.extract 0 P.size)) W := fun W => by rw [run_slice_string_to_if W 9 P .i64 P.size Try.underlying9, if_pos (by omega)]; rfl
            have hslR : ∀ W, (Instr.slice 9 (.string R) none (some (.int .i64 (P.size : Int))) none).run Try.prog W = .ok (.string (R.extract 0 P.size)) W := fun W => by rw [run_slice_string_to_if W 9 R .i64 P.size Try.underlying9, if_pos (by omega)]; rfl
            have CS := Lib.hid (fun (W : World) (hb : Below v6.heap.size v6 W) => same_any t u _ _ ⟨xf, .slice sx lx cx⟩ ⟨yf, .slice sy ly cy⟩ W (Tx_6.out.below hb (fun _ _ h => h)) (Ty_6.out.below hb (fun _ _ h => h)))
            unfold ftV at CS
            try dsimp only at CS
            obtain ⟨E, hE⟩ : ∃ E, E = eqT t u := ⟨_, rfl⟩
            rw [← hE] at HE CS
            have hAB := HE.out
            clear hE HE hp2 hp3 hq2 hq3 hnp hnr hlt d1 d2
            generalize P.extract 0 P.size = PA at hslP hAB
            generalize R.extract 0 P.size = RA at hslR hAB
            cases E with
            | false =>
              have HS0 : Hid (∀ W, Blk W w.heap.size 25 #[.int .i64 xf.k, .int .i64 xf.n, .int .i64 xf.g, .string xf.nm, .string xf.fn, .int .i64 xf.ar, .slice sx lx cx, .string xf.bs, .int .i64 xf.bt] → Blk W (w.heap.size + 1) 25 #[.int .i64 yf.k, .int .i64 yf.n, .int .i64 yf.g, .string yf.nm, .string yf.fn, .int .i64 yf.ar, .slice sy ly cy, .string yf.bs, .int .i64 yf.bt] → (W.cell? ⟨w.heap.size, 0, none⟩ = some (.int .i64 xf.k) ∧ W.cell? ⟨w.heap.size, 1, none⟩ = some (.int .i64 xf.n) ∧ W.cell? ⟨w.heap.size, 2, none⟩ = some (.int .i64 xf.g) ∧ W.cell? ⟨w.heap.size, 3, none⟩ = some (.string xf.nm) ∧ W.cell? ⟨w.heap.size, 4, none⟩ = some (.string xf.fn) ∧ W.cell? ⟨w.heap.size, 5, none⟩ = some (.int .i64 xf.ar) ∧ W.cell? ⟨w.heap.size, 6, none⟩ = some (.slice sx lx cx) ∧ W.cell? ⟨w.heap.size, 7, none⟩ = some (.string xf.bs) ∧ W.cell? ⟨w.heap.size, 8, none⟩ = some (.int .i64 xf.bt) ∧ W.cell? ⟨w.heap.size + 1, 0, none⟩ = some (.int .i64 yf.k) ∧ W.cell? ⟨w.heap.size + 1, 1, none⟩ = some (.int .i64 yf.n) ∧ W.cell? ⟨w.heap.size + 1, 2, none⟩ = some (.int .i64 yf.g) ∧ W.cell? ⟨w.heap.size + 1, 3, none⟩ = some (.string yf.nm) ∧ W.cell? ⟨w.heap.size + 1, 4, none⟩ = some (.string yf.fn) ∧ W.cell? ⟨w.heap.size + 1, 5, none⟩ = some (.int .i64 yf.ar) ∧ W.cell? ⟨w.heap.size + 1, 6, none⟩ = some (.slice sy ly cy) ∧ W.cell? ⟨w.heap.size + 1, 7, none⟩ = some (.string yf.bs) ∧ W.cell? ⟨w.heap.size + 1, 8, none⟩ = some (.int .i64 yf.bt))) := Lib.hid (fun W h g => ⟨h.cell 0, h.cell 1, h.cell 2, h.cell 3, h.cell 4, h.cell 5, h.cell 6, h.cell 7, h.cell 8, g.cell 0, g.cell 1, g.cell 2, g.cell 3, g.cell 4, g.cell 5, g.cell 6, g.cell 7, g.cell 8⟩)
              refine wp_region_held_drew (S := (fun w' => w'.cell? ⟨w.heap.size, 0, none⟩ = some (.int .i64 xf.k) ∧ w'.cell? ⟨w.heap.size, 1, none⟩ = some (.int .i64 xf.n) ∧ w'.cell? ⟨w.heap.size, 2, none⟩ = some (.int .i64 xf.g) ∧ w'.cell? ⟨w.heap.size, 3, none⟩ = some (.string xf.nm) ∧ w'.cell? ⟨w.heap.size, 4, none⟩ = some (.string xf.fn) ∧ w'.cell? ⟨w.heap.size, 5, none⟩ = some (.int .i64 xf.ar) ∧ w'.cell? ⟨w.heap.size, 6, none⟩ = some (.slice sx lx cx) ∧ w'.cell? ⟨w.heap.size, 7, none⟩ = some (.string xf.bs) ∧ w'.cell? ⟨w.heap.size, 8, none⟩ = some (.int .i64 xf.bt) ∧ w'.cell? ⟨w.heap.size + 1, 0, none⟩ = some (.int .i64 yf.k) ∧ w'.cell? ⟨w.heap.size + 1, 1, none⟩ = some (.int .i64 yf.n) ∧ w'.cell? ⟨w.heap.size + 1, 2, none⟩ = some (.int .i64 yf.g) ∧ w'.cell? ⟨w.heap.size + 1, 3, none⟩ = some (.string yf.nm) ∧ w'.cell? ⟨w.heap.size + 1, 4, none⟩ = some (.string yf.fn) ∧ w'.cell? ⟨w.heap.size + 1, 5, none⟩ = some (.int .i64 yf.ar) ∧ w'.cell? ⟨w.heap.size + 1, 6, none⟩ = some (.slice sy ly cy) ∧ w'.cell? ⟨w.heap.size + 1, 7, none⟩ = some (.string yf.bs) ∧ w'.cell? ⟨w.heap.size + 1, 8, none⟩ = some (.int .i64 yf.bt))) (by kernel_rfl) (HS0.out _ Xx_6.out.drew Xy_6.out.drew) (fun hS => ?_)
              refine wpAnyH_take (i := 0) (v := ?_) rfl (by kernel_rfl) (by kernel_rfl) (by kernel_rfl) (fun _ _ _ h => h) (Or.inl ⟨by rfl, ?_⟩) (by assumption) ?_
              rotate_left
              · intro w hSw
                go_simp
                with_reducible rfl
              change wpAnyH _ _ _ _ _ _ _ (Act.put _ (some 48) _) _
              simp only [Act.put, List.setIfInBounds_toArray, List.set_cons_zero, List.set_cons_succ]
              refine wpAnyH_take (i := 1) (v := ?_) rfl (by kernel_rfl) (by kernel_rfl) (by kernel_rfl) (fun _ _ _ h => h) (Or.inl ⟨by rfl, ?_⟩) (by assumption) ?_
              rotate_left
              · intro w hSw
                go_simp
                with_reducible rfl
              change wpAnyH _ _ _ _ _ _ _ (Act.put _ (some 49) _) _
              simp only [Act.put, List.setIfInBounds_toArray, List.set_cons_zero, List.set_cons_succ]
              refine wpAnyH_take (i := 2) (v := ?_) rfl (by kernel_rfl) (by kernel_rfl) (by kernel_rfl) (fun _ _ _ h => h) (Or.inl ⟨by rfl, ?_⟩) (by assumption) ?_
              rotate_left
              · intro w hSw
                go_simp
                with_reducible rfl
              change wpAnyH _ _ _ _ _ _ _ (Act.put _ (some 50) _) _
              simp only [Act.put, List.setIfInBounds_toArray, List.set_cons_zero, List.set_cons_succ]
              refine wpAnyH_take (i := 3) (v := ?_) rfl (by kernel_rfl) (by kernel_rfl) (by kernel_rfl) (fun _ _ _ h => h) (Or.inl ⟨by rfl, ?_⟩) (by assumption) ?_
              rotate_left
              · intro w hSw
                go_simp
                with_reducible rfl
              change wpAnyH _ _ _ _ _ _ _ (Act.put _ (some 51) _) _
              simp only [Act.put, List.setIfInBounds_toArray, List.set_cons_zero, List.set_cons_succ]
              refine wpAnyH_take (i := 4) (v := ?_) rfl (by kernel_rfl) (by kernel_rfl) (by kernel_rfl) (fun _ _ _ h => h) (Or.inl ⟨by rfl, ?_⟩) (by assumption) ?_
              rotate_left
              · intro w hSw
                go_simp
                with_reducible rfl
              change wpAnyH _ _ _ _ _ _ _ (Act.put _ (some 52) _) _
              simp only [Act.put, List.setIfInBounds_toArray, List.set_cons_zero, List.set_cons_succ]
              refine wpAnyH_take (i := 5) (v := ?_) rfl (by kernel_rfl) (by kernel_rfl) (by kernel_rfl) (fun _ _ _ h => h) (Or.inl ⟨by rfl, ?_⟩) (by assumption) ?_
              rotate_left
              · intro w hSw
                go_simp
                with_reducible rfl
              change wpAnyH _ _ _ _ _ _ _ (Act.put _ (some 53) _) _
              simp only [Act.put, List.setIfInBounds_toArray, List.set_cons_zero, List.set_cons_succ]
              refine wpAnyH_take (i := 6) (v := ?_) rfl (by kernel_rfl) (by kernel_rfl) (by kernel_rfl) (fun _ _ _ h => h) (Or.inl ⟨by rfl, ?_⟩) (by assumption) ?_
              rotate_left
              · intro w hSw
                go_simp
                with_reducible rfl
              change wpAnyH _ _ _ _ _ _ _ (Act.put _ (some 54) _) _
              simp only [Act.put, List.setIfInBounds_toArray, List.set_cons_zero, List.set_cons_succ]
              refine wpAnyH_take (i := 7) (v := ?_) rfl (by kernel_rfl) (by kernel_rfl) (by kernel_rfl) (fun _ _ _ h => h) (Or.inl ⟨by rfl, ?_⟩) (by assumption) ?_
              rotate_left
              · intro w hSw
                go_simp
                with_reducible rfl
              change wpAnyH _ _ _ _ _ _ _ (Act.put _ (some 55) _) _
              simp only [Act.put, List.setIfInBounds_toArray, List.set_cons_zero, List.set_cons_succ]
              refine wpAnyH_take (i := 8) (v := ?_) rfl (by kernel_rfl) (by kernel_rfl) (by kernel_rfl) (fun _ _ _ h => h) (Or.inl ⟨by rfl, ?_⟩) (by assumption) ?_
              rotate_left
              · intro w hSw
                go_simp
                with_reducible rfl
              change wpAnyH _ _ _ _ _ _ _ (Act.put _ (some 56) _) _
              simp only [Act.put, List.setIfInBounds_toArray, List.set_cons_zero, List.set_cons_succ]
              refine wpAnyH_ready (rs := [9]) (by kernel_rfl) (by simp) ?_
              refine AllReadyH.cons rfl (fun K hK => ?_) AllReadyH.nil
              go_simp
              refine (CS.out _ ((Below.refl _ _).drew)).mono ?_
              rintro e v7 ⟨rfl, b7⟩
              have q7 := ((Below.refl v6.heap.size v6).drew).trans b7
              have Xx_7 := Lib.hid (Xx_6.out.below q7 Xx_6.out.lt)
              have Xy_7 := Lib.hid (Xy_6.out.below q7 Xy_6.out.lt)
              have B_7 := Lib.hid (B_6.out.trans (q7.mono B_6.out.size))
              clear b7 q7 CS
              go_wp2_with fail
              refine hK.out _ _ (HS0.out _ Xx_7.out Xy_7.out) (fun hS => ?_)
              clear hK K
              try simp only [Act.put, List.setIfInBounds_toArray, List.set_cons_zero, List.set_cons_succ]
              refine wpAnyH_take (i := 10) (v := ?_) rfl (by kernel_rfl) (by kernel_rfl) (by kernel_rfl) (fun _ _ _ h => h) (Or.inl ⟨by rfl, ?_⟩) (by assumption) ?_
              rotate_left
              · intro w hSw
                go_simp
                with_reducible rfl
              change wpAnyH _ _ _ _ _ _ _ (Act.put _ (some 58) _) _
              simp only [Act.put, List.setIfInBounds_toArray, List.set_cons_zero, List.set_cons_succ]
              refine wpAnyH_take (i := 11) (v := ?_) rfl (by kernel_rfl) (by kernel_rfl) (by kernel_rfl) (fun _ _ _ h => h) (Or.inl ⟨by rfl, ?_⟩) (by assumption) ?_
              rotate_left
              · intro w hSw
                go_simp
                with_reducible rfl
              change wpAnyH _ _ _ _ _ _ _ (Act.put _ (some 59) _) _
              simp only [Act.put, List.setIfInBounds_toArray, List.set_cons_zero, List.set_cons_succ]
              refine wpAnyH_ready (rs := [12]) (by kernel_rfl) (by simp) ?_
              refine AllReadyH.cons rfl (fun K hK => ?_) AllReadyH.nil
              go_simp
              refine (awake_any _).mono ?_
              rintro e v8 ⟨rfl, b8⟩
              have Xx_8 := Lib.hid (Xx_7.out.below b8 Xx_7.out.lt)
              have Xy_8 := Lib.hid (Xy_7.out.below b8 Xy_7.out.lt)
              have B_8 := Lib.hid (B_7.out.trans (b8.mono B_7.out.size))
              clear b8
              go_wp2_with fail
              refine hK.out _ _ (HS0.out _ Xx_8.out Xy_8.out) (fun hS => ?_)
              clear hK K
              try simp only [Act.put, List.setIfInBounds_toArray, List.set_cons_zero, List.set_cons_succ]
              refine wpAnyH_take (i := 13) (v := ?_) rfl (by kernel_rfl) (by kernel_rfl) (by kernel_rfl) (fun _ _ _ h => h) (Or.inl ⟨by rfl, ?_⟩) (by assumption) ?_
              rotate_left
              · intro w hSw
                go_simp
                with_reducible rfl
              change wpAnyH _ _ _ _ _ _ _ (Act.put _ (some 61) _) _
              simp only [Act.put, List.setIfInBounds_toArray, List.set_cons_zero, List.set_cons_succ]
              refine wpAnyH_take (i := 14) (v := ?_) rfl (by kernel_rfl) (by kernel_rfl) (by kernel_rfl) (fun _ _ _ h => h) (Or.inl ⟨by rfl, ?_⟩) (by assumption) ?_
              rotate_left
              · intro w hSw
                go_simp
                with_reducible rfl
              change wpAnyH _ _ _ _ _ _ _ (Act.put _ (some 4) _) _
              simp only [Act.put, List.setIfInBounds_toArray, List.set_cons_zero, List.set_cons_succ]
              refine wpAnyH_done (by kernel_rfl) ?_ _
              go_wp2_with fail
              go_ret
              exact ⟨rfl, B_8.out⟩
            | true =>
              have HS0 : Hid (∀ W, Blk W w.heap.size 25 #[.int .i64 xf.k, .int .i64 xf.n, .int .i64 xf.g, .string xf.nm, .string xf.fn, .int .i64 xf.ar, .slice sx lx cx, .string xf.bs, .int .i64 xf.bt] → Blk W (w.heap.size + 1) 25 #[.int .i64 yf.k, .int .i64 yf.n, .int .i64 yf.g, .string yf.nm, .string yf.fn, .int .i64 yf.ar, .slice sy ly cy, .string yf.bs, .int .i64 yf.bt] → (W.cell? ⟨w.heap.size, 0, none⟩ = some (.int .i64 xf.k) ∧ W.cell? ⟨w.heap.size, 1, none⟩ = some (.int .i64 xf.n) ∧ W.cell? ⟨w.heap.size, 2, none⟩ = some (.int .i64 xf.g) ∧ W.cell? ⟨w.heap.size, 3, none⟩ = some (.string xf.nm) ∧ W.cell? ⟨w.heap.size, 4, none⟩ = some (.string xf.fn) ∧ W.cell? ⟨w.heap.size, 5, none⟩ = some (.int .i64 xf.ar) ∧ W.cell? ⟨w.heap.size, 6, none⟩ = some (.slice sx lx cx) ∧ W.cell? ⟨w.heap.size, 7, none⟩ = some (.string xf.bs) ∧ W.cell? ⟨w.heap.size, 8, none⟩ = some (.int .i64 xf.bt) ∧ W.cell? ⟨w.heap.size + 1, 0, none⟩ = some (.int .i64 yf.k) ∧ W.cell? ⟨w.heap.size + 1, 1, none⟩ = some (.int .i64 yf.n) ∧ W.cell? ⟨w.heap.size + 1, 2, none⟩ = some (.int .i64 yf.g) ∧ W.cell? ⟨w.heap.size + 1, 3, none⟩ = some (.string yf.nm) ∧ W.cell? ⟨w.heap.size + 1, 4, none⟩ = some (.string yf.fn) ∧ W.cell? ⟨w.heap.size + 1, 5, none⟩ = some (.int .i64 yf.ar) ∧ W.cell? ⟨w.heap.size + 1, 6, none⟩ = some (.slice sy ly cy) ∧ W.cell? ⟨w.heap.size + 1, 7, none⟩ = some (.string yf.bs) ∧ W.cell? ⟨w.heap.size + 1, 8, none⟩ = some (.int .i64 yf.bt))) := Lib.hid (fun W h g => ⟨h.cell 0, h.cell 1, h.cell 2, h.cell 3, h.cell 4, h.cell 5, h.cell 6, h.cell 7, h.cell 8, g.cell 0, g.cell 1, g.cell 2, g.cell 3, g.cell 4, g.cell 5, g.cell 6, g.cell 7, g.cell 8⟩)
              refine wp_region_held_drew (S := (fun w' => w'.cell? ⟨w.heap.size, 0, none⟩ = some (.int .i64 xf.k) ∧ w'.cell? ⟨w.heap.size, 1, none⟩ = some (.int .i64 xf.n) ∧ w'.cell? ⟨w.heap.size, 2, none⟩ = some (.int .i64 xf.g) ∧ w'.cell? ⟨w.heap.size, 3, none⟩ = some (.string xf.nm) ∧ w'.cell? ⟨w.heap.size, 4, none⟩ = some (.string xf.fn) ∧ w'.cell? ⟨w.heap.size, 5, none⟩ = some (.int .i64 xf.ar) ∧ w'.cell? ⟨w.heap.size, 6, none⟩ = some (.slice sx lx cx) ∧ w'.cell? ⟨w.heap.size, 7, none⟩ = some (.string xf.bs) ∧ w'.cell? ⟨w.heap.size, 8, none⟩ = some (.int .i64 xf.bt) ∧ w'.cell? ⟨w.heap.size + 1, 0, none⟩ = some (.int .i64 yf.k) ∧ w'.cell? ⟨w.heap.size + 1, 1, none⟩ = some (.int .i64 yf.n) ∧ w'.cell? ⟨w.heap.size + 1, 2, none⟩ = some (.int .i64 yf.g) ∧ w'.cell? ⟨w.heap.size + 1, 3, none⟩ = some (.string yf.nm) ∧ w'.cell? ⟨w.heap.size + 1, 4, none⟩ = some (.string yf.fn) ∧ w'.cell? ⟨w.heap.size + 1, 5, none⟩ = some (.int .i64 yf.ar) ∧ w'.cell? ⟨w.heap.size + 1, 6, none⟩ = some (.slice sy ly cy) ∧ w'.cell? ⟨w.heap.size + 1, 7, none⟩ = some (.string yf.bs) ∧ w'.cell? ⟨w.heap.size + 1, 8, none⟩ = some (.int .i64 yf.bt))) (by kernel_rfl) (HS0.out _ Xx_6.out.drew Xy_6.out.drew) (fun hS => ?_)
              refine wpAnyH_take (i := 0) (v := ?_) rfl (by kernel_rfl) (by kernel_rfl) (by kernel_rfl) (fun _ _ _ h => h) (Or.inl ⟨by rfl, ?_⟩) (by assumption) ?_
              rotate_left
              · intro w hSw
                go_simp
                with_reducible rfl
              change wpAnyH _ _ _ _ _ _ _ (Act.put _ (some 48) _) _
              simp only [Act.put, List.setIfInBounds_toArray, List.set_cons_zero, List.set_cons_succ]
              refine wpAnyH_take (i := 1) (v := ?_) rfl (by kernel_rfl) (by kernel_rfl) (by kernel_rfl) (fun _ _ _ h => h) (Or.inl ⟨by rfl, ?_⟩) (by assumption) ?_
              rotate_left
              · intro w hSw
                go_simp
                with_reducible rfl
              change wpAnyH _ _ _ _ _ _ _ (Act.put _ (some 49) _) _
              simp only [Act.put, List.setIfInBounds_toArray, List.set_cons_zero, List.set_cons_succ]
              refine wpAnyH_take (i := 2) (v := ?_) rfl (by kernel_rfl) (by kernel_rfl) (by kernel_rfl) (fun _ _ _ h => h) (Or.inl ⟨by rfl, ?_⟩) (by assumption) ?_
              rotate_left
              · intro w hSw
                go_simp
                with_reducible rfl
              change wpAnyH _ _ _ _ _ _ _ (Act.put _ (some 50) _) _
              simp only [Act.put, List.setIfInBounds_toArray, List.set_cons_zero, List.set_cons_succ]
              refine wpAnyH_take (i := 3) (v := ?_) rfl (by kernel_rfl) (by kernel_rfl) (by kernel_rfl) (fun _ _ _ h => h) (Or.inl ⟨by rfl, ?_⟩) (by assumption) ?_
              rotate_left
              · intro w hSw
                go_simp
                with_reducible rfl
              change wpAnyH _ _ _ _ _ _ _ (Act.put _ (some 51) _) _
              simp only [Act.put, List.setIfInBounds_toArray, List.set_cons_zero, List.set_cons_succ]
              refine wpAnyH_take (i := 4) (v := ?_) rfl (by kernel_rfl) (by kernel_rfl) (by kernel_rfl) (fun _ _ _ h => h) (Or.inl ⟨by rfl, ?_⟩) (by assumption) ?_
              rotate_left
              · intro w hSw
                go_simp
                with_reducible rfl
              change wpAnyH _ _ _ _ _ _ _ (Act.put _ (some 52) _) _
              simp only [Act.put, List.setIfInBounds_toArray, List.set_cons_zero, List.set_cons_succ]
              refine wpAnyH_take (i := 5) (v := ?_) rfl (by kernel_rfl) (by kernel_rfl) (by kernel_rfl) (fun _ _ _ h => h) (Or.inl ⟨by rfl, ?_⟩) (by assumption) ?_
              rotate_left
              · intro w hSw
                go_simp
                with_reducible rfl
              change wpAnyH _ _ _ _ _ _ _ (Act.put _ (some 53) _) _
              simp only [Act.put, List.setIfInBounds_toArray, List.set_cons_zero, List.set_cons_succ]
              refine wpAnyH_take (i := 6) (v := ?_) rfl (by kernel_rfl) (by kernel_rfl) (by kernel_rfl) (fun _ _ _ h => h) (Or.inl ⟨by rfl, ?_⟩) (by assumption) ?_
              rotate_left
              · intro w hSw
                go_simp
                with_reducible rfl
              change wpAnyH _ _ _ _ _ _ _ (Act.put _ (some 54) _) _
              simp only [Act.put, List.setIfInBounds_toArray, List.set_cons_zero, List.set_cons_succ]
              refine wpAnyH_take (i := 7) (v := ?_) rfl (by kernel_rfl) (by kernel_rfl) (by kernel_rfl) (fun _ _ _ h => h) (Or.inl ⟨by rfl, ?_⟩) (by assumption) ?_
              rotate_left
              · intro w hSw
                go_simp
                with_reducible rfl
              change wpAnyH _ _ _ _ _ _ _ (Act.put _ (some 55) _) _
              simp only [Act.put, List.setIfInBounds_toArray, List.set_cons_zero, List.set_cons_succ]
              refine wpAnyH_take (i := 8) (v := ?_) rfl (by kernel_rfl) (by kernel_rfl) (by kernel_rfl) (fun _ _ _ h => h) (Or.inl ⟨by rfl, ?_⟩) (by assumption) ?_
              rotate_left
              · intro w hSw
                go_simp
                with_reducible rfl
              change wpAnyH _ _ _ _ _ _ _ (Act.put _ (some 56) _) _
              simp only [Act.put, List.setIfInBounds_toArray, List.set_cons_zero, List.set_cons_succ]
              refine wpAnyH_ready (rs := [9]) (by kernel_rfl) (by simp) ?_
              refine AllReadyH.cons rfl (fun K hK => ?_) AllReadyH.nil
              go_simp
              refine (CS.out _ ((Below.refl _ _).drew)).mono ?_
              rintro e v7 ⟨rfl, b7⟩
              have q7 := ((Below.refl v6.heap.size v6).drew).trans b7
              have Xx_7 := Lib.hid (Xx_6.out.below q7 Xx_6.out.lt)
              have Xy_7 := Lib.hid (Xy_6.out.below q7 Xy_6.out.lt)
              have B_7 := Lib.hid (B_6.out.trans (q7.mono B_6.out.size))
              clear b7 q7 CS
              go_wp2_with fail
              refine hK.out _ _ (HS0.out _ Xx_7.out Xy_7.out) (fun hS => ?_)
              clear hK K
              try simp only [Act.put, List.setIfInBounds_toArray, List.set_cons_zero, List.set_cons_succ]
              refine wpAnyH_take (i := 10) (v := ?_) rfl (by kernel_rfl) (by kernel_rfl) (by kernel_rfl) (fun _ _ _ h => h) (Or.inl ⟨by rfl, ?_⟩) (by assumption) ?_
              rotate_left
              · intro w hSw
                go_simp
                with_reducible rfl
              change wpAnyH _ _ _ _ _ _ _ (Act.put _ (some 58) _) _
              simp only [Act.put, List.setIfInBounds_toArray, List.set_cons_zero, List.set_cons_succ]
              refine wpAnyH_take (i := 11) (v := ?_) rfl (by kernel_rfl) (by kernel_rfl) (by kernel_rfl) (fun _ _ _ h => h) (Or.inl ⟨by rfl, ?_⟩) (by assumption) ?_
              rotate_left
              · intro w hSw
                go_simp
                with_reducible rfl
              change wpAnyH _ _ _ _ _ _ _ (Act.put _ (some 59) _) _
              simp only [Act.put, List.setIfInBounds_toArray, List.set_cons_zero, List.set_cons_succ]
              refine wpAnyH_ready (rs := [12]) (by kernel_rfl) (by simp) ?_
              refine AllReadyH.cons rfl (fun K hK => ?_) AllReadyH.nil
              go_simp
              refine (awake_any _).mono ?_
              rintro e v8 ⟨rfl, b8⟩
              have Xx_8 := Lib.hid (Xx_7.out.below b8 Xx_7.out.lt)
              have Xy_8 := Lib.hid (Xy_7.out.below b8 Xy_7.out.lt)
              have B_8 := Lib.hid (B_7.out.trans (b8.mono B_7.out.size))
              clear b8
              go_wp2_with fail
              refine hK.out _ _ (HS0.out _ Xx_8.out Xy_8.out) (fun hS => ?_)
              clear hK K
              try simp only [Act.put, List.setIfInBounds_toArray, List.set_cons_zero, List.set_cons_succ]
              refine wpAnyH_take (i := 13) (v := ?_) rfl (by kernel_rfl) (by kernel_rfl) (by kernel_rfl) (fun _ _ _ h => h) (Or.inl ⟨by rfl, ?_⟩) (by assumption) ?_
              rotate_left
              · intro w hSw
                go_simp
                with_reducible rfl
              change wpAnyH _ _ _ _ _ _ _ (Act.put _ (some 61) _) _
              simp only [Act.put, List.setIfInBounds_toArray, List.set_cons_zero, List.set_cons_succ]
              refine wpAnyH_take (i := 14) (v := ?_) rfl (by kernel_rfl) (by kernel_rfl) (by kernel_rfl) (fun _ _ _ h => h) (Or.inl ⟨by rfl, ?_⟩) (by assumption) ?_
              rotate_left
              · intro w hSw
                go_simp
                with_reducible rfl
              change wpAnyH _ _ _ _ _ _ _ (Act.put _ (some 4) _) _
              simp only [Act.put, List.setIfInBounds_toArray, List.set_cons_zero, List.set_cons_succ]
              refine wpAnyH_done (by kernel_rfl) ?_ _
              go_wp2_with fail
              go_ret
              exact ⟨rfl, B_8.out⟩
end Go.Proofs.Ytcpdmlnodhokmaa
