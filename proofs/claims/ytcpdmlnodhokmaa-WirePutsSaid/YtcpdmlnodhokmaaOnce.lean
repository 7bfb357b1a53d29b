/- WireOnce: the walk. -/
import Derived.Test.YtcpdmlnodhokmaaWake
namespace Go.Proofs.Ytcpdmlnodhokmaa
open Go.RowKit Go.Rt Go.Rw

theorem okT_valid {t : Tm} (hv : validB t = true) (hf : fitT t) : okT t := by
  have := cnt_size t (validB_iff hv).1
  have := (validB_iff hv).2
  exact ⟨hf, by omega⟩
theorem putE_valid {t : Tm} (hv : validB t = true) : putE t = 0 := by unfold putE; rw [hv]; rfl
theorem putE_no {t : Tm} (hv : validB t = false) : putE t = 2 := by unfold putE; rw [hv]; rfl
theorem TmAt.old {S : Nat → Prop} {w : World} {t : Tm} {x : Ft} (h : TmAt S w t x) : TmAt (fun b => b < w.heap.size) w t x := h.map (Nat.le_refl _) (fun _ _ _ => rfl) (fun _ _ h => h)
set_option maxRecDepth 100000 in
set_option maxHeartbeats 2000000 in
theorem once_walk (b : ByteArray) (w : World) (hz : b.size ≤ 9223372036854775807) : Calls Try.prog 5 #[.string b] w fun e w' => e = .returned (.bool true) ∧ Below w.heap.size w w' := by
  by_cases hbig : 200000 < b.size
  · have d1 : decide ((200000 : Int) < b.size) = true := decide_eq_true (by omega)
    go_enter Try.func5, Try.ntmps5
    go_wp2_with fail
    refine (awake_any w).mono ?_
    rintro e v1 ⟨rfl, b1⟩
    have B1 := Lib.hid b1
    clear b1
    go_wp2_with fail
    go_ret
    exact ⟨rfl, B1.out⟩
  · have hle : b.size ≤ 200000 := by omega
    have d1 : decide ((200000 : Int) < b.size) = false := decide_eq_false (by omega)
    have HG := Lib.hid (get_any b hle w)
    have HE := Lib.hid (getF_e b)
    have HS := Lib.hid (getF_snd hle)
    obtain ⟨f, hf⟩ : ∃ f, f = getF b := ⟨_, rfl⟩
    rw [← hf] at HG HE HS
    obtain ⟨t, n⟩ := f
    dsimp only at HS
    clear hf hbig hle
    go_enter Try.func5, Try.ntmps5
    go_wp2_with fail
    refine HG.out.mono ?_
    rintro e v1 ⟨bb, x, rfl, tx⟩
    have B_1 := Lib.hid bb
    dsimp only at tx
    clear bb HG
    obtain ⟨_, sq, cq, vx⟩ := tx.its.2.form
    obtain ⟨qf, xv⟩ := x
    dsimp only at vx
    subst vx
    obtain ⟨lq, hlq⟩ : ∃ l, l = (t).l.length := ⟨_, rfl⟩
    rw [← hlq] at tx ⊢
    clear hlq
    unfold ftV
    have Tq_2 := Lib.hid (tx.below ((Below.refl _ _).alloc (Nat.le_refl _) (.cells #[.int .i64 qf.k, .int .i64 qf.n, .int .i64 qf.g, .string qf.nm, .string qf.fn, .int .i64 qf.ar, .slice sq lq cq, .string qf.bs, .int .i64 qf.bt] 25)) (fun _ _ h => h))
    have B_2 := Lib.hid (B_1.out.alloc B_1.out.size (.cells #[.int .i64 qf.k, .int .i64 qf.n, .int .i64 qf.g, .string qf.nm, .string qf.fn, .int .i64 qf.ar, .slice sq lq cq, .string qf.bs, .int .i64 qf.bt] 25))
    have Xq_2 := Lib.hid (Blk.new v1 25 #[.int .i64 qf.k, .int .i64 qf.n, .int .i64 qf.g, .string qf.nm, .string qf.fn, .int .i64 qf.ar, .slice sq lq cq, .string qf.bs, .int .i64 qf.bt])
    clear tx
    clear B_1
    try dsimp only
    clear d1
    go_upto_region 4 with fail
    generalize v1.alloc (.cells #[.int .i64 qf.k, .int .i64 qf.n, .int .i64 qf.g, .string qf.nm, .string qf.fn, .int .i64 qf.ar, .slice sq lq cq, .string qf.bs, .int .i64 qf.bt] 25) = v2 at * 
    generalize v1.heap.size = gq at *
    by_cases hn : n = 0
    · subst hn
      obtain ⟨hv, hfit, hput⟩ := HS.out rfl
      have hok := okT_valid hv hfit
      have CP := Lib.hid (put_any t ⟨qf, .slice sq lq cq⟩ v2 Tq_2.out.old hok)
      rw [hput, putE_valid hv] at CP
      unfold ftV at CP
      dsimp only at CP
      clear HE HS
      go_wp2_with (refine wpList_load_blk rfl 25 _ rfl (gq) rfl _ 25 _ Xq_2.out Try.underlying25 rfl info25 ?_)
      refine (CP.out).mono ?_
      rintro e v3 ⟨rfl, bb⟩
      have Tq_3 := Lib.hid (Tq_2.out.below bb (fun _ _ h => h))
      have Xq_3 := Lib.hid (Xq_2.out.below bb Xq_2.out.lt)
      have B_3 := Lib.hid (B_2.out.trans (bb.mono B_2.out.size))
      clear bb
      clear B_2 Tq_2 Xq_2
      have CV := Lib.hid (rvalid_any _ t ⟨qf, .slice sq lq cq⟩ v3 Tq_3.out hfit hok.bulk)
      rw [hv] at CV
      unfold ftV at CV
      dsimp only at CV
      clear hv hfit hput hok CP
      have hst : (b.toList == b.toList) = true := beq_self_eq_true _
      have cXq0 : v3.cell? ⟨gq, 0, none⟩ = some (.int .i64 qf.k) := Xq_3.out.cell 0
      have cXq1 : v3.cell? ⟨gq, 1, none⟩ = some (.int .i64 qf.n) := Xq_3.out.cell 1
      have cXq2 : v3.cell? ⟨gq, 2, none⟩ = some (.int .i64 qf.g) := Xq_3.out.cell 2
      have cXq3 : v3.cell? ⟨gq, 3, none⟩ = some (.string qf.nm) := Xq_3.out.cell 3
      have cXq4 : v3.cell? ⟨gq, 4, none⟩ = some (.string qf.fn) := Xq_3.out.cell 4
      have cXq5 : v3.cell? ⟨gq, 5, none⟩ = some (.int .i64 qf.ar) := Xq_3.out.cell 5
      have cXq6 : v3.cell? ⟨gq, 6, none⟩ = some (.slice sq lq cq) := Xq_3.out.cell 6
      have cXq7 : v3.cell? ⟨gq, 7, none⟩ = some (.string qf.bs) := Xq_3.out.cell 7
      have cXq8 : v3.cell? ⟨gq, 8, none⟩ = some (.int .i64 qf.bt) := Xq_3.out.cell 8
      go_wp2_with fail
      clear cXq0 cXq1 cXq2 cXq3 cXq4 cXq5 cXq6 cXq7 cXq8
      refine (CV.out).mono ?_
      rintro e v4 ⟨rfl, bb⟩
      have Tq_4 := Lib.hid (Tq_3.out.below bb (fun _ _ h => h))
      have Xq_4 := Lib.hid (Xq_3.out.below bb Xq_3.out.lt)
      have B_4 := Lib.hid (B_3.out.trans (bb.mono B_3.out.size))
      clear bb
      clear B_3 Tq_3 Xq_3
      go_wp2_with fail
      refine (awake_any v4).mono ?_
      rintro e v5 ⟨rfl, bb⟩
      have Tq_5 := Lib.hid (Tq_4.out.below bb (fun _ _ h => h))
      have Xq_5 := Lib.hid (Xq_4.out.below bb Xq_4.out.lt)
      have B_5 := Lib.hid (B_4.out.trans (bb.mono B_4.out.size))
      clear bb
      clear B_4 Tq_4 Xq_4
      go_wp2_with fail
      go_ret
      exact ⟨rfl, B_5.out⟩
    · obtain ⟨rfl, rfl⟩ : t = zeroT ∧ n = 6 := by
        rcases HE.out with h | h
        · exact absurd h hn
        · cases h; exact ⟨rfl, rfl⟩
      clear HE HS hn
      have CS := Lib.hid (same_any zeroT zeroT _ (fun _ => False) ⟨qf, .slice sq lq cq⟩ ⟨zeroFl, .slice none 0 0⟩ v2 Tq_2.out (zeroT_at _ _))
      rw [(eqT_iff zeroT zeroT).2 rfl] at CS
      unfold ftV zeroFl noB at CS
      dsimp only at CS
      have cXq0 : v2.cell? ⟨gq, 0, none⟩ = some (.int .i64 qf.k) := Xq_2.out.cell 0
      have cXq1 : v2.cell? ⟨gq, 1, none⟩ = some (.int .i64 qf.n) := Xq_2.out.cell 1
      have cXq2 : v2.cell? ⟨gq, 2, none⟩ = some (.int .i64 qf.g) := Xq_2.out.cell 2
      have cXq3 : v2.cell? ⟨gq, 3, none⟩ = some (.string qf.nm) := Xq_2.out.cell 3
      have cXq4 : v2.cell? ⟨gq, 4, none⟩ = some (.string qf.fn) := Xq_2.out.cell 4
      have cXq5 : v2.cell? ⟨gq, 5, none⟩ = some (.int .i64 qf.ar) := Xq_2.out.cell 5
      have cXq6 : v2.cell? ⟨gq, 6, none⟩ = some (.slice sq lq cq) := Xq_2.out.cell 6
      have cXq7 : v2.cell? ⟨gq, 7, none⟩ = some (.string qf.bs) := Xq_2.out.cell 7
      have cXq8 : v2.cell? ⟨gq, 8, none⟩ = some (.int .i64 qf.bt) := Xq_2.out.cell 8
      go_wp2_with fail
      clear cXq0 cXq1 cXq2 cXq3 cXq4 cXq5 cXq6 cXq7 cXq8
      refine (CS.out).mono ?_
      rintro e v3 ⟨rfl, bb⟩
      have Tq_3 := Lib.hid (Tq_2.out.below bb (fun _ _ h => h))
      have Xq_3 := Lib.hid (Xq_2.out.below bb Xq_2.out.lt)
      have B_3 := Lib.hid (B_2.out.trans (bb.mono B_2.out.size))
      clear bb
      clear B_2 Tq_2 Xq_2
      go_wp2_with fail
      refine (awake_any v3).mono ?_
      rintro e v4 ⟨rfl, bb⟩
      have Tq_4 := Lib.hid (Tq_3.out.below bb (fun _ _ h => h))
      have Xq_4 := Lib.hid (Xq_3.out.below bb Xq_3.out.lt)
      have B_4 := Lib.hid (B_3.out.trans (bb.mono B_3.out.size))
      clear bb
      clear B_3 Tq_3 Xq_3
      go_wp2_with fail
      go_ret
      exact ⟨rfl, B_4.out⟩
end Go.Proofs.Ytcpdmlnodhokmaa
