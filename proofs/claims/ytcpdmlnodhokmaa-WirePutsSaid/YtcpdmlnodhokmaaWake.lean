/- awake: a tuple is encoded and decoded. -/
import Derived.Test.YtcpdmlnodhokmaaPlain
namespace Go.Proofs.Ytcpdmlnodhokmaa
open Go.RowKit Go.Rt Go.Rw

def aB : ByteArray := ⟨#[97]⟩
def wakeA : Ft := ⟨⟨2, 0, 0, aB, noB, 0, noB, 0⟩, .slice none 0 0⟩
def wakeI : Ft := ⟨⟨1, 1, 0, noB, noB, 0, noB, 0⟩, .slice none 0 0⟩
def wakeT : Tm := .mk ⟨7, 0, 0, noB, noB, 0, noB, 0⟩ [.mk wakeA.f [], .mk wakeI.f []]
def wakeS : ByteArray := ⟨#[131, 104, 2, 119, 1, 97, 97, 1]⟩
theorem wake_valid : validB wakeT = true := by decide +kernel
theorem wake_code : 131 :: codeT wakeT = wakeS.data.toList := by decide +kernel
theorem wake_put : putS wakeT = wakeS := bytes_list ((putS_list wake_valid).trans wake_code)
theorem wake_fit : fitT wakeT := by
  simp only [wakeT, wakeA, wakeI, fitT, fitL, fitF, and_true]
  decide
theorem wake_ok : okT wakeT := ⟨wake_fit, by decide +kernel⟩
theorem wake_get : getF wakeS = (wakeT, 0) := by
  rw [getF_code wake_valid wake_fit (m := []) (by rw [List.append_nil]; exact wake_code.symm), if_pos rfl]
def wakeX (g : Nat) : Ft := ⟨⟨7, 0, 0, noB, noB, 0, noB, 0⟩, .slice (some ⟨g, 0, none⟩) 2 2⟩
theorem wake_at (w : World) : TmAt (fun b => w.heap.size ≤ b) (w.alloc (.cells #[.int .i64 2, .int .i64 0, .int .i64 0, .string ⟨#[97]⟩, .string ⟨#[]⟩, .int .i64 0, .slice none 0 0, .string ⟨#[]⟩, .int .i64 0, .int .i64 1, .int .i64 1, .int .i64 0, .string ⟨#[]⟩, .string ⟨#[]⟩, .int .i64 0, .slice none 0 0, .string ⟨#[]⟩, .int .i64 0] 25)) wakeT (wakeX w.heap.size) := by
  have h : SlAt (w.alloc (.cells #[.int .i64 2, .int .i64 0, .int .i64 0, .string ⟨#[97]⟩, .string ⟨#[]⟩, .int .i64 0, .slice none 0 0, .string ⟨#[]⟩, .int .i64 0, .int .i64 1, .int .i64 1, .int .i64 0, .string ⟨#[]⟩, .string ⟨#[]⟩, .int .i64 0, .slice none 0 0, .string ⟨#[]⟩, .int .i64 0] 25)) 9 ftC (.slice (some ⟨w.heap.size, 0, none⟩) 2 2) [wakeA, wakeI] :=
    (Sl.lit (base := w.heap.size) (e := 25) w [wakeA, wakeI] ftC_len (Nat.le_refl _) (by decide)).at ftC_len
  refine TmAt.of rfl ⟨[wakeA, wakeI], h, fun b o n c e _ => ?_, ?_⟩
  · cases e
    exact Nat.le_refl _
  · show TmsAt _ _ [.mk wakeA.f [], .mk wakeI.f []] _
    unfold TmsAt
    refine ⟨_, _, rfl, TmAt.of rfl (ItsAt.nil none 0), ?_⟩
    unfold TmsAt
    refine ⟨_, _, rfl, TmAt.of rfl (ItsAt.nil none 0), ?_⟩
    unfold TmsAt
    rfl
set_option maxRecDepth 100000 in
set_option maxHeartbeats 2000000 in
theorem awake_any (w : World) : Calls Try.prog 11 #[] w fun e w' => e = .returned (.bool true) ∧ Below w.heap.size w w' := by
  have T1 := (wake_at w).below ((Below.refl _ _).alloc (Nat.le_refl _) (.cells #[.int .i64 7, .int .i64 0, .int .i64 0, .string ⟨#[]⟩, .string ⟨#[]⟩, .int .i64 0, .slice (some ⟨w.heap.size, 0, none⟩) 2 2, .string ⟨#[]⟩, .int .i64 0] 25)) (fun _ _ h => h)
  have X1 := Blk.new (w.alloc (.cells #[.int .i64 2, .int .i64 0, .int .i64 0, .string ⟨#[97]⟩, .string ⟨#[]⟩, .int .i64 0, .slice none 0 0, .string ⟨#[]⟩, .int .i64 0, .int .i64 1, .int .i64 1, .int .i64 0, .string ⟨#[]⟩, .string ⟨#[]⟩, .int .i64 0, .slice none 0 0, .string ⟨#[]⟩, .int .i64 0] 25)) 25 #[.int .i64 7, .int .i64 0, .int .i64 0, .string ⟨#[]⟩, .string ⟨#[]⟩, .int .i64 0, .slice (some ⟨w.heap.size, 0, none⟩) 2 2, .string ⟨#[]⟩, .int .i64 0]
  have B1 := ((Below.refl w.heap.size w).alloc (Nat.le_refl _) (.cells #[.int .i64 2, .int .i64 0, .int .i64 0, .string ⟨#[97]⟩, .string ⟨#[]⟩, .int .i64 0, .slice none 0 0, .string ⟨#[]⟩, .int .i64 0, .int .i64 1, .int .i64 1, .int .i64 0, .string ⟨#[]⟩, .string ⟨#[]⟩, .int .i64 0, .slice none 0 0, .string ⟨#[]⟩, .int .i64 0] 25)).alloc (by simp) (.cells #[.int .i64 7, .int .i64 0, .int .i64 0, .string ⟨#[]⟩, .string ⟨#[]⟩, .int .i64 0, .slice (some ⟨w.heap.size, 0, none⟩) 2 2, .string ⟨#[]⟩, .int .i64 0] 25)
  simp only [World.size_alloc] at X1
  have T1 := Lib.hid T1
  have X1 := Lib.hid X1
  have B1 := Lib.hid B1
  go_enter Try.func11, Try.ntmps11
  go_upto_region 2 with fail
  generalize (w.alloc (.cells #[.int .i64 2, .int .i64 0, .int .i64 0, .string ⟨#[97]⟩, .string ⟨#[]⟩, .int .i64 0, .slice none 0 0, .string ⟨#[]⟩, .int .i64 0, .int .i64 1, .int .i64 1, .int .i64 0, .string ⟨#[]⟩, .string ⟨#[]⟩, .int .i64 0, .slice none 0 0, .string ⟨#[]⟩, .int .i64 0] 25)).alloc (.cells #[.int .i64 7, .int .i64 0, .int .i64 0, .string ⟨#[]⟩, .string ⟨#[]⟩, .int .i64 0, .slice (some ⟨w.heap.size, 0, none⟩) 2 2, .string ⟨#[]⟩, .int .i64 0] 25) = v1 at T1 X1 B1 ⊢
  go_wp2_with (refine wpList_load_blk rfl 25 _ rfl (w.heap.size + 1) rfl _ 25 _ X1.out Try.underlying25 rfl info25 ?_)
  have CP := Lib.hid (put_any wakeT (wakeX w.heap.size) v1 (T1.out.map (Nat.le_refl _) (fun _ _ _ => rfl) (fun _ _ h => h)) wake_ok)
  rw [wake_put] at CP
  have hpe : putE wakeT = 0 := by unfold putE; rw [wake_valid]; rfl
  rw [hpe] at CP
  clear hpe
  unfold wakeS at CP
  refine CP.out.mono ?_
  rintro e v2 ⟨rfl, b2⟩
  have T_2 := Lib.hid (T1.out.below b2 (fun _ _ h => h))
  have X_2 := Lib.hid (X1.out.below b2 X1.out.lt)
  have B_2 := Lib.hid (B1.out.trans (b2.mono B1.out.size))
  clear b2 T1 X1 B1 CP
  have CG := Lib.hid (get_any wakeS (by decide) v2)
  rw [wake_get] at CG
  unfold wakeS at CG
  go_wp2_with fail
  refine (CG.out).mono ?_
  rintro e v3 ⟨bb, x, rfl, tx⟩
  have T_3 := Lib.hid (T_2.out.below bb (fun _ _ h => h))
  have X_3 := Lib.hid (X_2.out.below bb X_2.out.lt)
  have B_3 := Lib.hid (B_2.out.trans (bb.mono B_2.out.size))
  clear bb
  clear B_2 T_2 X_2
  dsimp only at tx
  clear CG
  obtain ⟨_, sq, cq, vx⟩ := tx.its.2.form
  obtain ⟨qf, xv⟩ := x
  dsimp only at vx
  subst vx
  obtain ⟨lq, hlq⟩ : ∃ l, l = (wakeT).l.length := ⟨_, rfl⟩
  rw [← hlq] at tx ⊢
  clear hlq
  unfold ftV
  have Tq_4 := Lib.hid (tx.below ((Below.refl _ _).alloc (Nat.le_refl _) (.cells #[.int .i64 qf.k, .int .i64 qf.n, .int .i64 qf.g, .string qf.nm, .string qf.fn, .int .i64 qf.ar, .slice sq lq cq, .string qf.bs, .int .i64 qf.bt] 25)) (fun _ _ h => h))
  have T_4 := Lib.hid (T_3.out.below ((Below.refl _ _).alloc (Nat.le_refl _) (.cells #[.int .i64 qf.k, .int .i64 qf.n, .int .i64 qf.g, .string qf.nm, .string qf.fn, .int .i64 qf.ar, .slice sq lq cq, .string qf.bs, .int .i64 qf.bt] 25)) (fun _ _ h => h))
  have X_4 := Lib.hid (X_3.out.alloc (.cells #[.int .i64 qf.k, .int .i64 qf.n, .int .i64 qf.g, .string qf.nm, .string qf.fn, .int .i64 qf.ar, .slice sq lq cq, .string qf.bs, .int .i64 qf.bt] 25))
  have B_4 := Lib.hid (B_3.out.alloc B_3.out.size (.cells #[.int .i64 qf.k, .int .i64 qf.n, .int .i64 qf.g, .string qf.nm, .string qf.fn, .int .i64 qf.ar, .slice sq lq cq, .string qf.bs, .int .i64 qf.bt] 25))
  have Xq_4 := Lib.hid (Blk.new v3 25 #[.int .i64 qf.k, .int .i64 qf.n, .int .i64 qf.g, .string qf.nm, .string qf.fn, .int .i64 qf.ar, .slice sq lq cq, .string qf.bs, .int .i64 qf.bt])
  clear tx
  clear B_3 T_3 X_3
  try dsimp only
  go_upto_region 4 with fail
  generalize v3.alloc (.cells #[.int .i64 qf.k, .int .i64 qf.n, .int .i64 qf.g, .string qf.nm, .string qf.fn, .int .i64 qf.ar, .slice sq lq cq, .string qf.bs, .int .i64 qf.bt] 25) = v4 at * 
  generalize v3.heap.size = gq at *
  have CS := Lib.hid (same_any wakeT wakeT _ _ (wakeX w.heap.size) ⟨qf, .slice sq lq cq⟩ v4 T_4.out Tq_4.out)
  rw [(eqT_iff wakeT wakeT).2 rfl] at CS
  unfold ftV wakeX noB at CS
  have hst : (ByteArray.toList ⟨#[131, 104, 2, 119, 1, 97, 97, 1]⟩ == ByteArray.toList ⟨#[131, 104, 2, 119, 1, 97, 97, 1]⟩) = true := beq_self_eq_true _
  have cX0 : v4.cell? ⟨w.heap.size + 1, 0, none⟩ = some (.int .i64 7) := X_4.out.cell 0
  have cX1 : v4.cell? ⟨w.heap.size + 1, 1, none⟩ = some (.int .i64 0) := X_4.out.cell 1
  have cX2 : v4.cell? ⟨w.heap.size + 1, 2, none⟩ = some (.int .i64 0) := X_4.out.cell 2
  have cX3 : v4.cell? ⟨w.heap.size + 1, 3, none⟩ = some (.string ⟨#[]⟩) := X_4.out.cell 3
  have cX4 : v4.cell? ⟨w.heap.size + 1, 4, none⟩ = some (.string ⟨#[]⟩) := X_4.out.cell 4
  have cX5 : v4.cell? ⟨w.heap.size + 1, 5, none⟩ = some (.int .i64 0) := X_4.out.cell 5
  have cX6 : v4.cell? ⟨w.heap.size + 1, 6, none⟩ = some (.slice (some ⟨w.heap.size, 0, none⟩) 2 2) := X_4.out.cell 6
  have cX7 : v4.cell? ⟨w.heap.size + 1, 7, none⟩ = some (.string ⟨#[]⟩) := X_4.out.cell 7
  have cX8 : v4.cell? ⟨w.heap.size + 1, 8, none⟩ = some (.int .i64 0) := X_4.out.cell 8
  have cXq0 : v4.cell? ⟨gq, 0, none⟩ = some (.int .i64 qf.k) := Xq_4.out.cell 0
  have cXq1 : v4.cell? ⟨gq, 1, none⟩ = some (.int .i64 qf.n) := Xq_4.out.cell 1
  have cXq2 : v4.cell? ⟨gq, 2, none⟩ = some (.int .i64 qf.g) := Xq_4.out.cell 2
  have cXq3 : v4.cell? ⟨gq, 3, none⟩ = some (.string qf.nm) := Xq_4.out.cell 3
  have cXq4 : v4.cell? ⟨gq, 4, none⟩ = some (.string qf.fn) := Xq_4.out.cell 4
  have cXq5 : v4.cell? ⟨gq, 5, none⟩ = some (.int .i64 qf.ar) := Xq_4.out.cell 5
  have cXq6 : v4.cell? ⟨gq, 6, none⟩ = some (.slice sq lq cq) := Xq_4.out.cell 6
  have cXq7 : v4.cell? ⟨gq, 7, none⟩ = some (.string qf.bs) := Xq_4.out.cell 7
  have cXq8 : v4.cell? ⟨gq, 8, none⟩ = some (.int .i64 qf.bt) := Xq_4.out.cell 8
  go_wp2_with fail
  clear cX0 cX1 cX2 cX3 cX4 cX5 cX6 cX7 cX8 cXq0 cXq1 cXq2 cXq3 cXq4 cXq5 cXq6 cXq7 cXq8
  refine (CS.out).mono ?_
  rintro e v5 ⟨rfl, bb⟩
  have T_5 := Lib.hid (T_4.out.below bb (fun _ _ h => h))
  have Tq_5 := Lib.hid (Tq_4.out.below bb (fun _ _ h => h))
  have X_5 := Lib.hid (X_4.out.below bb X_4.out.lt)
  have Xq_5 := Lib.hid (Xq_4.out.below bb Xq_4.out.lt)
  have B_5 := Lib.hid (B_4.out.trans (bb.mono B_4.out.size))
  clear bb
  clear B_4 T_4 Tq_4 X_4 Xq_4
  go_wp2_with fail
  go_ret
  exact ⟨rfl, B_5.out⟩
end Go.Proofs.Ytcpdmlnodhokmaa
