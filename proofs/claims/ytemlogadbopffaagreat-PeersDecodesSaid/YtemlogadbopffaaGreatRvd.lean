/- The reference's Valid: the same plain function. -/
import Derived.Test.YtemlogadbopffaaGreatRval
namespace Go.Proofs.YtemlogadbopffaaGreat
open Go.RowKit Go.Rt Go.Rw

theorem valid_atm (s : ByteArray) : validB (atmT s) = nameF s := by
 unfold atmT validB
 rw [formed, sizeT, formedL, sizeL]
 unfold ownB okF bareF zeroF usesL sizeO
 simp [noB]
 exact fun _ => rfl
theorem valid_nmb (n : Int) : validB (nmbT n) = true := by
 unfold nmbT validB
 rw [formed, sizeT, formedL, sizeL]
 unfold ownB okF bareF zeroF usesL sizeO
 simp [noB]
 rfl
def numB (has : Bool) (n : Int) : Bool := if has then decide (1 ≤ n) else decide (n = 0)
/-- The reference's order. -/
def validR (s : Sg) : Bool := let u := usesF s.k
 decide (u ≠ 0) && (termB (hasU u 0) s.fr 6 && (termB (hasU u 1) s.tt 6 && (nameB (hasU u 2) s.node && (nameB (hasU u 3) s.name && (termB (hasU u 4) s.ref 3 && (numB (hasU u 5) s.num && termB (hasU u 6) s.val 0))))))
theorem eqT_comm (t u : Tm) : eqT t u = eqT u t := by
 cases h : eqT t u with
 | true =>
  obtain rfl := (eqT_iff t u).1 h
  exact h.symm
 | false =>
  cases h2 : eqT u t with
  | true =>
   obtain rfl := (eqT_iff u t).1 h2
   rw [h] at h2
   cases h2
  | false => rfl
theorem eqT_self (t : Tm) : eqT t t = true := (eqT_iff t t).2 rfl
theorem fld_if (h ok z : Bool) : ((!h || ok) && (h || z)) = if h then ok else z := by cases h <;> simp
theorem only_tm (h : Bool) (t : Tm) : eqT (if (h && decide (0 < 7)) = true then t else zerT) t = (h || eqT t zerT) := by
 cases h with
 | true => simp [eqT_self]
 | false => simp [eqT_comm zerT t]
theorem valid_same (s : Sg) : validS s = validR s := by
 unfold validS validR
 dsimp only
 obtain ⟨u, hu⟩ : ∃ u, u = usesF s.k := ⟨_, rfl⟩
 rw [← hu]
 have e0 : okFld s 0 = (validB s.fr && (decide ((6 : Int) = 0) || decide (s.fr.f.k = 6))) := by simp [okFld, fldT, fldK]
 have e1 : okFld s 1 = (validB s.tt && (decide ((6 : Int) = 0) || decide (s.tt.f.k = 6))) := by simp [okFld, fldT, fldK]
 have e2 : okFld s 2 = nameF s.node := by
  have h : (atmT s.node).f.k = 2 := rfl
  simp [okFld, fldT, fldK, valid_atm, h]
 have e3 : okFld s 3 = nameF s.name := by
  have h : (atmT s.name).f.k = 2 := rfl
  simp [okFld, fldT, fldK, valid_atm, h]
 have e4 : okFld s 4 = (validB s.ref && (decide ((3 : Int) = 0) || decide (s.ref.f.k = 3))) := by simp [okFld, fldT, fldK]
 have e5 : okFld s 5 = decide (1 ≤ s.num) := by
  have h : (nmbT s.num).f.k = 1 := rfl
  simp [okFld, fldT, fldK, valid_nmb, h]
 have e6 : okFld s 6 = validB s.val := by simp [okFld, fldT, fldK]
 have r6 : (validB s.val && (decide ((0 : Int) = 0) || decide (s.val.f.k = 0))) = validB s.val := by simp
 unfold sameS onlyS
 simp only [allFld, e0, e1, e2, e3, e4, e5, e6]
 unfold termB nameB numB
 rw [r6]
 generalize decide (u ≠ 0) = p
 generalize (validB s.fr && (decide ((6 : Int) = 0) || decide (s.fr.f.k = 6))) = o0
 generalize (validB s.tt && (decide ((6 : Int) = 0) || decide (s.tt.f.k = 6))) = o1
 generalize (validB s.ref && (decide ((3 : Int) = 0) || decide (s.ref.f.k = 3))) = o4
 generalize validB s.val = o6
 generalize nameF s.node = o2
 generalize nameF s.name = o3
 generalize decide (1 ≤ s.num) = o5
 have n2 : decide ((if (hasU u 2 && decide (2 < 7)) = true then s.node else noB) = s.node) = (hasU u 2 || decide (s.node = noB)) := by
  cases hasU u 2 with
  | true => simp
  | false => simp [eq_comm]
 have n3 : decide ((if (hasU u 3 && decide (3 < 7)) = true then s.name else noB) = s.name) = (hasU u 3 || decide (s.name = noB)) := by
  cases hasU u 3 with
  | true => simp
  | false => simp [eq_comm]
 have n5 : decide ((if (hasU u 5 && decide (5 < 7)) = true then s.num else 0) = s.num) = (hasU u 5 || decide (s.num = 0)) := by
  cases hasU u 5 with
  | true => simp
  | false => simp [eq_comm]
 have t0 := only_tm (hasU u 0) s.fr
 have t1 := only_tm (hasU u 1) s.tt
 have t4 := only_tm (hasU u 4) s.ref
 have t6 := only_tm (hasU u 6) s.val
 simp only [show decide (0 < 7) = true from rfl, show decide (1 < 7) = true from rfl, show decide (4 < 7) = true from rfl, show decide (6 < 7) = true from rfl] at t0 t1 t4 t6 ⊢
 rw [n2, n3, n5, t0, t1, t4, t6]
 rw [← fld_if (hasU u 0), ← fld_if (hasU u 1), ← fld_if (hasU u 2), ← fld_if (hasU u 3), ← fld_if (hasU u 4), ← fld_if (hasU u 5), ← fld_if (hasU u 6)]
 simp only [Bool.true_and]
 ac_rfl
set_option maxRecDepth 100000 in
set_option maxHeartbeats 8000000 in
theorem rvalid23 (S : Nat → Prop) (s : Sg) (x : Sf) (w : World) (h : SgAt S w s x) (hfit : FitS s) : Calls Tryz.prog 23 #[sgV s x] w fun e w' => e = .returned (.bool (validS s)) ∧ Below w.heap.size w w' := by
 rw [valid_same]
 obtain ⟨R, hR⟩ : ∃ q, q = validR s := ⟨_, rfl⟩
 rw [← hR]
 unfold validR at hR
 dsimp only at hR
 obtain ⟨u, hu⟩ : ∃ u, u = usesF s.k := ⟨_, rfl⟩
 have CO := Lib.hid (fun (W : World) => of24 s.k W)
 rw [← hu] at CO hR
 obtain ⟨p0, hp0⟩ : ∃ q, q = hasU u 0 := ⟨_, rfl⟩
 rw [← hp0] at CO hR
 obtain ⟨p1, hp1⟩ : ∃ q, q = hasU u 1 := ⟨_, rfl⟩
 rw [← hp1] at CO hR
 obtain ⟨p2, hp2⟩ : ∃ q, q = hasU u 2 := ⟨_, rfl⟩
 rw [← hp2] at CO hR
 obtain ⟨p3, hp3⟩ : ∃ q, q = hasU u 3 := ⟨_, rfl⟩
 rw [← hp3] at CO hR
 obtain ⟨p4, hp4⟩ : ∃ q, q = hasU u 4 := ⟨_, rfl⟩
 rw [← hp4] at CO hR
 obtain ⟨p5, hp5⟩ : ∃ q, q = hasU u 5 := ⟨_, rfl⟩
 rw [← hp5] at CO hR
 obtain ⟨p6, hp6⟩ : ∃ q, q = hasU u 6 := ⟨_, rfl⟩
 rw [← hp6] at CO hR
 obtain ⟨p7, hp7⟩ : ∃ q, q = decide (u ≠ 0) := ⟨_, rfl⟩
 rw [← hp7] at CO hR
 have HR := Lib.hid hR
 clear hp0 hp1 hp2 hp3 hp4 hp5 hp6 hp7 hR hu
 have CT := Lib.hid (fun (W : World) (hW : Below w.heap.size w W) (b : Bool) (kd : Int) => And.intro (term64 S b s.fr x.a kd W (h.below hW (fun b _ h => h)).fr hfit.fr.1 hfit.fr.2) (And.intro (term64 S b s.tt x.b kd W (h.below hW (fun b _ h => h)).tt hfit.tt.1 hfit.tt.2) (And.intro (term64 S b s.ref x.c kd W (h.below hW (fun b _ h => h)).ref hfit.ref.1 hfit.ref.2) (term64 S b s.val x.d kd W (h.below hW (fun b _ h => h)).val hfit.val.1 hfit.val.2))))
 unfold ftV at CT
 have HFN := Lib.hid hfit.num
 obtain ⟨_, sa, ca, ea⟩ := h.fr.its.2.form
 obtain ⟨_, sb, cb, eb⟩ := h.tt.its.2.form
 obtain ⟨_, sc, cc, ec⟩ := h.ref.its.2.form
 obtain ⟨_, sd, cd, ed⟩ := h.val.its.2.form
 have EA := Lib.hid ea
 have EB := Lib.hid eb
 have EC := Lib.hid ec
 have ED := Lib.hid ed
 obtain ⟨CS, hCS⟩ : ∃ q, q = (sgC s x).toArray := ⟨_, rfl⟩
 have HSV : Hid (sgV s x = .agg CS) := Lib.hid (by rw [hCS]; rfl)
 have HCS := Lib.hid hCS
 rw [HSV.out]
 clear h hfit ea eb ec ed hCS
 obtain ⟨m, hm⟩ : ∃ q, q = w.heap.size := ⟨_, rfl⟩
 have HM := Lib.hid hm
 have X := Lib.hid (Blk.new w 26 CS)
 have B := Lib.hid ((Below.refl w.heap.size w).alloc (Nat.le_refl _) (.cells CS 26))
 rw [← hm] at X B
 have HTR : Hid (∀ W W', Below m w W → Below W.heap.size W W' → Below m w W') := Lib.hid (fun W W' h1 h2 => h1.trans (h2.mono (by have := h1.size; have := HM.out; omega)))
 have HTO : Hid (∀ W, Below m w W → Below w.heap.size w W) := Lib.hid (fun W hW => by rw [← HM.out]; exact hW)
 go_enter Tryz.func23, Tryz.ntmps23
 go_upto_region 1 with fail
 rw [← hm]
 generalize w.alloc (.cells CS 26) = w1 at X B ⊢
 clear hm
 have q0 : w1.cell? ⟨m, 0, none⟩ = some (.int .i64 s.k) := (X.out.cell 0).trans (by rw [HCS.out]; rfl)
 go_wp2_with fail
 refine (CO.out _).mono ?_
 rintro e w2 ⟨rfl, b2⟩
 replace X := Lib.hid (X.out.below b2 X.out.lt)
 replace B := Lib.hid (HTR.out _ _ B.out b2)
 clear b2 q0 CO
 obtain ⟨z, hz⟩ : ∃ q, q = w2.heap.size := ⟨_, rfl⟩
 have HZ := Lib.hid hz
 have hmz : m < z := by rw [hz]; exact X.out.lt
 have P0 := Lib.hid (Blk.new w2 58 #[.bool false, .bool false, .bool false, .bool false, .bool false, .bool false, .bool false])
 have O0 := Lib.hid (Only.alloc [z] w2 (.cells #[.bool false, .bool false, .bool false, .bool false, .bool false, .bool false, .bool false] 58))
 rw [← hz] at P0
 go_upto_region 2 with (rw [← hz]; refine wpList_store_blk rfl 58 _ _ rfl rfl z #[.bool p0, .bool p1, .bool p2, .bool p3, .bool p4, .bool p5, .bool p6] _ 58 rfl rfl P0.out rfl (by kernel_rfl) (by simp [Value.oneCell']) ?_; intro v1 b1 o1)
 have BV := Lib.hid (show Below z w2 v1 from (O0.out.trans o1).below (by simp) (by rw [HZ.out]; exact Nat.le_refl _))
 replace X := Lib.hid (X.out.below BV.out hmz)
 replace B := Lib.hid (HTR.out _ _ B.out (by rw [← HZ.out]; exact BV.out))
 have T := Lib.hid b1
 clear BV b1 o1 O0 P0 hz
 cases p7 with
 | false =>
  obtain rfl : R = false := by rw [HR.out]; rfl
  go_wp2_with fail
  go_ret
  exact ⟨rfl, HTO.out _ B.out⟩
 | true =>
  have tb := T.out.cell 0
  simp only [List.getElem?_toArray, List.getElem?_cons_zero] at tb
  have a0 : v1.cell? ⟨m, 1, none⟩ = some (.int .i64 x.a.f.k) := (X.out.cell 1).trans (by rw [HCS.out]; rfl)
  have a1 : v1.cell? ⟨m, 2, none⟩ = some (.int .i64 x.a.f.n) := (X.out.cell 2).trans (by rw [HCS.out]; rfl)
  have a2 : v1.cell? ⟨m, 3, none⟩ = some (.int .i64 x.a.f.g) := (X.out.cell 3).trans (by rw [HCS.out]; rfl)
  have a3 : v1.cell? ⟨m, 4, none⟩ = some (.string x.a.f.nm) := (X.out.cell 4).trans (by rw [HCS.out]; rfl)
  have a4 : v1.cell? ⟨m, 5, none⟩ = some (.string x.a.f.fn) := (X.out.cell 5).trans (by rw [HCS.out]; rfl)
  have a5 : v1.cell? ⟨m, 6, none⟩ = some (.int .i64 x.a.f.ar) := (X.out.cell 6).trans (by rw [HCS.out]; rfl)
  have a6 : v1.cell? ⟨m, 7, none⟩ = some (x.a.v) := (X.out.cell 7).trans (by rw [HCS.out]; rfl)
  have a7 : v1.cell? ⟨m, 8, none⟩ = some (.string x.a.f.bs) := (X.out.cell 8).trans (by rw [HCS.out]; rfl)
  have a8 : v1.cell? ⟨m, 9, none⟩ = some (.int .i64 x.a.f.bt) := (X.out.cell 9).trans (by rw [HCS.out]; rfl)
  have CT1 := Lib.hid ((CT.out v1 (HTO.out _ B.out) p0 6).1)
  obtain ⟨g, hg⟩ : ∃ q, q = termB p0 s.fr 6 := ⟨_, rfl⟩
  rw [← hg] at CT1
  have HG0 := Lib.hid hg
  clear hg
  go_wp2_with fail
  refine CT1.out.mono ?_
  rintro e w30 ⟨rfl, bb⟩
  replace X := Lib.hid (X.out.below bb X.out.lt)
  replace T := Lib.hid (T.out.below bb T.out.lt)
  replace B := Lib.hid (HTR.out _ _ B.out bb)
  clear bb tb CT1 a0 a1 a2 a3 a4 a5 a6 a7 a8
  cases g with
  | false =>
   obtain rfl : R = false := by rw [HR.out, ← HG0.out]; simp
   go_wp2_with fail
   go_ret
   exact ⟨rfl, HTO.out _ B.out⟩
  | true =>
   have tb := T.out.cell 1
   simp only [List.getElem?_toArray, List.getElem?_cons_zero, List.getElem?_cons_succ] at tb
   have a0 : w30.cell? ⟨m, 10, none⟩ = some (.int .i64 x.b.f.k) := (X.out.cell 10).trans (by rw [HCS.out]; rfl)
   have a1 : w30.cell? ⟨m, 11, none⟩ = some (.int .i64 x.b.f.n) := (X.out.cell 11).trans (by rw [HCS.out]; rfl)
   have a2 : w30.cell? ⟨m, 12, none⟩ = some (.int .i64 x.b.f.g) := (X.out.cell 12).trans (by rw [HCS.out]; rfl)
   have a3 : w30.cell? ⟨m, 13, none⟩ = some (.string x.b.f.nm) := (X.out.cell 13).trans (by rw [HCS.out]; rfl)
   have a4 : w30.cell? ⟨m, 14, none⟩ = some (.string x.b.f.fn) := (X.out.cell 14).trans (by rw [HCS.out]; rfl)
   have a5 : w30.cell? ⟨m, 15, none⟩ = some (.int .i64 x.b.f.ar) := (X.out.cell 15).trans (by rw [HCS.out]; rfl)
   have a6 : w30.cell? ⟨m, 16, none⟩ = some (x.b.v) := (X.out.cell 16).trans (by rw [HCS.out]; rfl)
   have a7 : w30.cell? ⟨m, 17, none⟩ = some (.string x.b.f.bs) := (X.out.cell 17).trans (by rw [HCS.out]; rfl)
   have a8 : w30.cell? ⟨m, 18, none⟩ = some (.int .i64 x.b.f.bt) := (X.out.cell 18).trans (by rw [HCS.out]; rfl)
   have CT1 := Lib.hid ((CT.out w30 (HTO.out _ B.out) p1 6).2.1)
   obtain ⟨g, hg⟩ : ∃ q, q = termB p1 s.tt 6 := ⟨_, rfl⟩
   rw [← hg] at CT1
   have HG1 := Lib.hid hg
   clear hg
   go_wp2_with fail
   refine CT1.out.mono ?_
   rintro e w31 ⟨rfl, bb⟩
   replace X := Lib.hid (X.out.below bb X.out.lt)
   replace T := Lib.hid (T.out.below bb T.out.lt)
   replace B := Lib.hid (HTR.out _ _ B.out bb)
   clear bb tb CT1 a0 a1 a2 a3 a4 a5 a6 a7 a8
   cases g with
   | false =>
    obtain rfl : R = false := by rw [HR.out, ← HG0.out, ← HG1.out]; simp
    go_wp2_with fail
    go_ret
    exact ⟨rfl, HTO.out _ B.out⟩
   | true =>
    have tb := T.out.cell 2
    simp only [List.getElem?_toArray, List.getElem?_cons_zero, List.getElem?_cons_succ] at tb
    have a0 : w31.cell? ⟨m, 19, none⟩ = some (.string s.node) := (X.out.cell 19).trans (by rw [HCS.out]; rfl)
    have CN := Lib.hid (name65 p2 s.node w31)
    obtain ⟨g, hg⟩ : ∃ q, q = nameB p2 s.node := ⟨_, rfl⟩
    rw [← hg] at CN
    have HG2 := Lib.hid hg
    clear hg
    go_wp2_with fail
    refine CN.out.mono ?_
    rintro e w32 ⟨rfl, bb⟩
    replace X := Lib.hid (X.out.below bb X.out.lt)
    replace T := Lib.hid (T.out.below bb T.out.lt)
    replace B := Lib.hid (HTR.out _ _ B.out bb)
    clear bb tb CN a0
    cases g with
    | false =>
     obtain rfl : R = false := by rw [HR.out, ← HG0.out, ← HG1.out, ← HG2.out]; simp
     go_wp2_with fail
     go_ret
     exact ⟨rfl, HTO.out _ B.out⟩
    | true =>
     have tb := T.out.cell 3
     simp only [List.getElem?_toArray, List.getElem?_cons_zero, List.getElem?_cons_succ] at tb
     have a0 : w32.cell? ⟨m, 20, none⟩ = some (.string s.name) := (X.out.cell 20).trans (by rw [HCS.out]; rfl)
     have CN := Lib.hid (name65 p3 s.name w32)
     obtain ⟨g, hg⟩ : ∃ q, q = nameB p3 s.name := ⟨_, rfl⟩
     rw [← hg] at CN
     have HG3 := Lib.hid hg
     clear hg
     go_wp2_with fail
     refine CN.out.mono ?_
     rintro e w33 ⟨rfl, bb⟩
     replace X := Lib.hid (X.out.below bb X.out.lt)
     replace T := Lib.hid (T.out.below bb T.out.lt)
     replace B := Lib.hid (HTR.out _ _ B.out bb)
     clear bb tb CN a0
     cases g with
     | false =>
      obtain rfl : R = false := by rw [HR.out, ← HG0.out, ← HG1.out, ← HG2.out, ← HG3.out]; simp
      go_wp2_with fail
      go_ret
      exact ⟨rfl, HTO.out _ B.out⟩
     | true =>
      have tb := T.out.cell 4
      simp only [List.getElem?_toArray, List.getElem?_cons_zero, List.getElem?_cons_succ] at tb
      have a0 : w33.cell? ⟨m, 21, none⟩ = some (.int .i64 x.c.f.k) := (X.out.cell 21).trans (by rw [HCS.out]; rfl)
      have a1 : w33.cell? ⟨m, 22, none⟩ = some (.int .i64 x.c.f.n) := (X.out.cell 22).trans (by rw [HCS.out]; rfl)
      have a2 : w33.cell? ⟨m, 23, none⟩ = some (.int .i64 x.c.f.g) := (X.out.cell 23).trans (by rw [HCS.out]; rfl)
      have a3 : w33.cell? ⟨m, 24, none⟩ = some (.string x.c.f.nm) := (X.out.cell 24).trans (by rw [HCS.out]; rfl)
      have a4 : w33.cell? ⟨m, 25, none⟩ = some (.string x.c.f.fn) := (X.out.cell 25).trans (by rw [HCS.out]; rfl)
      have a5 : w33.cell? ⟨m, 26, none⟩ = some (.int .i64 x.c.f.ar) := (X.out.cell 26).trans (by rw [HCS.out]; rfl)
      have a6 : w33.cell? ⟨m, 27, none⟩ = some (x.c.v) := (X.out.cell 27).trans (by rw [HCS.out]; rfl)
      have a7 : w33.cell? ⟨m, 28, none⟩ = some (.string x.c.f.bs) := (X.out.cell 28).trans (by rw [HCS.out]; rfl)
      have a8 : w33.cell? ⟨m, 29, none⟩ = some (.int .i64 x.c.f.bt) := (X.out.cell 29).trans (by rw [HCS.out]; rfl)
      have CT1 := Lib.hid ((CT.out w33 (HTO.out _ B.out) p4 3).2.2.1)
      obtain ⟨g, hg⟩ : ∃ q, q = termB p4 s.ref 3 := ⟨_, rfl⟩
      rw [← hg] at CT1
      have HG4 := Lib.hid hg
      clear hg
      go_wp2_with fail
      refine CT1.out.mono ?_
      rintro e w34 ⟨rfl, bb⟩
      replace X := Lib.hid (X.out.below bb X.out.lt)
      replace T := Lib.hid (T.out.below bb T.out.lt)
      replace B := Lib.hid (HTR.out _ _ B.out bb)
      clear bb tb CT1 a0 a1 a2 a3 a4 a5 a6 a7 a8
      cases g with
      | false =>
       obtain rfl : R = false := by rw [HR.out, ← HG0.out, ← HG1.out, ← HG2.out, ← HG3.out, ← HG4.out]; simp
       go_wp2_with fail
       go_ret
       exact ⟨rfl, HTO.out _ B.out⟩
      | true =>
       have tb := T.out.cell 5
       simp only [List.getElem?_toArray, List.getElem?_cons_zero, List.getElem?_cons_succ] at tb
       have an : w34.cell? ⟨m, 30, none⟩ = some (.int .i64 s.num) := (X.out.cell 30).trans (by rw [HCS.out]; rfl)
       cases p5 with
       | true =>
        by_cases hn : 1 ≤ s.num
        ·
         have HG5 : Hid (true = numB true s.num) := Lib.hid (by simp [numB, hn])
         have tb6 := T.out.cell 6
         simp only [List.getElem?_toArray, List.getElem?_cons_zero, List.getElem?_cons_succ] at tb6
         have a0 : w34.cell? ⟨m, 31, none⟩ = some (.int .i64 x.d.f.k) := (X.out.cell 31).trans (by rw [HCS.out]; rfl)
         have a1 : w34.cell? ⟨m, 32, none⟩ = some (.int .i64 x.d.f.n) := (X.out.cell 32).trans (by rw [HCS.out]; rfl)
         have a2 : w34.cell? ⟨m, 33, none⟩ = some (.int .i64 x.d.f.g) := (X.out.cell 33).trans (by rw [HCS.out]; rfl)
         have a3 : w34.cell? ⟨m, 34, none⟩ = some (.string x.d.f.nm) := (X.out.cell 34).trans (by rw [HCS.out]; rfl)
         have a4 : w34.cell? ⟨m, 35, none⟩ = some (.string x.d.f.fn) := (X.out.cell 35).trans (by rw [HCS.out]; rfl)
         have a5 : w34.cell? ⟨m, 36, none⟩ = some (.int .i64 x.d.f.ar) := (X.out.cell 36).trans (by rw [HCS.out]; rfl)
         have a6 : w34.cell? ⟨m, 37, none⟩ = some (x.d.v) := (X.out.cell 37).trans (by rw [HCS.out]; rfl)
         have a7 : w34.cell? ⟨m, 38, none⟩ = some (.string x.d.f.bs) := (X.out.cell 38).trans (by rw [HCS.out]; rfl)
         have a8 : w34.cell? ⟨m, 39, none⟩ = some (.int .i64 x.d.f.bt) := (X.out.cell 39).trans (by rw [HCS.out]; rfl)
         have CT1 := Lib.hid ((CT.out w34 (HTO.out _ B.out) p6 0).2.2.2)
         obtain ⟨g, hg⟩ : ∃ q, q = termB p6 s.val 0 := ⟨_, rfl⟩
         rw [← hg] at CT1
         have HG6 := Lib.hid hg
         clear hg
         go_wp2_with fail
         refine CT1.out.mono ?_
         rintro e w36 ⟨rfl, bb⟩
         replace X := Lib.hid (X.out.below bb X.out.lt)
         replace T := Lib.hid (T.out.below bb T.out.lt)
         replace B := Lib.hid (HTR.out _ _ B.out bb)
         clear bb tb6 CT1 a0 a1 a2 a3 a4 a5 a6 a7 a8
         cases g with
         | false =>
          obtain rfl : R = false := by rw [HR.out, ← HG6.out]; simp
          go_wp2_with fail
          go_ret
          exact ⟨rfl, HTO.out _ B.out⟩
         | true =>
          obtain rfl : R = true := by rw [HR.out, ← HG0.out, ← HG1.out, ← HG2.out, ← HG3.out, ← HG4.out, ← HG5.out, ← HG6.out]; rfl
          go_wp2_with fail
          go_ret
          exact ⟨rfl, HTO.out _ B.out⟩
        ·
         have HG5 : Hid (false = numB true s.num) := Lib.hid (by simp [numB, hn])
         obtain rfl : R = false := by rw [HR.out, ← HG0.out, ← HG1.out, ← HG2.out, ← HG3.out, ← HG4.out, ← HG5.out]; simp
         go_wp2_with fail
         go_ret
         exact ⟨rfl, HTO.out _ B.out⟩
       | false =>
        by_cases hn : s.num = 0
        ·
         have HG5 : Hid (true = numB false s.num) := Lib.hid (by simp [numB, hn])
         rw [hn] at an
         have tb6 := T.out.cell 6
         simp only [List.getElem?_toArray, List.getElem?_cons_zero, List.getElem?_cons_succ] at tb6
         have a0 : w34.cell? ⟨m, 31, none⟩ = some (.int .i64 x.d.f.k) := (X.out.cell 31).trans (by rw [HCS.out]; rfl)
         have a1 : w34.cell? ⟨m, 32, none⟩ = some (.int .i64 x.d.f.n) := (X.out.cell 32).trans (by rw [HCS.out]; rfl)
         have a2 : w34.cell? ⟨m, 33, none⟩ = some (.int .i64 x.d.f.g) := (X.out.cell 33).trans (by rw [HCS.out]; rfl)
         have a3 : w34.cell? ⟨m, 34, none⟩ = some (.string x.d.f.nm) := (X.out.cell 34).trans (by rw [HCS.out]; rfl)
         have a4 : w34.cell? ⟨m, 35, none⟩ = some (.string x.d.f.fn) := (X.out.cell 35).trans (by rw [HCS.out]; rfl)
         have a5 : w34.cell? ⟨m, 36, none⟩ = some (.int .i64 x.d.f.ar) := (X.out.cell 36).trans (by rw [HCS.out]; rfl)
         have a6 : w34.cell? ⟨m, 37, none⟩ = some (x.d.v) := (X.out.cell 37).trans (by rw [HCS.out]; rfl)
         have a7 : w34.cell? ⟨m, 38, none⟩ = some (.string x.d.f.bs) := (X.out.cell 38).trans (by rw [HCS.out]; rfl)
         have a8 : w34.cell? ⟨m, 39, none⟩ = some (.int .i64 x.d.f.bt) := (X.out.cell 39).trans (by rw [HCS.out]; rfl)
         have CT1 := Lib.hid ((CT.out w34 (HTO.out _ B.out) p6 0).2.2.2)
         obtain ⟨g, hg⟩ : ∃ q, q = termB p6 s.val 0 := ⟨_, rfl⟩
         rw [← hg] at CT1
         have HG6 := Lib.hid hg
         clear hg
         go_wp2_with fail
         refine CT1.out.mono ?_
         rintro e w36 ⟨rfl, bb⟩
         replace X := Lib.hid (X.out.below bb X.out.lt)
         replace T := Lib.hid (T.out.below bb T.out.lt)
         replace B := Lib.hid (HTR.out _ _ B.out bb)
         clear bb tb6 CT1 a0 a1 a2 a3 a4 a5 a6 a7 a8
         cases g with
         | false =>
          obtain rfl : R = false := by rw [HR.out, ← HG6.out]; simp
          go_wp2_with fail
          go_ret
          exact ⟨rfl, HTO.out _ B.out⟩
         | true =>
          obtain rfl : R = true := by rw [HR.out, ← HG0.out, ← HG1.out, ← HG2.out, ← HG3.out, ← HG4.out, ← HG5.out, ← HG6.out]; rfl
          go_wp2_with fail
          go_ret
          exact ⟨rfl, HTO.out _ B.out⟩
        ·
         have HG5 : Hid (false = numB false s.num) := Lib.hid (by simp [numB, hn])
         have en : (s.num == 0) = false := by rw [beq_eq_false_iff_ne]; exact hn
         obtain rfl : R = false := by rw [HR.out, ← HG0.out, ← HG1.out, ← HG2.out, ← HG3.out, ← HG4.out, ← HG5.out]; simp
         go_wp2_with fail
         go_ret
         exact ⟨rfl, HTO.out _ B.out⟩
end Go.Proofs.YtemlogadbopffaaGreat
