/- PeersX: a part of the proof. No condition beyond the premises of each theorem. -/
import Derived.Test.YtoaimoemaoinhaaGreatDoorQd10
import Derived.Test.YtoaimoemaoinhaaGreatDoorQd25
namespace Go.Proofs.YtoaimoemaoinhaaGreatDoor
open Go.RowKit Go.Rt Go.Rw
theorem TmAt.old2 {S : Nat → Prop} {w : World} {t : Tm} {x : Ft} (h : TmAt S w t x) : TmAt (fun b => b < w.heap.size) w t x := h.map (Nat.le_refl _) (fun _ _ _ => rfl) (fun _ _ h => h)
def encP (u : Int) (s : Sg) : Nat → List UInt8
 | 0 => [UInt8.ofNat (s.k % 256).toNat]
 | i + 1 => encP u s i ++ (if hasU u i then codeT (fldT s i) else [])
def bytesB (l : List UInt8) : ByteArray := ⟨l.toArray⟩
def encB (s : Sg) : ByteArray := if validS s then bytesB (encP (usesF s.k) s 7) else ⟨#[]⟩
def encE (s : Sg) : Int := if validS s then 0 else 2
structure FitE (s : Sg) : Prop where
 fr : okT s.fr
 tt : okT s.tt
 ref : okT s.ref
 val : okT s.val
 node : s.node.size ≤ 200000
 name : s.name.size ≤ 200000
 num : -9223372036854775808 ≤ s.num ∧ s.num ≤ 9223372036854775807
theorem FitE.fit {s : Sg} (h : FitE s) : FitS s := ⟨⟨fitW_of _ h.fr.1, h.fr.bulk⟩, ⟨fitW_of _ h.tt.1, h.tt.bulk⟩, ⟨fitW_of _ h.ref.1, h.ref.bulk⟩, ⟨fitW_of _ h.val.1, h.val.bulk⟩, h.num⟩
theorem ok_atom {s : ByteArray} (h : s.size ≤ 200000) : okT (atmT s) := ⟨fitT_atom h, by unfold atmT; simp [cnt, cntL]⟩
theorem ok_int {n : Int} (h : -9223372036854775808 ≤ n ∧ n ≤ 9223372036854775807) : okT (nmbT n) := ⟨fitT_int h, by unfold nmbT; simp [cnt, cntL]⟩
theorem allFld_get {u : Int} {s : Sg} {i : Nat} (h : allFld u s 7 = true) (hi : i < 7) (h1 : hasU u i = true) : okFld s i = true := by
 cases hq : okFld s i with
 | true => rfl
 | false => rw [allFld_no hi h1 hq] at h; cases h
theorem okFld_valid {s : Sg} {i : Nat} (h : okFld s i = true) : validB (fldT s i) = true := by
 unfold okFld at h
 rw [Bool.and_eq_true] at h
 exact h.1
theorem put_tail {t : Tm} (h : validB t = true) : (putS t).extract 1 (putS t).size = bytesB (codeT t) := by
 apply bytes_list
 rw [ByteArray.data_extract]
 have e := putS_list h
 have hs : (putS t).size = (codeT t).length + 1 := by rw [size_list, e, List.length_cons]
 rw [Array.toList_extract, e, hs]
 simp [bytesB, List.extract]
theorem bytes_app (a b : List UInt8) : bytesB a ++ bytesB b = bytesB (a ++ b) := by
 apply ByteArray.ext
 rw [ByteArray.data_append]
 simp [bytesB]
theorem FitE.fld {s : Sg} (h : FitE s) (i : Nat) : okT (fldT s i) := by
 unfold fldT
 split
 ·
  exact h.fr
 ·
  exact h.tt
 ·
  exact ok_atom h.node
 ·
  exact ok_atom h.name
 ·
  exact h.ref
 ·
  exact ok_int h.num
 ·
  exact h.val
set_option maxRecDepth 100000 in
set_option maxHeartbeats 8000000 in
theorem pencode8 (S : Nat → Prop) (s : Sg) (x : Sf) (w : World) (h : SgAt S w s x) (hfit : FitE s) (hk : -9223372036854775808 ≤ s.k ∧ s.k ≤ 9223372036854775807) : Calls Tryz.prog 25 #[sgV s x] w fun e w' => e = .returned (.tuple #[.string (encB s), .int .i64 (encE s)]) ∧ Below w.heap.size w w' := by
 obtain ⟨EBB, hEBB⟩ : ∃ q, q = encB s := ⟨_, rfl⟩
 obtain ⟨EEE, hEEE⟩ : ∃ q, q = encE s := ⟨_, rfl⟩
 rw [← hEBB, ← hEEE]
 have HEB := Lib.hid hEBB
 have HEE := Lib.hid hEEE
 clear hEBB hEEE
 obtain ⟨u, hu⟩ : ∃ u, u = usesF s.k := ⟨_, rfl⟩
 have HUS := Lib.hid hu
 have CU := Lib.hid (fun (W : World) => uses21 s.k W)
 rw [← hu] at CU
 have HS := Lib.hid h
 have HF := Lib.hid hfit
 have HK := Lib.hid hk
 obtain ⟨CS, hCS⟩ : ∃ q, q = (sgC s x).toArray := ⟨_, rfl⟩
 have HSV : Hid (sgV s x = .agg CS) := Lib.hid (by rw [hCS]; rfl)
 have HSZ : Hid (CS.size = 40) := Lib.hid (by rw [hCS]; rfl)
 have HC0 : Hid (CS[0]? = some (.int .i64 s.k)) := Lib.hid (by rw [hCS]; rfl)
 have CV := Lib.hid (fun (W : World) (hW : Below w.heap.size w W) => pvalid19 S s x W (h.below hW (fun b _ h => h)) hfit.fit)
 rw [HSV.out] at CV ⊢
 clear hu h hfit hCS hk
 obtain ⟨m, hm⟩ : ∃ q, q = w.heap.size := ⟨_, rfl⟩
 have HM := Lib.hid hm
 have X := Lib.hid (Blk.new w 50 CS)
 have B := Lib.hid ((Below.refl w.heap.size w).alloc (Nat.le_refl _) (.cells CS 50))
 have CVV := Lib.hid (CV.out _ B.out)
 rw [← hm] at X B
 have HTR : Hid (∀ W W', Below m w W → Below W.heap.size W W' → Below m w W') := Lib.hid (fun W W' h1 h2 => h1.trans (h2.mono (by have := h1.size; have := HM.out; omega)))
 go_enter Tryz.func25, Tryz.ntmps25
 go_upto_region 1 with fail
 rw [← hm]
 generalize w.alloc (.cells CS 50) = w1 at X B CVV ⊢
 clear hm CV
 obtain ⟨vb, hvb⟩ : ∃ q, q = validS s := ⟨_, rfl⟩
 rw [← hvb] at CVV
 have HVB := Lib.hid hvb.symm
 clear hvb
 go_wp2_with (refine wpList_load_blk rfl 50 _ rfl m rfl _ 50 _ X.out Tryz.underlying50 rfl (by rw [HSZ.out]; exact info26) ?_)
 refine CVV.out.mono ?_
 rintro e w2 ⟨rfl, b2⟩
 replace X := Lib.hid (X.out.below b2 X.out.lt)
 replace B := Lib.hid (HTR.out _ _ B.out b2)
 clear b2 CVV
 cases vb with
 | false =>
  obtain rfl : EBB = ⟨#[]⟩ := by rw [HEB.out]; unfold encB; rw [HVB.out]; rfl
  obtain rfl : EEE = 2 := by rw [HEE.out]; unfold encE; rw [HVB.out]; rfl
  go_wp2_with fail
  exact bodyPost_ret (results_s2 (a := 2) (b := 3) rfl _ _ _ _ rfl rfl) rfl ⟨rfl, by rw [← HM.out]; exact B.out⟩
 | true =>
  have HR1 : Hid (EBB = bytesB (encP u s 7)) := Lib.hid (by rw [HEB.out]; unfold encB; rw [HVB.out, HUS.out]; rfl)
  obtain rfl : EEE = 0 := by rw [HEE.out]; unfold encE; rw [HVB.out]; rfl
  have HAL : Hid (allFld u s 7 = true) := Lib.hid (by
   have := HVB.out
   unfold validS at this
   rw [Bool.and_eq_true, Bool.and_eq_true, ← HUS.out] at this
   exact this.2.1)
  have q0 : w2.cell? ⟨m, 0, none⟩ = some (.int .i64 s.k) := (X.out.cell 0).trans HC0.out
  have HRC : Hid ((convert 124 9 (.slice (some ⟨w2.heap.size, 0, none⟩) 1 1)).run Tryz.prog (w2.alloc (.cells #[.int .u8 (s.k % 256)] 5)) = .ok (.string (bytesB (encP u s 0))) (w2.alloc (.cells #[.int .u8 (s.k % 256)] 5))) := Lib.hid (by
   refine run_convert_bytes_back _ 124 9 5 ⟨w2.heap.size, 0, none⟩ 1 [UInt8.ofNat (s.k % 256).toNat] Tryz.underlying124 Tryz.underlying5 Tryz.underlying9 ?_
   intro j hj
   obtain rfl : j = 0 := by simpa using hj
   have := (Blk.new w2 5 #[.int .u8 (s.k % 256)]).cell 0
   simp only [List.getElem_cons_zero]
   have e : ((UInt8.ofNat (s.k % 256).toNat).toNat : Int) = s.k % 256 := by
    rw [UInt8.toNat_ofNat']
    omega
   rw [e, add_none]
   exact this)
  replace X := Lib.hid (X.out.alloc (.cells #[.int .u8 (s.k % 256)] 5))
  replace B := Lib.hid (HTR.out _ _ B.out ((Below.refl w2.heap.size w2).alloc (Nat.le_refl _) (.cells #[.int .u8 (s.k % 256)] 5)))
  go_upto_region 4 with (refine wpList_conv_run rfl 124 9 _ rfl rfl HRC.out ?_)
  generalize w2.alloc (.cells #[.int .u8 (s.k % 256)] 5) = w3 at X B ⊢
  clear q0 HRC
  have CF := Lib.hid (fields20 w3)
  go_wp2_with fail
  refine CF.out.mono ?_
  rintro e w4 ⟨rfl, hw4⟩
  obtain ⟨mf, hmf⟩ : ∃ q, q = w3.heap.size := ⟨_, rfl⟩
  have hmf2 : m < mf := by rw [hmf]; exact X.out.lt
  have Fk := Lib.hid (Blk.new w3 131 fldC)
  replace X := Lib.hid (X.out.alloc (.cells fldC 131))
  replace B := Lib.hid (HTR.out _ _ B.out ((Below.refl w3.heap.size w3).alloc (Nat.le_refl _) (.cells fldC 131)))
  rw [← hw4] at X B Fk
  rw [← hmf] at Fk ⊢
  clear hw4 hmf CF
  obtain ⟨OUT0, hO0⟩ : ∃ q, q = bytesB (encP u s 0) := ⟨_, rfl⟩
  rw [← hO0]
  have HO0 := Lib.hid hO0
  have hs0 : OUT0.size = 1 := by rw [hO0]; rfl
  clear hO0
  go_wp2_with fail
  go_loopw [4, 19] (fun z4 z wr => ∃ (i : Nat) (OUT : ByteArray), i ≤ 7 ∧ z = .int .i64 (i : Int) ∧ z4 = .string OUT ∧ OUT.size ≤ 1 + 200000 * i ∧ Hid (OUT = bytesB (encP u s i)) ∧ Hid (Blk wr m 50 CS) ∧ Hid (Blk wr mf 131 fldC) ∧ Hid (Below m w wr)) (fun _ z _ => 7 - (intOf z).toNat)
  case atStart => exact ⟨0, OUT0, by omega, rfl, rfl, by omega, HO0, X, Fk, B⟩
  case round =>
   obtain ⟨i, OUT, hi, rfl, rfl, hos, HE, X1, F1, B1⟩ := hrel
   clear X Fk B HO0 hs0
   by_cases h7 : i = 7
   ·
    subst h7
    obtain rfl : EBB = OUT := by rw [HR1.out, HE.out]
    go_wp2_with fail
    exact bodyPost_ret (results_s2 (a := 2) (b := 3) rfl _ _ _ _ rfl rfl) rfl ⟨rfl, by rw [← HM.out]; exact B1.out⟩
   ·
    have hlt7 : i < 7 := by omega
    obtain ⟨g0, g1, g2, g3⟩ := fld_cells hlt7
    have f0 := (F1.out.cell (i * 4)).trans g0
    have f1 := (F1.out.cell (i * 4 + 1)).trans g1
    have f2 := (F1.out.cell (i * 4 + 2)).trans g2
    have f3 := (F1.out.cell (i * 4 + 3)).trans g3
    have eG := get_enter hlt7
    have CGET := Lib.hid (fun (W : World) (h : SgAt S W s x) => get_any hlt7 S s x W h)
    have HUB : Hid (hasU u i = !(bits BinOp.and IntKind.i64 u (fldB i) == 0)) := Lib.hid rfl
    have HOK := Lib.hid (HF.out.fld i)
    have HEN : Hid (encP u s (i + 1) = encP u s i ++ (if hasU u i then codeT (fldT s i) else [])) := Lib.hid rfl
    obtain ⟨bit, hbit⟩ : ∃ q, q = fldB i := ⟨_, rfl⟩
    obtain ⟨kd, hkd⟩ : ∃ q, q = fldK i := ⟨_, rfl⟩
    obtain ⟨gf, hgf⟩ : ∃ q, q = getN i := ⟨_, rfl⟩
    obtain ⟨sf, hsf⟩ : ∃ q, q = setN i := ⟨_, rfl⟩
    rw [← hbit] at f0 HUB
    rw [← hkd] at f1
    rw [← hgf] at f2 eG CGET
    rw [← hsf] at f3
    clear g0 g1 g2 g3 hbit hkd hgf hsf
    obtain ⟨z, hz⟩ : ∃ q, q = wr.heap.size := ⟨_, rfl⟩
    have HZ := Lib.hid hz
    have hzx : m < z := by rw [hz]; exact X1.out.lt
    have hzf : mf < z := by rw [hz]; exact F1.out.lt
    have X0 := Lib.hid (Blk.new wr 131 #[.int .i64 0, .int .i64 0, .nilFunc, .nilFunc])
    have O0 := Lib.hid (Only.alloc [z] wr (.cells #[.int .i64 0, .int .i64 0, .nilFunc, .nilFunc] 131))
    rw [← hz] at X0
    go_upto_region 7 with (rw [← hz]; refine wpList_store_blk rfl 131 _ _ rfl rfl z #[.int .i64 bit, .int .i64 kd, .func (.func gf) #[] #[], .func (.func sf) #[] #[]] _ 131 rfl rfl X0.out rfl info54 (by simp [Value.oneCell']) ?_; intro v1 b1 o1)
    have BV := Lib.hid (show Below z wr v1 from (O0.out.trans o1).below (by simp) (by rw [HZ.out]; exact Nat.le_refl _))
    have X2 := Lib.hid (X1.out.below BV.out hzx)
    have F2 := Lib.hid (F1.out.below BV.out hzf)
    have B2 := Lib.hid (HTR.out _ _ B1.out (by rw [← HZ.out]; exact BV.out))
    have T2 := Lib.hid b1
    clear f0 f1 f2 f3 X0 O0 b1 o1 X1 F1 B1 BV hz
    refine wp_region_held_drew (S := (fun w' => Blk w' m 50 CS ∧ Blk w' z 131 #[.int .i64 bit, .int .i64 kd, .func (.func gf) #[] #[], .func (.func sf) #[] #[]])) (by kernel_rfl) (⟨X2.out.drew, T2.out.drew⟩) (fun hS => ?_)
    have F3 := Lib.hid F2.out.drew
    have B3 := Lib.hid B2.out.drew
    have X3 := Lib.hid X2.out.drew
    have T3 := Lib.hid T2.out.drew
    clear X2 T2 F2 B2
    generalize v1.drew = w0 at *
    refine tl 0 23 (v := ?_) rfl ?_ ?_
    rotate_left
    ·
     intro w hSw
     go_simp
     with_reducible rfl
    simp only [Act.put, List.setIfInBounds_toArray, List.set_cons_zero, List.set_cons_succ]
    refine tl 1 24 (v := ?_) rfl ?_ ?_
    rotate_left
    ·
     intro w hSw
     have cc := (hSw.1.cell 0).trans HC0.out
     go_simp
     with_reducible rfl
    simp only [Act.put, List.setIfInBounds_toArray, List.set_cons_zero, List.set_cons_succ]
    refine tl 3 26 (v := ?_) rfl ?_ ?_
    rotate_left
    ·
     intro w hSw
     go_simp
     with_reducible rfl
    simp only [Act.put, List.setIfInBounds_toArray, List.set_cons_zero, List.set_cons_succ]
    refine tl 4 27 (v := ?_) rfl ?_ ?_
    rotate_left
    ·
     intro w hSw
     have cc := hSw.2.cell 0
     simp only [List.getElem?_toArray, List.getElem?_cons_zero] at cc
     go_simp
     with_reducible rfl
    simp only [Act.put, List.setIfInBounds_toArray, List.set_cons_zero, List.set_cons_succ]
    refine wpAnyH_ready (rs := [2]) (by kernel_rfl) (by simp) ?_
    refine AllReadyH.cons rfl (fun K hK => ?_) AllReadyH.nil
    go_simp
    refine (CU.out w0).mono ?_
    rintro e w5 ⟨rfl, b5⟩
    have F2 := Lib.hid (F3.out.below b5 F3.out.lt)
    have B2 := Lib.hid (HTR.out _ _ B3.out b5)
    have X2 := Lib.hid (X3.out.below b5 X3.out.lt)
    have T2 := Lib.hid (T3.out.below b5 T3.out.lt)
    clear b5 F3 B3 X3 T3
    go_wp2_with fail
    refine hK.out _ _ (⟨X2.out, T2.out⟩) (fun hS => ?_)
    clear hK K
    try simp only [Act.put, List.setIfInBounds_toArray, List.set_cons_zero, List.set_cons_succ]
    obtain ⟨hb, hhb⟩ : ∃ q, q = (bits BinOp.and IntKind.i64 u bit == 0) := ⟨_, rfl⟩
    have hbe : (bits BinOp.and IntKind.i64 u bit != 0) = !hb := by rw [hhb]; rfl
    have HU : Hid (hasU u i = !hb) := Lib.hid (by rw [HUB.out, hhb])
    clear hhb
    refine tl 5 28 (v := ?_) rfl ?_ ?_
    rotate_left
    ·
     intro w hSw
     go_simp
     with_reducible rfl
    simp only [Act.put, List.setIfInBounds_toArray, List.set_cons_zero, List.set_cons_succ]
    refine tl 6 29 (v := ?_) rfl ?_ ?_
    rotate_left
    ·
     intro w hSw
     go_simp
     with_reducible rfl
    simp only [Act.put, List.setIfInBounds_toArray, List.set_cons_zero, List.set_cons_succ]
    refine wpAnyH_done (by kernel_rfl) ?_ _
    cases hb with
    | true =>
     have HE2 : Hid (OUT = bytesB (encP u s (i + 1))) := Lib.hid (by rw [HE.out, HEN.out, HU.out]; simp)
     clear HE
     go_wp2_with fail
     go_roundw
     case rel => exact ⟨i + 1, OUT, by omega, by go_num, rfl, by omega, HE2, X2, F2, B2⟩
     case measure => simp [intOf]; omega
    | false =>
     have HSv := Lib.hid (HS.out.below (show Below w.heap.size w w5 by rw [← HM.out]; exact B2.out) (fun b _ h => h))
     have CG := Lib.hid (CGET.out w5 HSv.out)
     have TY := Lib.hid (fld_at HSv.out i)
     have hvb := okFld_valid (allFld_get HAL.out (i := i) (by omega) HU.out)
     have HPN : Hid (OUT ++ bytesB (codeT (fldT s i)) = bytesB (encP u s (i + 1))) := Lib.hid (by rw [HE.out, bytes_app, HEN.out, HU.out]; rfl)
     have HTA := Lib.hid (fun (W : World) (h : SgAt S W s x) => (fld_at h i).old2)
     rw [HSV.out] at CG
     obtain ⟨ft, hft⟩ : ∃ q, q = fldT s i := ⟨_, rfl⟩
     obtain ⟨y, hy⟩ : ∃ q, q = getX s x i := ⟨_, rfl⟩
     rw [← hft] at TY HOK hvb HPN HTA
     rw [← hy] at TY CG HTA
     clear hft hy HSv CGET
     obtain ⟨_, sy, cy, vy⟩ := TY.out.its.2.form
     obtain ⟨yf, yv⟩ := y
     dsimp only at vy
     subst vy
     obtain ⟨ly, hly⟩ : ∃ l, l = ft.l.length := ⟨_, rfl⟩
     rw [← hly] at CG HTA
     clear hly TY
     unfold ftV at CG
     dsimp only at CG
     have c2 := T2.out.cell 2
     simp only [List.getElem?_toArray, List.getElem?_cons_zero, List.getElem?_cons_succ] at c2
     go_wp2_with (refine wpList_load_blk rfl 50 _ rfl m rfl _ 50 _ X2.out Tryz.underlying50 rfl (by rw [HSZ.out]; exact info26) ?_)
     refine CG.out.mono ?_
     rintro e v2 ⟨rfl, b2⟩
     replace X2 := Lib.hid (X2.out.below b2 X2.out.lt)
     replace F2 := Lib.hid (F2.out.below b2 F2.out.lt)
     replace B2 := Lib.hid (HTR.out _ _ B2.out b2)
     clear b2 CG c2 T2
     have HSV3 := Lib.hid (HS.out.below (show Below w.heap.size w v2 by rw [← HM.out]; exact B2.out) (fun b _ h => h))
     have CP := Lib.hid (put_any ft ⟨yf, .slice sy ly cy⟩ v2 (HTA.out v2 HSV3.out) HOK.out)
     unfold ftV at CP
     dsimp only at CP
     obtain ⟨hp1, hp2⟩ := putS_short hvb HOK.out.1
     have hpt := put_tail hvb
     obtain ⟨PS, hPS⟩ : ∃ q, q = putS ft := ⟨_, rfl⟩
     rw [← hPS] at CP hp1 hp2 hpt
     have hps1 : 1 ≤ PS.size := by omega
     have hes : OUT.size + (PS.size - 1) ≤ 10000000 := by omega
     have HE2 : Hid (OUT ++ PS.extract 1 PS.size = bytesB (encP u s (i + 1))) := Lib.hid (by rw [hpt]; exact HPN.out)
     clear HE hPS hvb HSV3 hpt hp1 HPN
     go_wp2_with fail
     refine CP.out.mono ?_
     rintro e v3 ⟨rfl, b3⟩
     replace X2 := Lib.hid (X2.out.below b3 X2.out.lt)
     replace F2 := Lib.hid (F2.out.below b3 F2.out.lt)
     replace B2 := Lib.hid (HTR.out _ _ B2.out b3)
     clear b3 CP
     go_wp2_with fail
     go_roundw
     case rel => exact ⟨i + 1, _, by omega, by go_num, rfl, by rw [ByteArray.size_append, ByteArray.size_extract]; omega, HE2, X2, F2, B2⟩
     case measure => simp [intOf]; omega
def zeroSg : Sg := ⟨0, zerT, zerT, noB, noB, zerT, 0, zerT⟩
def decL (u : Int) : List Nat → Sg → ByteArray → Option (Sg × ByteArray)
 | [], s, b => some (s, b)
 | i :: r, s, b =>
  if hasU u i then
   if (takeF b).2.2 ≠ 0 ∨ (fldK i ≠ 0 ∧ (takeF b).1.f.k ≠ fldK i) then none
   else decL u r (setF s (takeF b).1 i) (b.extract (takeF b).2.1 b.size)
  else decL u r s b
def decS (b : ByteArray) : Option Sg :=
 if b.size = 0 then none else
 let k : Int := (b.data[0]?.getD 0).toNat
 match decL (usesF k) [0, 1, 2, 3, 4, 5, 6] { zeroSg with k := k } (b.extract 1 b.size) with
 | none => none
 | some (s, r) => if r.size = 0 ∧ validS s = true then some s else none
theorem decL_no {u : Int} {i : Nat} (r : List Nat) (s : Sg) (b : ByteArray) (h : hasU u i = false) : decL u (i :: r) s b = decL u r s b := by
 rw [decL, if_neg (by rw [h]; decide)]
theorem decL_bad {u : Int} {i : Nat} (r : List Nat) (s : Sg) (b : ByteArray) (h : hasU u i = true) (hb : (takeF b).2.2 ≠ 0 ∨ (fldK i ≠ 0 ∧ (takeF b).1.f.k ≠ fldK i)) : decL u (i :: r) s b = none := by
 rw [decL, if_pos h, if_pos hb]
theorem decL_yes {u : Int} {i : Nat} (r : List Nat) (s : Sg) (b : ByteArray) (h : hasU u i = true) (hb : ¬ ((takeF b).2.2 ≠ 0 ∨ (fldK i ≠ 0 ∧ (takeF b).1.f.k ≠ fldK i))) : decL u (i :: r) s b = decL u r (setF s (takeF b).1 i) (b.extract (takeF b).2.1 b.size) := by
 rw [decL, if_pos h, if_neg hb]
end Go.Proofs.YtoaimoemaoinhaaGreatDoor
