/- The walk of PeersRound. -/
import Derived.Test.YtemlogadbopffaaGreatAg1
import Derived.Test.YtemlogadbopffaaGreatEncp
import Derived.Test.YtemlogadbopffaaGreatSh1
namespace Go.Proofs.YtemlogadbopffaaGreat
open Go.RowKit Go.Rt Go.Rw

def drO (d : Option Sg) : Sg × Int := match d with
  | none => (zeroSg, 6)
  | some s => (s, 0)
theorem encE_or (s : Sg) : encE s = 0 ∨ encE s = 2 := by
  unfold encE
  split
  · exact .inl rfl
  · exact .inr rfl
theorem encE_zero {s : Sg} (h : encE s = 0) : validS s = true := by
  cases hv : validS s with
  | true => rfl
  | false => unfold encE at h; rw [hv] at h; cases h
theorem encT_len {u : Int} {s : Sg} (hf : FitE s) (hall : allFld u s 7 = true) : ∀ l : List Nat, (∀ i ∈ l, i < 7) → l.Nodup → (encT u s l).length ≤ 160000 * (if 6 ∈ l then 1 else 0) + 100 * l.length
  | [], _, _ => by simp [encT]
  | i :: r, h, hn => by
    obtain ⟨hni, hnr⟩ := List.nodup_cons.1 hn
    have ih := encT_len hf hall r (fun j hj => h j (List.mem_cons_of_mem _ hj)) hnr
    have hi := h i List.mem_cons_self
    rw [encT, List.length_append, List.length_cons]
    cases hu : hasU u i with
    | false =>
      simp only [Bool.false_eq_true, ↓reduceIte, List.length_nil, Nat.zero_add]
      by_cases h6 : 6 ∈ r
      · rw [if_pos h6] at ih
        rw [if_pos (List.mem_cons_of_mem _ h6)]
        omega
      · rw [if_neg h6] at ih
        split <;> omega
    | true =>
      have hok := allFld_get hall hi hu
      have hv := okFld_valid hok
      obtain ⟨hf1, hz⟩ := validB_iff hv
      have hc := code_short _ hf1 (hf.fld i).1
      simp only [↓reduceIte]
      by_cases h6 : i = 6
      · subst h6
        rw [if_neg hni] at ih
        rw [if_pos List.mem_cons_self]
        omega
      · have hs1 : sizeT (fldT s i) = 1 := by
          unfold okFld at hok
          simp only [Bool.and_eq_true, Bool.or_eq_true, decide_eq_true_eq] at hok
          have hk := hok.2.1
          have hq : fldK i ≠ 0 := by
            rcases (show i = 0 ∨ i = 1 ∨ i = 2 ∨ i = 3 ∨ i = 4 ∨ i = 5 by omega) with rfl | rfl | rfl | rfl | rfl | rfl <;> decide
          have hk2 := hk.resolve_left hq
          have hk3 : (fldT s i).f.k = 6 ∨ (fldT s i).f.k = 2 ∨ (fldT s i).f.k = 3 ∨ (fldT s i).f.k = 1 := by
            rw [hk2]
            rcases (show i = 0 ∨ i = 1 ∨ i = 2 ∨ i = 3 ∨ i = 4 ∨ i = 5 by omega) with rfl | rfl | rfl | rfl | rfl | rfl <;> decide
          generalize fldT s i = q at hk3 hf1
          obtain ⟨f, l⟩ := q
          rw [formed, Bool.and_eq_true] at hf1
          have sh := shape hf1.1
          change f.k = 6 ∨ f.k = 2 ∨ f.k = 3 ∨ f.k = 1 at hk3
          cases sh <;> first | rfl | (exfalso; simp at hk3)
        rw [hs1] at hc
        by_cases h6r : 6 ∈ r
        · rw [if_pos h6r] at ih
          rw [if_pos (List.mem_cons_of_mem _ h6r)]
          omega
        · rw [if_neg h6r] at ih
          split <;> omega
theorem encB_short {s : Sg} (hf : FitE s) (hv : validS s = true) : (encB s).size ≤ 200000 := by
  rw [encB_valid hv, bytesB_size, List.length_cons]
  have := encT_len hf (validS_iff hv).2.1 [0, 1, 2, 3, 4, 5, 6] (by decide) (by decide)
  simp at this
  omega
set_option maxRecDepth 100000 in
set_option maxHeartbeats 8000000 in
theorem round_walk (s : Sg) (x : Sf) (b : ByteArray) (w : World) (h : SgAt (fun b => b < w.heap.size) w s x) (hr : RngS s) (hz : b.size ≤ 9223372036854775807) : Calls Tryz.prog 5 #[sgV s x, .string b] w fun e w' => e = .returned (.bool true) ∧ Below w.heap.size w w' := by
  obtain ⟨CS, hCS⟩ : ∃ q, q = (sgC s x).toArray := ⟨_, rfl⟩
  have HSV : Hid (sgV s x = .agg CS) := Lib.hid (by rw [hCS]; rfl)
  have HSZ : Hid (CS.size = 40) := Lib.hid (by rw [hCS]; rfl)
  have HR := Lib.hid hr
  have HS := Lib.hid h
  have CG := Lib.hid (fun (W : World) (hW : Below w.heap.size w W) => great7 (fun b => b < w.heap.size) s x 6000 W (h.below hW (fun b _ h => h)) (by omega) ⟨hr.node, hr.name⟩)
  rw [HSV.out] at CG ⊢
  clear hCS h hr
  obtain ⟨m, hm⟩ : ∃ q, q = w.heap.size := ⟨_, rfl⟩
  have HM := Lib.hid hm
  have X := Lib.hid (Blk.new w 26 CS)
  have B := Lib.hid ((Below.refl w.heap.size w).alloc (Nat.le_refl _) (.cells CS 26))
  rw [← hm] at X B
  have HTR : Hid (∀ W W', Below m w W → Below W.heap.size W W' → Below m w W') := Lib.hid (fun W W' h1 h2 => h1.trans (h2.mono (by have := h1.size; have := HM.out; omega)))
  have HTO : Hid (∀ W, Below m w W → Below w.heap.size w W) := Lib.hid (fun W hW => by rw [← HM.out]; exact hW)
  go_enter Tryz.func5, Tryz.ntmps5
  go_upto_region 1 with fail
  rw [← hm]
  generalize w.alloc (.cells CS 26) = w1 at X B ⊢
  clear hm
  go_wp2_with fail
  refine (shown6 w1).mono ?_
  rintro e w2 ⟨rfl, bb⟩
  replace X := Lib.hid (X.out.below bb X.out.lt)
  replace B := Lib.hid (HTR.out _ _ B.out bb)
  clear bb
  have CG2 := Lib.hid (CG.out w2 (HTO.out _ B.out))
  go_wp2_with (refine wpList_load_blk rfl 26 _ rfl m rfl _ 26 _ X.out Tryz.underlying26 rfl (by rw [HSZ.out]; exact info26) ?_)
  refine CG2.out.mono ?_
  rintro e w3 ⟨g, rfl, hg, bb⟩
  have HG := Lib.hid hg
  replace X := Lib.hid (X.out.below bb X.out.lt)
  replace B := Lib.hid (HTR.out _ _ B.out bb)
  clear bb CG CG2 hg
  cases g with
  | true =>
    go_wp2_with fail
    go_ret
    exact ⟨rfl, HTO.out _ B.out⟩
  | false =>
    by_cases hbig : 20000 < b.size
    · have d1 : decide ((20000 : Int) < b.size) = true := decide_eq_true (by omega)
      go_wp2_with fail
      go_ret
      exact ⟨rfl, HTO.out _ B.out⟩
    · have HLE := Lib.hid (show b.size ≤ 200000 by omega)
      have d1 : decide ((20000 : Int) < b.size) = false := decide_eq_false (by omega)
      have HX := Lib.hid (fitx_of_great HR.out (HG.out rfl))
      have CE := Lib.hid (fun (W : World) (hW : Below w.heap.size w W) => pencode8x _ s x W (HS.out.below hW (fun b _ h => h)) HX.out HR.out.k)
      have HEO := encE_or s
      have HEV := Lib.hid (fun h => encE_zero (s := s) h)
      obtain ⟨EE, hEE⟩ : ∃ q, q = encE s := ⟨_, rfl⟩
      rw [← hEE] at CE HEO HEV
      rw [HSV.out] at CE
      clear hEE HG hbig hz
      rcases HEO with rfl | rfl
      · have HV := Lib.hid (HEV.out rfl)
        have HFE := Lib.hid (HX.out.e HV.out)
        have HES := Lib.hid (encB_short HFE.out HV.out)
        have CD := Lib.hid (fun (W : World) => pdecode10 (encB s) HES.out W)
        have HDC : Hid (decR (encB s) = (s, 0)) := Lib.hid (by unfold decR; rw [dec_enc HV.out HFE.out])
        rw [HDC.out] at CD
        obtain ⟨EB, hEB⟩ : ∃ q, q = encB s := ⟨_, rfl⟩
        rw [← hEB] at CE CD
        clear hEB HEV HV HFE HES HDC HX
        go_wp2_with (refine wpList_load_blk rfl 26 _ rfl m rfl _ 26 _ X.out Tryz.underlying26 rfl (by rw [HSZ.out]; exact info26) ?_)
        refine (CE.out w3 (HTO.out _ B.out)).mono ?_
        rintro e w4 ⟨rfl, bb⟩
        replace X := Lib.hid (X.out.below bb X.out.lt)
        replace B := Lib.hid (HTR.out _ _ B.out bb)
        clear bb
        go_wp2_with fail
        refine (CD.out w4).mono ?_
        rintro e w5 ⟨bb, xa, rfl, tx⟩
        replace X := Lib.hid (X.out.below bb X.out.lt)
        replace B := Lib.hid (HTR.out _ _ B.out bb)
        have Ta := Lib.hid tx.old2s
        clear bb tx CD CE
        dsimp only at Ta ⊢
        obtain ⟨Ca, hCa⟩ : ∃ q, q = (sgC s xa).toArray := ⟨_, rfl⟩
        have HVa : Hid (sgV s xa = .agg Ca) := Lib.hid (by rw [hCa]; rfl)
        have HZa : Hid (Ca.size = 40) := Lib.hid (by rw [hCa]; rfl)
        have HOa := Lib.hid (sgC_one Ta.out)
        rw [← hCa] at HOa
        rw [HVa.out]
        clear hCa
        obtain ⟨ma, hma⟩ : ∃ q, q = w5.heap.size := ⟨_, rfl⟩
        have HMa := Lib.hid hma
        have X0 := Lib.hid (Blk.new w5 26 #[.int .i64 0, .int .i64 0, .int .i64 0, .int .i64 0, .string ⟨#[]⟩, .string ⟨#[]⟩, .int .i64 0, .slice none 0 0, .string ⟨#[]⟩, .int .i64 0, .int .i64 0, .int .i64 0, .int .i64 0, .string ⟨#[]⟩, .string ⟨#[]⟩, .int .i64 0, .slice none 0 0, .string ⟨#[]⟩, .int .i64 0, .string ⟨#[]⟩, .string ⟨#[]⟩, .int .i64 0, .int .i64 0, .int .i64 0, .string ⟨#[]⟩, .string ⟨#[]⟩, .int .i64 0, .slice none 0 0, .string ⟨#[]⟩, .int .i64 0, .int .i64 0, .int .i64 0, .int .i64 0, .int .i64 0, .string ⟨#[]⟩, .string ⟨#[]⟩, .int .i64 0, .slice none 0 0, .string ⟨#[]⟩, .int .i64 0])
        have O0 := Lib.hid (Only.alloc [ma] w5 (.cells #[.int .i64 0, .int .i64 0, .int .i64 0, .int .i64 0, .string ⟨#[]⟩, .string ⟨#[]⟩, .int .i64 0, .slice none 0 0, .string ⟨#[]⟩, .int .i64 0, .int .i64 0, .int .i64 0, .int .i64 0, .string ⟨#[]⟩, .string ⟨#[]⟩, .int .i64 0, .slice none 0 0, .string ⟨#[]⟩, .int .i64 0, .string ⟨#[]⟩, .string ⟨#[]⟩, .int .i64 0, .int .i64 0, .int .i64 0, .string ⟨#[]⟩, .string ⟨#[]⟩, .int .i64 0, .slice none 0 0, .string ⟨#[]⟩, .int .i64 0, .int .i64 0, .int .i64 0, .int .i64 0, .int .i64 0, .string ⟨#[]⟩, .string ⟨#[]⟩, .int .i64 0, .slice none 0 0, .string ⟨#[]⟩, .int .i64 0] 26))
        rw [← hma] at X0
        go_upto_region 8 with (rw [← hma]; refine wpList_store_blk rfl 26 _ _ rfl rfl ma Ca _ 26 rfl rfl X0.out (by rw [HZa.out]; rfl) (by rw [HZa.out]; exact info26) HOa.out ?_; intro w6 bs os)
        have BV := Lib.hid (show Below ma w5 w6 from (O0.out.trans os).below (by simp) (by rw [HMa.out]; exact Nat.le_refl _))
        have BW := Lib.hid (show Below w5.heap.size w5 w6 by rw [← HMa.out]; exact BV.out)
        replace B := Lib.hid (HTR.out _ _ B.out BW.out)
        replace X := Lib.hid (X.out.below BW.out X.out.lt)
        replace Ta := Lib.hid (Ta.out.below BW.out (fun b _ hb => hb))
        have Xa := Lib.hid bs
        clear BV BW bs os O0 X0 hma HOa
        have CS1 := Lib.hid (same12 _ _ s s x xa w6 (HS.out.below (HTO.out _ B.out) (fun b _ h => h)) Ta.out)
        rw [(sigEq_iff s s).2 rfl, HSV.out, HVa.out] at CS1
        go_wp2_with (first | refine wpList_load_blkG rfl 26 _ rfl m rfl _ 26 _ X.out Tryz.underlying26 rfl (by rw [HSZ.out]; exact info26) ?_ | refine wpList_load_blkG rfl 26 _ rfl ma rfl _ 26 _ Xa.out Tryz.underlying26 rfl (by rw [HZa.out]; exact info26) ?_)
        refine CS1.out.mono ?_
        rintro e w7 ⟨rfl, bb⟩
        replace B := Lib.hid (HTR.out _ _ B.out bb)
        clear bb CS1 X Xa HVa HZa Ta
        have CDB := Lib.hid (fun (W : World) => pdecode10 b HLE.out W)
        have HDS := Lib.hid (fun s2 (h : decS b = some s2) => enc_dec HLE.out h)
        obtain ⟨ds, hds⟩ : ∃ q, q = decS b := ⟨_, rfl⟩
        have HDR : Hid (decR b = drO ds) := Lib.hid (by rw [hds]; rfl)
        rw [← hds] at HDS
        clear hds
        cases ds with
        | none =>
          replace HDR : Hid (decR b = (zeroSg, 6)) := Lib.hid HDR.out
          rw [HDR.out] at CDB
          clear HDS
          go_wp2_with fail
          refine (CDB.out w7).mono ?_
          rintro e u1 ⟨bb, xb, rfl, tx⟩
          replace B := Lib.hid (HTR.out _ _ B.out bb)
          have Tb := Lib.hid tx.old2s
          clear bb tx CDB
          dsimp only at Tb ⊢
          obtain ⟨Cb, hCb⟩ : ∃ q, q = (sgC zeroSg xb).toArray := ⟨_, rfl⟩
          have HVb : Hid (sgV zeroSg xb = .agg Cb) := Lib.hid (by rw [hCb]; rfl)
          have HZb : Hid (Cb.size = 40) := Lib.hid (by rw [hCb]; rfl)
          have HOb := Lib.hid (sgC_one Tb.out)
          rw [← hCb] at HOb
          rw [HVb.out]
          clear hCb
          obtain ⟨mb, hmb⟩ : ∃ q, q = u1.heap.size := ⟨_, rfl⟩
          have HMb := Lib.hid hmb
          have X0 := Lib.hid (Blk.new u1 26 #[.int .i64 0, .int .i64 0, .int .i64 0, .int .i64 0, .string ⟨#[]⟩, .string ⟨#[]⟩, .int .i64 0, .slice none 0 0, .string ⟨#[]⟩, .int .i64 0, .int .i64 0, .int .i64 0, .int .i64 0, .string ⟨#[]⟩, .string ⟨#[]⟩, .int .i64 0, .slice none 0 0, .string ⟨#[]⟩, .int .i64 0, .string ⟨#[]⟩, .string ⟨#[]⟩, .int .i64 0, .int .i64 0, .int .i64 0, .string ⟨#[]⟩, .string ⟨#[]⟩, .int .i64 0, .slice none 0 0, .string ⟨#[]⟩, .int .i64 0, .int .i64 0, .int .i64 0, .int .i64 0, .int .i64 0, .string ⟨#[]⟩, .string ⟨#[]⟩, .int .i64 0, .slice none 0 0, .string ⟨#[]⟩, .int .i64 0])
          have O0 := Lib.hid (Only.alloc [mb] u1 (.cells #[.int .i64 0, .int .i64 0, .int .i64 0, .int .i64 0, .string ⟨#[]⟩, .string ⟨#[]⟩, .int .i64 0, .slice none 0 0, .string ⟨#[]⟩, .int .i64 0, .int .i64 0, .int .i64 0, .int .i64 0, .string ⟨#[]⟩, .string ⟨#[]⟩, .int .i64 0, .slice none 0 0, .string ⟨#[]⟩, .int .i64 0, .string ⟨#[]⟩, .string ⟨#[]⟩, .int .i64 0, .int .i64 0, .int .i64 0, .string ⟨#[]⟩, .string ⟨#[]⟩, .int .i64 0, .slice none 0 0, .string ⟨#[]⟩, .int .i64 0, .int .i64 0, .int .i64 0, .int .i64 0, .int .i64 0, .string ⟨#[]⟩, .string ⟨#[]⟩, .int .i64 0, .slice none 0 0, .string ⟨#[]⟩, .int .i64 0] 26))
          rw [← hmb] at X0
          go_upto_region 11 with (rw [← hmb]; refine wpList_store_blk rfl 26 _ _ rfl rfl mb Cb _ 26 rfl rfl X0.out (by rw [HZb.out]; rfl) (by rw [HZb.out]; exact info26) HOb.out ?_; intro u2 bs os)
          have BV := Lib.hid (show Below mb u1 u2 from (O0.out.trans os).below (by simp) (by rw [HMb.out]; exact Nat.le_refl _))
          have BW := Lib.hid (show Below u1.heap.size u1 u2 by rw [← HMb.out]; exact BV.out)
          replace B := Lib.hid (HTR.out _ _ B.out BW.out)
          replace Tb := Lib.hid (Tb.out.below BW.out (fun b _ hb => hb))
          have Xb := Lib.hid bs
          clear BV BW bs os O0 X0 hmb HOb
          have CS := Lib.hid (same12 _ _ zeroSg zeroSg xb zerSf u2 Tb.out (zero_sg (fun _ => True) u2 0))
          rw [(sigEq_iff zeroSg zeroSg).2 rfl, HVb.out] at CS
          have HZV : Hid (sgV zeroSg zerSf = .agg #[.int .i64 0, .int .i64 0, .int .i64 0, .int .i64 0, .string ⟨#[]⟩, .string ⟨#[]⟩, .int .i64 0, .slice none 0 0, .string ⟨#[]⟩, .int .i64 0, .int .i64 0, .int .i64 0, .int .i64 0, .string ⟨#[]⟩, .string ⟨#[]⟩, .int .i64 0, .slice none 0 0, .string ⟨#[]⟩, .int .i64 0, .string ⟨#[]⟩, .string ⟨#[]⟩, .int .i64 0, .int .i64 0, .int .i64 0, .string ⟨#[]⟩, .string ⟨#[]⟩, .int .i64 0, .slice none 0 0, .string ⟨#[]⟩, .int .i64 0, .int .i64 0, .int .i64 0, .int .i64 0, .int .i64 0, .string ⟨#[]⟩, .string ⟨#[]⟩, .int .i64 0, .slice none 0 0, .string ⟨#[]⟩, .int .i64 0]) := Lib.hid rfl
          rw [HZV.out] at CS
          go_wp2_with (refine wpList_load_blkG rfl 26 _ rfl mb rfl _ 26 _ Xb.out Tryz.underlying26 rfl (by rw [HZb.out]; exact info26) ?_)
          refine CS.out.mono ?_
          rintro e u3 ⟨rfl, bb⟩
          replace B := Lib.hid (HTR.out _ _ B.out bb)
          clear bb CS
          go_wp2_with fail
          go_ret
          exact ⟨rfl, HTO.out _ B.out⟩
        | some s2 =>
          replace HDR : Hid (decR b = (s2, 0)) := Lib.hid HDR.out
          rw [HDR.out] at CDB
          obtain ⟨he1, he2, he3⟩ := HDS.out s2 rfl
          have HE1 := Lib.hid he1
          have HE2 := Lib.hid he2
          have HE3 := Lib.hid he3
          have HEE : Hid (encE s2 = 0) := Lib.hid (by unfold encE; rw [he2]; rfl)
          have HKR := Lib.hid (uses_range (validS_iff he2).1)
          clear HDS he1 he2 he3
          go_wp2_with fail
          refine (CDB.out w7).mono ?_
          rintro e u1 ⟨bb, xb, rfl, tx⟩
          replace B := Lib.hid (HTR.out _ _ B.out bb)
          have Tb := Lib.hid tx.old2s
          clear bb tx CDB
          dsimp only at Tb ⊢
          obtain ⟨Cb, hCb⟩ : ∃ q, q = (sgC s2 xb).toArray := ⟨_, rfl⟩
          have HVb : Hid (sgV s2 xb = .agg Cb) := Lib.hid (by rw [hCb]; rfl)
          have HZb : Hid (Cb.size = 40) := Lib.hid (by rw [hCb]; rfl)
          have HOb := Lib.hid (sgC_one Tb.out)
          rw [← hCb] at HOb
          rw [HVb.out]
          clear hCb
          obtain ⟨mb, hmb⟩ : ∃ q, q = u1.heap.size := ⟨_, rfl⟩
          have HMb := Lib.hid hmb
          have X0 := Lib.hid (Blk.new u1 26 #[.int .i64 0, .int .i64 0, .int .i64 0, .int .i64 0, .string ⟨#[]⟩, .string ⟨#[]⟩, .int .i64 0, .slice none 0 0, .string ⟨#[]⟩, .int .i64 0, .int .i64 0, .int .i64 0, .int .i64 0, .string ⟨#[]⟩, .string ⟨#[]⟩, .int .i64 0, .slice none 0 0, .string ⟨#[]⟩, .int .i64 0, .string ⟨#[]⟩, .string ⟨#[]⟩, .int .i64 0, .int .i64 0, .int .i64 0, .string ⟨#[]⟩, .string ⟨#[]⟩, .int .i64 0, .slice none 0 0, .string ⟨#[]⟩, .int .i64 0, .int .i64 0, .int .i64 0, .int .i64 0, .int .i64 0, .string ⟨#[]⟩, .string ⟨#[]⟩, .int .i64 0, .slice none 0 0, .string ⟨#[]⟩, .int .i64 0])
          have O0 := Lib.hid (Only.alloc [mb] u1 (.cells #[.int .i64 0, .int .i64 0, .int .i64 0, .int .i64 0, .string ⟨#[]⟩, .string ⟨#[]⟩, .int .i64 0, .slice none 0 0, .string ⟨#[]⟩, .int .i64 0, .int .i64 0, .int .i64 0, .int .i64 0, .string ⟨#[]⟩, .string ⟨#[]⟩, .int .i64 0, .slice none 0 0, .string ⟨#[]⟩, .int .i64 0, .string ⟨#[]⟩, .string ⟨#[]⟩, .int .i64 0, .int .i64 0, .int .i64 0, .string ⟨#[]⟩, .string ⟨#[]⟩, .int .i64 0, .slice none 0 0, .string ⟨#[]⟩, .int .i64 0, .int .i64 0, .int .i64 0, .int .i64 0, .int .i64 0, .string ⟨#[]⟩, .string ⟨#[]⟩, .int .i64 0, .slice none 0 0, .string ⟨#[]⟩, .int .i64 0] 26))
          rw [← hmb] at X0
          go_upto_region 11 with (rw [← hmb]; refine wpList_store_blk rfl 26 _ _ rfl rfl mb Cb _ 26 rfl rfl X0.out (by rw [HZb.out]; rfl) (by rw [HZb.out]; exact info26) HOb.out ?_; intro u2 bs os)
          have BV := Lib.hid (show Below mb u1 u2 from (O0.out.trans os).below (by simp) (by rw [HMb.out]; exact Nat.le_refl _))
          have BW := Lib.hid (show Below u1.heap.size u1 u2 by rw [← HMb.out]; exact BV.out)
          replace B := Lib.hid (HTR.out _ _ B.out BW.out)
          replace Tb := Lib.hid (Tb.out.below BW.out (fun b _ hb => hb))
          have Xb := Lib.hid bs
          clear BV BW bs os O0 X0 hmb HOb
          have CE2 := Lib.hid (pencode8 _ s2 xb u2 Tb.out HE3.out (by have := HKR.out; omega))
          rw [HE1.out, HEE.out, HVb.out] at CE2
          have hst : (b.toList == b.toList) = true := beq_self_eq_true _
          go_wp2_with (refine wpList_load_blk rfl 26 _ rfl mb rfl _ 26 _ Xb.out Tryz.underlying26 rfl (by rw [HZb.out]; exact info26) ?_)
          refine CE2.out.mono ?_
          rintro e u3 ⟨rfl, bb⟩
          replace B := Lib.hid (HTR.out _ _ B.out bb)
          clear bb CE2
          go_wp2_with fail
          go_ret
          exact ⟨rfl, HTO.out _ B.out⟩
      · clear HEV HX
        go_wp2_with (refine wpList_load_blk rfl 26 _ rfl m rfl _ 26 _ X.out Tryz.underlying26 rfl (by rw [HSZ.out]; exact info26) ?_)
        refine (CE.out w3 (HTO.out _ B.out)).mono ?_
        rintro e w4 ⟨rfl, bb⟩
        replace X := Lib.hid (X.out.below bb X.out.lt)
        replace B := Lib.hid (HTR.out _ _ B.out bb)
        clear bb
        clear CE X
        have CDB := Lib.hid (fun (W : World) => pdecode10 b HLE.out W)
        have HDS := Lib.hid (fun s2 (h : decS b = some s2) => enc_dec HLE.out h)
        obtain ⟨ds, hds⟩ : ∃ q, q = decS b := ⟨_, rfl⟩
        have HDR : Hid (decR b = drO ds) := Lib.hid (by rw [hds]; rfl)
        rw [← hds] at HDS
        clear hds
        cases ds with
        | none =>
          replace HDR : Hid (decR b = (zeroSg, 6)) := Lib.hid HDR.out
          rw [HDR.out] at CDB
          clear HDS
          go_wp2_with fail
          refine (CDB.out w4).mono ?_
          rintro e u1 ⟨bb, xb, rfl, tx⟩
          replace B := Lib.hid (HTR.out _ _ B.out bb)
          have Tb := Lib.hid tx.old2s
          clear bb tx CDB
          dsimp only at Tb ⊢
          obtain ⟨Cb, hCb⟩ : ∃ q, q = (sgC zeroSg xb).toArray := ⟨_, rfl⟩
          have HVb : Hid (sgV zeroSg xb = .agg Cb) := Lib.hid (by rw [hCb]; rfl)
          have HZb : Hid (Cb.size = 40) := Lib.hid (by rw [hCb]; rfl)
          have HOb := Lib.hid (sgC_one Tb.out)
          rw [← hCb] at HOb
          rw [HVb.out]
          clear hCb
          obtain ⟨mb, hmb⟩ : ∃ q, q = u1.heap.size := ⟨_, rfl⟩
          have HMb := Lib.hid hmb
          have X0 := Lib.hid (Blk.new u1 26 #[.int .i64 0, .int .i64 0, .int .i64 0, .int .i64 0, .string ⟨#[]⟩, .string ⟨#[]⟩, .int .i64 0, .slice none 0 0, .string ⟨#[]⟩, .int .i64 0, .int .i64 0, .int .i64 0, .int .i64 0, .string ⟨#[]⟩, .string ⟨#[]⟩, .int .i64 0, .slice none 0 0, .string ⟨#[]⟩, .int .i64 0, .string ⟨#[]⟩, .string ⟨#[]⟩, .int .i64 0, .int .i64 0, .int .i64 0, .string ⟨#[]⟩, .string ⟨#[]⟩, .int .i64 0, .slice none 0 0, .string ⟨#[]⟩, .int .i64 0, .int .i64 0, .int .i64 0, .int .i64 0, .int .i64 0, .string ⟨#[]⟩, .string ⟨#[]⟩, .int .i64 0, .slice none 0 0, .string ⟨#[]⟩, .int .i64 0])
          have O0 := Lib.hid (Only.alloc [mb] u1 (.cells #[.int .i64 0, .int .i64 0, .int .i64 0, .int .i64 0, .string ⟨#[]⟩, .string ⟨#[]⟩, .int .i64 0, .slice none 0 0, .string ⟨#[]⟩, .int .i64 0, .int .i64 0, .int .i64 0, .int .i64 0, .string ⟨#[]⟩, .string ⟨#[]⟩, .int .i64 0, .slice none 0 0, .string ⟨#[]⟩, .int .i64 0, .string ⟨#[]⟩, .string ⟨#[]⟩, .int .i64 0, .int .i64 0, .int .i64 0, .string ⟨#[]⟩, .string ⟨#[]⟩, .int .i64 0, .slice none 0 0, .string ⟨#[]⟩, .int .i64 0, .int .i64 0, .int .i64 0, .int .i64 0, .int .i64 0, .string ⟨#[]⟩, .string ⟨#[]⟩, .int .i64 0, .slice none 0 0, .string ⟨#[]⟩, .int .i64 0] 26))
          rw [← hmb] at X0
          go_upto_region 11 with (rw [← hmb]; refine wpList_store_blk rfl 26 _ _ rfl rfl mb Cb _ 26 rfl rfl X0.out (by rw [HZb.out]; rfl) (by rw [HZb.out]; exact info26) HOb.out ?_; intro u2 bs os)
          have BV := Lib.hid (show Below mb u1 u2 from (O0.out.trans os).below (by simp) (by rw [HMb.out]; exact Nat.le_refl _))
          have BW := Lib.hid (show Below u1.heap.size u1 u2 by rw [← HMb.out]; exact BV.out)
          replace B := Lib.hid (HTR.out _ _ B.out BW.out)
          replace Tb := Lib.hid (Tb.out.below BW.out (fun b _ hb => hb))
          have Xb := Lib.hid bs
          clear BV BW bs os O0 X0 hmb HOb
          have CS := Lib.hid (same12 _ _ zeroSg zeroSg xb zerSf u2 Tb.out (zero_sg (fun _ => True) u2 0))
          rw [(sigEq_iff zeroSg zeroSg).2 rfl, HVb.out] at CS
          have HZV : Hid (sgV zeroSg zerSf = .agg #[.int .i64 0, .int .i64 0, .int .i64 0, .int .i64 0, .string ⟨#[]⟩, .string ⟨#[]⟩, .int .i64 0, .slice none 0 0, .string ⟨#[]⟩, .int .i64 0, .int .i64 0, .int .i64 0, .int .i64 0, .string ⟨#[]⟩, .string ⟨#[]⟩, .int .i64 0, .slice none 0 0, .string ⟨#[]⟩, .int .i64 0, .string ⟨#[]⟩, .string ⟨#[]⟩, .int .i64 0, .int .i64 0, .int .i64 0, .string ⟨#[]⟩, .string ⟨#[]⟩, .int .i64 0, .slice none 0 0, .string ⟨#[]⟩, .int .i64 0, .int .i64 0, .int .i64 0, .int .i64 0, .int .i64 0, .string ⟨#[]⟩, .string ⟨#[]⟩, .int .i64 0, .slice none 0 0, .string ⟨#[]⟩, .int .i64 0]) := Lib.hid rfl
          rw [HZV.out] at CS
          go_wp2_with (refine wpList_load_blkG rfl 26 _ rfl mb rfl _ 26 _ Xb.out Tryz.underlying26 rfl (by rw [HZb.out]; exact info26) ?_)
          refine CS.out.mono ?_
          rintro e u3 ⟨rfl, bb⟩
          replace B := Lib.hid (HTR.out _ _ B.out bb)
          clear bb CS
          go_wp2_with fail
          go_ret
          exact ⟨rfl, HTO.out _ B.out⟩
        | some s2 =>
          replace HDR : Hid (decR b = (s2, 0)) := Lib.hid HDR.out
          rw [HDR.out] at CDB
          obtain ⟨he1, he2, he3⟩ := HDS.out s2 rfl
          have HE1 := Lib.hid he1
          have HE2 := Lib.hid he2
          have HE3 := Lib.hid he3
          have HEE : Hid (encE s2 = 0) := Lib.hid (by unfold encE; rw [he2]; rfl)
          have HKR := Lib.hid (uses_range (validS_iff he2).1)
          clear HDS he1 he2 he3
          go_wp2_with fail
          refine (CDB.out w4).mono ?_
          rintro e u1 ⟨bb, xb, rfl, tx⟩
          replace B := Lib.hid (HTR.out _ _ B.out bb)
          have Tb := Lib.hid tx.old2s
          clear bb tx CDB
          dsimp only at Tb ⊢
          obtain ⟨Cb, hCb⟩ : ∃ q, q = (sgC s2 xb).toArray := ⟨_, rfl⟩
          have HVb : Hid (sgV s2 xb = .agg Cb) := Lib.hid (by rw [hCb]; rfl)
          have HZb : Hid (Cb.size = 40) := Lib.hid (by rw [hCb]; rfl)
          have HOb := Lib.hid (sgC_one Tb.out)
          rw [← hCb] at HOb
          rw [HVb.out]
          clear hCb
          obtain ⟨mb, hmb⟩ : ∃ q, q = u1.heap.size := ⟨_, rfl⟩
          have HMb := Lib.hid hmb
          have X0 := Lib.hid (Blk.new u1 26 #[.int .i64 0, .int .i64 0, .int .i64 0, .int .i64 0, .string ⟨#[]⟩, .string ⟨#[]⟩, .int .i64 0, .slice none 0 0, .string ⟨#[]⟩, .int .i64 0, .int .i64 0, .int .i64 0, .int .i64 0, .string ⟨#[]⟩, .string ⟨#[]⟩, .int .i64 0, .slice none 0 0, .string ⟨#[]⟩, .int .i64 0, .string ⟨#[]⟩, .string ⟨#[]⟩, .int .i64 0, .int .i64 0, .int .i64 0, .string ⟨#[]⟩, .string ⟨#[]⟩, .int .i64 0, .slice none 0 0, .string ⟨#[]⟩, .int .i64 0, .int .i64 0, .int .i64 0, .int .i64 0, .int .i64 0, .string ⟨#[]⟩, .string ⟨#[]⟩, .int .i64 0, .slice none 0 0, .string ⟨#[]⟩, .int .i64 0])
          have O0 := Lib.hid (Only.alloc [mb] u1 (.cells #[.int .i64 0, .int .i64 0, .int .i64 0, .int .i64 0, .string ⟨#[]⟩, .string ⟨#[]⟩, .int .i64 0, .slice none 0 0, .string ⟨#[]⟩, .int .i64 0, .int .i64 0, .int .i64 0, .int .i64 0, .string ⟨#[]⟩, .string ⟨#[]⟩, .int .i64 0, .slice none 0 0, .string ⟨#[]⟩, .int .i64 0, .string ⟨#[]⟩, .string ⟨#[]⟩, .int .i64 0, .int .i64 0, .int .i64 0, .string ⟨#[]⟩, .string ⟨#[]⟩, .int .i64 0, .slice none 0 0, .string ⟨#[]⟩, .int .i64 0, .int .i64 0, .int .i64 0, .int .i64 0, .int .i64 0, .string ⟨#[]⟩, .string ⟨#[]⟩, .int .i64 0, .slice none 0 0, .string ⟨#[]⟩, .int .i64 0] 26))
          rw [← hmb] at X0
          go_upto_region 11 with (rw [← hmb]; refine wpList_store_blk rfl 26 _ _ rfl rfl mb Cb _ 26 rfl rfl X0.out (by rw [HZb.out]; rfl) (by rw [HZb.out]; exact info26) HOb.out ?_; intro u2 bs os)
          have BV := Lib.hid (show Below mb u1 u2 from (O0.out.trans os).below (by simp) (by rw [HMb.out]; exact Nat.le_refl _))
          have BW := Lib.hid (show Below u1.heap.size u1 u2 by rw [← HMb.out]; exact BV.out)
          replace B := Lib.hid (HTR.out _ _ B.out BW.out)
          replace Tb := Lib.hid (Tb.out.below BW.out (fun b _ hb => hb))
          have Xb := Lib.hid bs
          clear BV BW bs os O0 X0 hmb HOb
          have CE2 := Lib.hid (pencode8 _ s2 xb u2 Tb.out HE3.out (by have := HKR.out; omega))
          rw [HE1.out, HEE.out, HVb.out] at CE2
          have hst : (b.toList == b.toList) = true := beq_self_eq_true _
          go_wp2_with (refine wpList_load_blk rfl 26 _ rfl mb rfl _ 26 _ Xb.out Tryz.underlying26 rfl (by rw [HZb.out]; exact info26) ?_)
          refine CE2.out.mono ?_
          rintro e u3 ⟨rfl, bb⟩
          replace B := Lib.hid (HTR.out _ _ B.out bb)
          clear bb CE2
          go_wp2_with fail
          go_ret
          exact ⟨rfl, HTO.out _ B.out⟩
end Go.Proofs.YtemlogadbopffaaGreat
