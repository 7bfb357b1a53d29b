/- stagehandref37.code, stagehandref03.Atom, Int. stagehandref37.Encode. -/
import Derived.Test.YtemlogadbopffaaGreatPenc
import Derived.Test.YtemlogadbopffaaGreatRvd
import Derived.Test.YtemlogadbopffaaGreatRefP
namespace Go.Proofs.YtemlogadbopffaaGreat
open Go.RowKit Go.Rt Go.Rw

set_option maxRecDepth 100000 in
set_option maxHeartbeats 4000000 in
theorem ratom26 (s : ByteArray) (w : World) : Calls Tryz.prog 26 #[.string s] w fun e w' => e = .returned (ftV (atmX s)) ∧ Below w.heap.size w w' := by
 have X := Lib.hid (Blk.new w 24 #[.int .i64 0, .int .i64 0, .int .i64 0, .string ⟨#[]⟩, .string ⟨#[]⟩, .int .i64 0, .slice none 0 0, .string ⟨#[]⟩, .int .i64 0])
 have B := Lib.hid ((Below.refl w.heap.size w).alloc (Nat.le_refl _) (.cells #[.int .i64 0, .int .i64 0, .int .i64 0, .string ⟨#[]⟩, .string ⟨#[]⟩, .int .i64 0, .slice none 0 0, .string ⟨#[]⟩, .int .i64 0] 24))
 go_enter Tryz.func26, Tryz.ntmps26
 go_wp2_with (refine wpList_store_blk rfl 24 _ _ rfl rfl w.heap.size #[.int .i64 2, .int .i64 0, .int .i64 0, .string s, .string ⟨#[]⟩, .int .i64 0, .slice none 0 0, .string ⟨#[]⟩, .int .i64 0] _ 24 rfl rfl X.out rfl info25 (by simp [Value.oneCell']) ?_; intro vF bF oF)
 have BF := Lib.hid (B.out.trans (oF.below (by simp) B.out.size))
 exact bodyPost_ret (results_blk rfl _ _ w.heap.size _ _ rfl bF Tryz.underlying24 rfl info25) rfl ⟨rfl, BF.out⟩
set_option maxRecDepth 100000 in
set_option maxHeartbeats 4000000 in
theorem rint27 (n : Int) (w : World) : Calls Tryz.prog 27 #[.int .i64 n] w fun e w' => e = .returned (ftV (nmbX n)) ∧ Below w.heap.size w w' := by
 have X := Lib.hid (Blk.new w 24 #[.int .i64 0, .int .i64 0, .int .i64 0, .string ⟨#[]⟩, .string ⟨#[]⟩, .int .i64 0, .slice none 0 0, .string ⟨#[]⟩, .int .i64 0])
 have B := Lib.hid ((Below.refl w.heap.size w).alloc (Nat.le_refl _) (.cells #[.int .i64 0, .int .i64 0, .int .i64 0, .string ⟨#[]⟩, .string ⟨#[]⟩, .int .i64 0, .slice none 0 0, .string ⟨#[]⟩, .int .i64 0] 24))
 go_enter Tryz.func27, Tryz.ntmps27
 go_wp2_with (refine wpList_store_blk rfl 24 _ _ rfl rfl w.heap.size #[.int .i64 1, .int .i64 n, .int .i64 0, .string ⟨#[]⟩, .string ⟨#[]⟩, .int .i64 0, .slice none 0 0, .string ⟨#[]⟩, .int .i64 0] _ 24 rfl rfl X.out rfl info25 (by simp [Value.oneCell']) ?_; intro vF bF oF)
 have BF := Lib.hid (B.out.trans (oF.below (by simp) B.out.size))
 exact bodyPost_ret (results_blk rfl _ _ w.heap.size _ _ rfl bF Tryz.underlying24 rfl info25) rfl ⟨rfl, BF.out⟩
theorem valid_formed {t : Tm} (h : validB t = true) : formed t = true := by
 unfold validB at h
 rw [Bool.and_eq_true] at h
 first | exact h.1 | exact h.2
theorem code_len {t : Tm} (hv : validB t = true) (hf : fitT t) : (codeT t).length ≤ 160000 := by
 have := putS_short hv hf
 omega
def codeB (has : Bool) (t : Tm) : ByteArray := if has then bytesB (codeT t) else ⟨#[]⟩
set_option maxRecDepth 100000 in
set_option maxHeartbeats 4000000 in
theorem rcode25 (S : Nat → Prop) (has : Bool) (t : Tm) (x : Ft) (w : World) (hS : ∀ b, S b → b < w.heap.size) (h : TmAt S w t x) (hf : fitT t) (hv : has = true → validB t = true) : Calls Tryz.prog 25 #[.bool has, ftV x] w fun e w' => e = .returned (.string (codeB has t)) ∧ Below w.heap.size w w' := by
 obtain ⟨R, hR⟩ : ∃ q, q = codeB has t := ⟨_, rfl⟩
 rw [← hR]
 have HR := Lib.hid hR
 obtain ⟨_, sx, cx, vx⟩ := h.its.2.form
 obtain ⟨xf, xv⟩ := x
 dsimp only at vx
 subst vx
 obtain ⟨lx, hlx⟩ : ∃ l, l = t.l.length := ⟨_, rfl⟩
 rw [← hlx] at h ⊢
 have X := Lib.hid (Blk.new w 24 #[.int .i64 xf.k, .int .i64 xf.n, .int .i64 xf.g, .string xf.nm, .string xf.fn, .int .i64 xf.ar, .slice sx lx cx, .string xf.bs, .int .i64 xf.bt])
 have B := Lib.hid ((Below.refl w.heap.size w).alloc (Nat.le_refl _) (.cells #[.int .i64 xf.k, .int .i64 xf.n, .int .i64 xf.g, .string xf.nm, .string xf.fn, .int .i64 xf.ar, .slice sx lx cx, .string xf.bs, .int .i64 xf.bt] 24))
 have CV : Hid (has = true → Calls Tryz.prog 66 #[ftV ⟨xf, .slice sx lx cx⟩] (w.alloc (.cells #[.int .i64 xf.k, .int .i64 xf.n, .int .i64 xf.g, .string xf.nm, .string xf.fn, .int .i64 xf.ar, .slice sx lx cx, .string xf.bs, .int .i64 xf.bt] 24)) (BR (codeT t) (w.alloc (.cells #[.int .i64 xf.k, .int .i64 xf.n, .int .i64 xf.g, .string xf.nm, .string xf.fn, .int .i64 xf.ar, .slice sx lx cx, .string xf.bs, .int .i64 xf.bt] 24)))) := Lib.hid (fun q =>
  rcode_any t hf (valid_formed (hv q)) (by have := code_len (hv q) hf; omega) S _ _ (fun b hb => Nat.lt_of_lt_of_le (hS b hb) B.out.size) (h.below B.out (fun b _ h => h)))
 unfold ftV at CV ⊢
 clear hR hlx h hf hv hS
 cases has with
 | false =>
  obtain rfl : R = ⟨#[]⟩ := by rw [HR.out]; rfl
  clear CV
  go_enter Tryz.func25, Tryz.ntmps25
  go_wp2_with fail
  go_ret
  exact ⟨rfl, B.out⟩
 | true =>
  have HRR : Hid (R = bytesB (codeT t)) := Lib.hid (by rw [HR.out]; rfl)
  have CC := Lib.hid (CV.out rfl)
  clear CV HR
  go_enter Tryz.func25, Tryz.ntmps25
  go_upto_region 3 with fail
  generalize w.alloc (.cells #[.int .i64 xf.k, .int .i64 xf.n, .int .i64 xf.g, .string xf.nm, .string xf.fn, .int .i64 xf.ar, .slice sx lx cx, .string xf.bs, .int .i64 xf.bt] 24) = w1 at X B CC ⊢
  go_wp2_with (refine wpList_load_blk rfl 24 _ rfl (w.heap.size) rfl _ 24 _ X.out Tryz.underlying24 rfl info25 ?_)
  refine CC.out.mono ?_
  rintro e w2 ⟨g, cap, rfl, bs2, b2⟩
  obtain ⟨n, hn⟩ : ∃ n, n = (codeT t).length := ⟨_, rfl⟩
  rw [← hn] at bs2 ⊢
  have HC := Lib.hid (bs_string bs2)
  have B2 := Lib.hid (B.out.trans (b2.mono B.out.size))
  clear bs2 b2 CC hn
  go_wp2_with (refine wpList_conv_run rfl 48 9 _ rfl rfl HC.out ?_)
  go_ret
  exact ⟨by rw [HRR.out]; rfl, B2.out⟩
end Go.Proofs.YtemlogadbopffaaGreat
namespace Go.Proofs.YtemlogadbopffaaGreat
open Go.RowKit Go.Rt Go.Rw

theorem codeB_eq (p : Bool) (t : Tm) : codeB p t = bytesB (if p then codeT t else []) := by cases p <;> rfl
theorem one_size (b : UInt8) : (bytesB [b]).size = 1 := rfl
theorem codeB_size {p : Bool} {t : Tm} (hv : p = true → validB t = true) (hf : fitT t) : (codeB p t).size ≤ 160000 := by
 cases p with
 | true => exact code_len (hv rfl) hf
 | false => exact Nat.zero_le _
theorem encB_seven (u : Int) (s : Sg) : bytesB (encP u s 0) ++ codeB (hasU u 0) s.fr ++ codeB (hasU u 1) s.tt ++ codeB (hasU u 2) (atmT s.node) ++ codeB (hasU u 3) (atmT s.name) ++ codeB (hasU u 4) s.ref ++ codeB (hasU u 5) (nmbT s.num) ++ codeB (hasU u 6) s.val = bytesB (encP u s 7) := by
 simp only [codeB_eq, bytes_app]
 rfl
theorem conv_one (W : World) (g : Nat) (k : Int) (h : Blk W g 5 #[.int .u8 (k % 256)]) : (convert 48 9 (.slice (some ⟨g, 0, none⟩) 1 1)).run Tryz.prog W = .ok (.string (bytesB [UInt8.ofNat (k % 256).toNat])) W := by
 refine run_convert_bytes_back _ 48 9 5 ⟨g, 0, none⟩ 1 [UInt8.ofNat (k % 256).toNat] Tryz.underlying48 Tryz.underlying5 Tryz.underlying9 ?_
 intro j hj
 obtain rfl : j = 0 := by simpa using hj
 have := h.cell 0
 simp only [List.getElem_cons_zero]
 have e : ((UInt8.ofNat (k % 256).toNat).toNat : Int) = k % 256 := by
  rw [UInt8.toNat_ofNat']
  omega
 rw [e, add_none]
 exact this
set_option maxRecDepth 100000 in
set_option maxHeartbeats 8000000 in
theorem rencode9 (S : Nat → Prop) (s : Sg) (x : Sf) (w : World) (h : SgAt S w s x) (hfit : FitE s) (hk : -9223372036854775808 ≤ s.k ∧ s.k ≤ 9223372036854775807) : Calls Tryz.prog 9 #[sgV s x] w fun e w' => e = .returned (.tuple #[.string (encB s), .int .i64 (encE s)]) ∧ Below w.heap.size w w' := by
 obtain ⟨EBB, hEBB⟩ : ∃ q, q = encB s := ⟨_, rfl⟩
 obtain ⟨EEE, hEEE⟩ : ∃ q, q = encE s := ⟨_, rfl⟩
 rw [← hEBB, ← hEEE]
 have HEB := Lib.hid hEBB
 have HEE := Lib.hid hEEE
 clear hEBB hEEE
 obtain ⟨u, hu⟩ : ∃ u, u = usesF s.k := ⟨_, rfl⟩
 have HUS := Lib.hid hu
 have CO := Lib.hid (fun (W : World) => of24 s.k W)
 rw [← hu] at CO
 have HO := Lib.hid h
 have HF := Lib.hid hfit
 have HK := Lib.hid hk
 obtain ⟨CS, hCS⟩ : ∃ q, q = (sgC s x).toArray := ⟨_, rfl⟩
 have HSV : Hid (sgV s x = .agg CS) := Lib.hid (by rw [hCS]; rfl)
 have HSZ : Hid (CS.size = 40) := Lib.hid (by rw [hCS]; rfl)
 have HCS := Lib.hid hCS
 have CV := Lib.hid (fun (W : World) (hW : Below w.heap.size w W) => rvalid23 S s x W (h.below hW (fun b _ h => h)) hfit.fit)
 rw [HSV.out] at CV ⊢
 clear hu h hfit hCS hk
 obtain ⟨m, hm⟩ : ∃ q, q = w.heap.size := ⟨_, rfl⟩
 have HM := Lib.hid hm
 have X := Lib.hid (Blk.new w 26 CS)
 have B := Lib.hid ((Below.refl w.heap.size w).alloc (Nat.le_refl _) (.cells CS 26))
 have CVV := Lib.hid (CV.out _ B.out)
 rw [← hm] at X B
 have HTR : Hid (∀ W W', Below m w W → Below W.heap.size W W' → Below m w W') := Lib.hid (fun W W' h1 h2 => h1.trans (h2.mono (by have := h1.size; have := HM.out; omega)))
 have HTO : Hid (∀ W, Below m w W → Below w.heap.size w W) := Lib.hid (fun W hW => by rw [← HM.out]; exact hW)
 go_enter Tryz.func9, Tryz.ntmps9
 go_upto_region 1 with fail
 rw [← hm]
 generalize w.alloc (.cells CS 26) = w1 at X B CVV ⊢
 clear hm CV
 obtain ⟨vb, hvb⟩ : ∃ q, q = validS s := ⟨_, rfl⟩
 rw [← hvb] at CVV
 have HVB := Lib.hid hvb.symm
 clear hvb
 go_wp2_with (refine wpList_load_blk rfl 26 _ rfl m rfl _ 26 _ X.out Tryz.underlying26 rfl (by rw [HSZ.out]; exact info26) ?_)
 refine CVV.out.mono ?_
 rintro e w2 ⟨rfl, b2⟩
 replace X := Lib.hid (X.out.below b2 X.out.lt)
 replace B := Lib.hid (HTR.out _ _ B.out b2)
 clear b2 CVV
 cases vb with
 | false =>
  obtain rfl : EBB = ⟨#[]⟩ := by rw [HEB.out]; unfold encB; rw [HVB.out]; rfl
  obtain rfl : EEE = 2 := by rw [HEE.out]; unfold encE; rw [HVB.out]; rfl
  go_wp2_with fail
  exact bodyPost_ret (results_s2 (a := 2) (b := 3) rfl _ _ _ _ rfl rfl) rfl ⟨rfl, by rw [← HM.out]; exact B.out⟩
 | true =>
  obtain rfl : EEE = 0 := by rw [HEE.out]; unfold encE; rw [HVB.out]; rfl
  have HAL : Hid (allFld u s 7 = true) := Lib.hid (by
   have := HVB.out
   unfold validS at this
   rw [Bool.and_eq_true, Bool.and_eq_true, ← HUS.out] at this
   exact this.2.1)
  have CA : Hid (∀ W, Below w.heap.size w W → Calls Tryz.prog 25 #[.bool (hasU u 0), ftV x.a] W fun e w' => e = .returned (.string (codeB (hasU u 0) s.fr)) ∧ Below W.heap.size W w') := Lib.hid (fun W hW => rcode25 (fun b => b < w.heap.size) (hasU u 0) s.fr x.a W (fun b hb => Nat.lt_of_lt_of_le hb hW.size) (HO.out.fr.old2.below hW (fun _ _ h => h)) HF.out.fr.1 (fun q => okFld_valid (allFld_get HAL.out (i := 0) (by omega) q)))
  unfold ftV at CA
  have CB : Hid (∀ W, Below w.heap.size w W → Calls Tryz.prog 25 #[.bool (hasU u 1), ftV x.b] W fun e w' => e = .returned (.string (codeB (hasU u 1) s.tt)) ∧ Below W.heap.size W w') := Lib.hid (fun W hW => rcode25 (fun b => b < w.heap.size) (hasU u 1) s.tt x.b W (fun b hb => Nat.lt_of_lt_of_le hb hW.size) (HO.out.tt.old2.below hW (fun _ _ h => h)) HF.out.tt.1 (fun q => okFld_valid (allFld_get HAL.out (i := 1) (by omega) q)))
  unfold ftV at CB
  have CN : Hid (∀ W, Below w.heap.size w W → Calls Tryz.prog 25 #[.bool (hasU u 2), ftV (atmX s.node)] W fun e w' => e = .returned (.string (codeB (hasU u 2) (atmT s.node))) ∧ Below W.heap.size W w') := Lib.hid (fun W hW => rcode25 (fun b => b < w.heap.size) (hasU u 2) (atmT s.node) (atmX s.node) W (fun b hb => Nat.lt_of_lt_of_le hb hW.size) (atom_at _ _ s.node) (ok_atom HF.out.node).1 (fun q => okFld_valid (allFld_get HAL.out (i := 2) (by omega) q)))
  unfold ftV at CN
  dsimp only [atmX, nmbX] at CN
  have CM : Hid (∀ W, Below w.heap.size w W → Calls Tryz.prog 25 #[.bool (hasU u 3), ftV (atmX s.name)] W fun e w' => e = .returned (.string (codeB (hasU u 3) (atmT s.name))) ∧ Below W.heap.size W w') := Lib.hid (fun W hW => rcode25 (fun b => b < w.heap.size) (hasU u 3) (atmT s.name) (atmX s.name) W (fun b hb => Nat.lt_of_lt_of_le hb hW.size) (atom_at _ _ s.name) (ok_atom HF.out.name).1 (fun q => okFld_valid (allFld_get HAL.out (i := 3) (by omega) q)))
  unfold ftV at CM
  dsimp only [atmX, nmbX] at CM
  have CC : Hid (∀ W, Below w.heap.size w W → Calls Tryz.prog 25 #[.bool (hasU u 4), ftV x.c] W fun e w' => e = .returned (.string (codeB (hasU u 4) s.ref)) ∧ Below W.heap.size W w') := Lib.hid (fun W hW => rcode25 (fun b => b < w.heap.size) (hasU u 4) s.ref x.c W (fun b hb => Nat.lt_of_lt_of_le hb hW.size) (HO.out.ref.old2.below hW (fun _ _ h => h)) HF.out.ref.1 (fun q => okFld_valid (allFld_get HAL.out (i := 4) (by omega) q)))
  unfold ftV at CC
  have CI : Hid (∀ W, Below w.heap.size w W → Calls Tryz.prog 25 #[.bool (hasU u 5), ftV (nmbX s.num)] W fun e w' => e = .returned (.string (codeB (hasU u 5) (nmbT s.num))) ∧ Below W.heap.size W w') := Lib.hid (fun W hW => rcode25 (fun b => b < w.heap.size) (hasU u 5) (nmbT s.num) (nmbX s.num) W (fun b hb => Nat.lt_of_lt_of_le hb hW.size) (int_at _ _ s.num) (ok_int HF.out.num).1 (fun q => okFld_valid (allFld_get HAL.out (i := 5) (by omega) q)))
  unfold ftV at CI
  dsimp only [atmX, nmbX] at CI
  have CD : Hid (∀ W, Below w.heap.size w W → Calls Tryz.prog 25 #[.bool (hasU u 6), ftV x.d] W fun e w' => e = .returned (.string (codeB (hasU u 6) s.val)) ∧ Below W.heap.size W w') := Lib.hid (fun W hW => rcode25 (fun b => b < w.heap.size) (hasU u 6) s.val x.d W (fun b hb => Nat.lt_of_lt_of_le hb hW.size) (HO.out.val.old2.below hW (fun _ _ h => h)) HF.out.val.1 (fun q => okFld_valid (allFld_get HAL.out (i := 6) (by omega) q)))
  unfold ftV at CD
  have HRR : Hid (EBB = bytesB (encP u s 0) ++ codeB (hasU u 0) s.fr ++ codeB (hasU u 1) s.tt ++ codeB (hasU u 2) (atmT s.node) ++ codeB (hasU u 3) (atmT s.name) ++ codeB (hasU u 4) s.ref ++ codeB (hasU u 5) (nmbT s.num) ++ codeB (hasU u 6) s.val) := Lib.hid (by rw [encB_seven, HEB.out]; unfold encB; rw [HVB.out, HUS.out]; rfl)
  clear HEB HEE
  have hs0 : (codeB (hasU u 0) s.fr).size ≤ 160000 := codeB_size (fun q => okFld_valid (allFld_get HAL.out (i := 0) (by omega) q)) HF.out.fr.1
  obtain ⟨G0, hG0⟩ : ∃ q, q = codeB (hasU u 0) s.fr := ⟨_, rfl⟩
  rw [← hG0] at CA HRR hs0
  clear hG0
  have hs1 : (codeB (hasU u 1) s.tt).size ≤ 160000 := codeB_size (fun q => okFld_valid (allFld_get HAL.out (i := 1) (by omega) q)) HF.out.tt.1
  obtain ⟨G1, hG1⟩ : ∃ q, q = codeB (hasU u 1) s.tt := ⟨_, rfl⟩
  rw [← hG1] at CB HRR hs1
  clear hG1
  have hs2 : (codeB (hasU u 2) (atmT s.node)).size ≤ 160000 := codeB_size (fun q => okFld_valid (allFld_get HAL.out (i := 2) (by omega) q)) (ok_atom HF.out.node).1
  obtain ⟨G2, hG2⟩ : ∃ q, q = codeB (hasU u 2) (atmT s.node) := ⟨_, rfl⟩
  rw [← hG2] at CN HRR hs2
  clear hG2
  have hs3 : (codeB (hasU u 3) (atmT s.name)).size ≤ 160000 := codeB_size (fun q => okFld_valid (allFld_get HAL.out (i := 3) (by omega) q)) (ok_atom HF.out.name).1
  obtain ⟨G3, hG3⟩ : ∃ q, q = codeB (hasU u 3) (atmT s.name) := ⟨_, rfl⟩
  rw [← hG3] at CM HRR hs3
  clear hG3
  have hs4 : (codeB (hasU u 4) s.ref).size ≤ 160000 := codeB_size (fun q => okFld_valid (allFld_get HAL.out (i := 4) (by omega) q)) HF.out.ref.1
  obtain ⟨G4, hG4⟩ : ∃ q, q = codeB (hasU u 4) s.ref := ⟨_, rfl⟩
  rw [← hG4] at CC HRR hs4
  clear hG4
  have hs5 : (codeB (hasU u 5) (nmbT s.num)).size ≤ 160000 := codeB_size (fun q => okFld_valid (allFld_get HAL.out (i := 5) (by omega) q)) (ok_int HF.out.num).1
  obtain ⟨G5, hG5⟩ : ∃ q, q = codeB (hasU u 5) (nmbT s.num) := ⟨_, rfl⟩
  rw [← hG5] at CI HRR hs5
  clear hG5
  have hs6 : (codeB (hasU u 6) s.val).size ≤ 160000 := codeB_size (fun q => okFld_valid (allFld_get HAL.out (i := 6) (by omega) q)) HF.out.val.1
  obtain ⟨G6, hG6⟩ : ∃ q, q = codeB (hasU u 6) s.val := ⟨_, rfl⟩
  rw [← hG6] at CD HRR hs6
  clear hG6
  clear HAL
  obtain ⟨p0, hp0⟩ : ∃ q, q = hasU u 0 := ⟨_, rfl⟩
  rw [← hp0] at CO CA
  clear hp0
  obtain ⟨p1, hp1⟩ : ∃ q, q = hasU u 1 := ⟨_, rfl⟩
  rw [← hp1] at CO CB
  clear hp1
  obtain ⟨p2, hp2⟩ : ∃ q, q = hasU u 2 := ⟨_, rfl⟩
  rw [← hp2] at CO CN
  clear hp2
  obtain ⟨p3, hp3⟩ : ∃ q, q = hasU u 3 := ⟨_, rfl⟩
  rw [← hp3] at CO CM
  clear hp3
  obtain ⟨p4, hp4⟩ : ∃ q, q = hasU u 4 := ⟨_, rfl⟩
  rw [← hp4] at CO CC
  clear hp4
  obtain ⟨p5, hp5⟩ : ∃ q, q = hasU u 5 := ⟨_, rfl⟩
  rw [← hp5] at CO CI
  clear hp5
  obtain ⟨p6, hp6⟩ : ∃ q, q = hasU u 6 := ⟨_, rfl⟩
  rw [← hp6] at CO CD
  clear hp6
  have q0 : w2.cell? ⟨m, 0, none⟩ = some (.int .i64 s.k) := (X.out.cell 0).trans (by rw [HCS.out]; rfl)
  go_wp2_with fail
  refine (CO.out _).mono ?_
  rintro e w3 ⟨rfl, b2⟩
  replace X := Lib.hid (X.out.below b2 X.out.lt)
  replace B := Lib.hid (HTR.out _ _ B.out b2)
  clear b2 q0 CO
  obtain ⟨mp, hz⟩ : ∃ q, q = w3.heap.size := ⟨_, rfl⟩
  have HZ := Lib.hid hz
  have hmz : m < mp := by rw [hz]; exact X.out.lt
  have P0 := Lib.hid (Blk.new w3 58 #[.bool false, .bool false, .bool false, .bool false, .bool false, .bool false, .bool false])
  have O0 := Lib.hid (Only.alloc [mp] w3 (.cells #[.bool false, .bool false, .bool false, .bool false, .bool false, .bool false, .bool false] 58))
  rw [← hz] at P0
  go_upto_region 4 with (rw [← hz]; refine wpList_store_blk rfl 58 _ _ rfl rfl mp #[.bool p0, .bool p1, .bool p2, .bool p3, .bool p4, .bool p5, .bool p6] _ 58 rfl rfl P0.out rfl (by kernel_rfl) (by simp [Value.oneCell']) ?_; intro v1 b1 o1)
  have BV := Lib.hid (show Below mp w3 v1 from (O0.out.trans o1).below (by simp) (by rw [HZ.out]; exact Nat.le_refl _))
  replace X := Lib.hid (X.out.below BV.out hmz)
  replace B := Lib.hid (HTR.out _ _ B.out (by rw [← HZ.out]; exact BV.out))
  have T := Lib.hid b1
  clear BV b1 o1 O0 P0 hz
  go_cut [6] from 999 (fun z6 wx => z6 = .string (bytesB [UInt8.ofNat (s.k % 256).toNat] ++ G0 ++ G1) ∧ Hid ( Blk wx m 26 CS ∧ Blk wx mp 58 #[.bool p0, .bool p1, .bool p2, .bool p3, .bool p4, .bool p5, .bool p6] ∧ Below m w wx))
  case first =>
   refine wp_region_held_drew (S := (fun w' => Blk w' m 26 CS ∧ Blk w' mp 58 #[.bool p0, .bool p1, .bool p2, .bool p3, .bool p4, .bool p5, .bool p6] ∧ Below m w w')) (by kernel_rfl) (⟨X.out.drew, T.out.drew, B.out.drew⟩) (fun hS => ?_)
   have NS0 := Lib.hid (And.intro X.out.drew (And.intro T.out.drew B.out.drew))
   clear hS X T B
   generalize v1.drew = w0 at *
   have hS := NS0.out
   clear NS0
   refine tk (i := 0) (v := ?_) rfl (by rfl) ?_ (by assumption) ?_
   rotate_left
   ·
    intro w hSw
    go_simp
    with_reducible rfl
   change wpAnyH _ _ _ _ _ _ _ (Act.put _ (some 16) _) _
   simp only [Act.put, List.setIfInBounds_toArray, List.set_cons_zero, List.set_cons_succ]
   refine tk (i := 1) (v := ?_) rfl (by rfl) ?_ (by assumption) ?_
   rotate_left
   ·
    intro w hSw
    have a0 : w.cell? ⟨m, 0, none⟩ = some (.int .i64 s.k) := (hSw.1.cell 0).trans (by rw [HCS.out]; rfl)
    go_simp
    with_reducible rfl
   change wpAnyH _ _ _ _ _ _ _ (Act.put _ (some 17) _) _
   simp only [Act.put, List.setIfInBounds_toArray, List.set_cons_zero, List.set_cons_succ]
   refine tk (i := 2) (v := ?_) rfl (by rfl) ?_ (by assumption) ?_
   rotate_left
   ·
    intro w hSw
    go_simp
    with_reducible rfl
   change wpAnyH _ _ _ _ _ _ _ (Act.put _ (some 18) _) _
   simp only [Act.put, List.setIfInBounds_toArray, List.set_cons_zero, List.set_cons_succ]
   refine tk (i := 5) (v := ?_) rfl (by rfl) ?_ (by assumption) ?_
   rotate_left
   ·
    intro w hSw
    go_simp
    with_reducible rfl
   change wpAnyH _ _ _ _ _ _ _ (Act.put _ (some 21) _) _
   simp only [Act.put, List.setIfInBounds_toArray, List.set_cons_zero, List.set_cons_succ]
   refine tk (i := 6) (v := ?_) rfl (by rfl) ?_ (by assumption) ?_
   rotate_left
   ·
    intro w hSw
    have cc := hSw.2.1.cell 0
    simp only [List.getElem?_toArray, List.getElem?_cons_zero] at cc
    go_simp
    with_reducible rfl
   change wpAnyH _ _ _ _ _ _ _ (Act.put _ (some 22) _) _
   simp only [Act.put, List.setIfInBounds_toArray, List.set_cons_zero, List.set_cons_succ]
   refine tk (i := 7) (v := ?_) rfl (by rfl) ?_ (by assumption) ?_
   rotate_left
   ·
    intro w hSw
    go_simp
    with_reducible rfl
   change wpAnyH _ _ _ _ _ _ _ (Act.put _ (some 23) _) _
   simp only [Act.put, List.setIfInBounds_toArray, List.set_cons_zero, List.set_cons_succ]
   refine tk (i := 8) (v := ?_) rfl (by rfl) ?_ (by assumption) ?_
   rotate_left
   ·
    intro w hSw
    have a0 : w.cell? ⟨m, 1, none⟩ = some (.int .i64 x.a.f.k) := (hSw.1.cell 1).trans (by rw [HCS.out]; rfl)
    have a1 : w.cell? ⟨m, 2, none⟩ = some (.int .i64 x.a.f.n) := (hSw.1.cell 2).trans (by rw [HCS.out]; rfl)
    have a2 : w.cell? ⟨m, 3, none⟩ = some (.int .i64 x.a.f.g) := (hSw.1.cell 3).trans (by rw [HCS.out]; rfl)
    have a3 : w.cell? ⟨m, 4, none⟩ = some (.string x.a.f.nm) := (hSw.1.cell 4).trans (by rw [HCS.out]; rfl)
    have a4 : w.cell? ⟨m, 5, none⟩ = some (.string x.a.f.fn) := (hSw.1.cell 5).trans (by rw [HCS.out]; rfl)
    have a5 : w.cell? ⟨m, 6, none⟩ = some (.int .i64 x.a.f.ar) := (hSw.1.cell 6).trans (by rw [HCS.out]; rfl)
    have a6 : w.cell? ⟨m, 7, none⟩ = some (x.a.v) := (hSw.1.cell 7).trans (by rw [HCS.out]; rfl)
    have a7 : w.cell? ⟨m, 8, none⟩ = some (.string x.a.f.bs) := (hSw.1.cell 8).trans (by rw [HCS.out]; rfl)
    have a8 : w.cell? ⟨m, 9, none⟩ = some (.int .i64 x.a.f.bt) := (hSw.1.cell 9).trans (by rw [HCS.out]; rfl)
    go_simp
    with_reducible rfl
   change wpAnyH _ _ _ _ _ _ _ (Act.put _ (some 24) _) _
   simp only [Act.put, List.setIfInBounds_toArray, List.set_cons_zero, List.set_cons_succ]
   refine tk (i := 11) (v := ?_) rfl (by rfl) ?_ (by assumption) ?_
   rotate_left
   ·
    intro w hSw
    go_simp
    with_reducible rfl
   change wpAnyH _ _ _ _ _ _ _ (Act.put _ (some 27) _) _
   simp only [Act.put, List.setIfInBounds_toArray, List.set_cons_zero, List.set_cons_succ]
   refine tk (i := 12) (v := ?_) rfl (by rfl) ?_ (by assumption) ?_
   rotate_left
   ·
    intro w hSw
    have cc := hSw.2.1.cell 1
    simp only [List.getElem?_toArray, List.getElem?_cons_zero, List.getElem?_cons_succ] at cc
    go_simp
    with_reducible rfl
   change wpAnyH _ _ _ _ _ _ _ (Act.put _ (some 28) _) _
   simp only [Act.put, List.setIfInBounds_toArray, List.set_cons_zero, List.set_cons_succ]
   refine tk (i := 13) (v := ?_) rfl (by rfl) ?_ (by assumption) ?_
   rotate_left
   ·
    intro w hSw
    go_simp
    with_reducible rfl
   change wpAnyH _ _ _ _ _ _ _ (Act.put _ (some 29) _) _
   simp only [Act.put, List.setIfInBounds_toArray, List.set_cons_zero, List.set_cons_succ]
   refine tk (i := 14) (v := ?_) rfl (by rfl) ?_ (by assumption) ?_
   rotate_left
   ·
    intro w hSw
    have a0 : w.cell? ⟨m, 10, none⟩ = some (.int .i64 x.b.f.k) := (hSw.1.cell 10).trans (by rw [HCS.out]; rfl)
    have a1 : w.cell? ⟨m, 11, none⟩ = some (.int .i64 x.b.f.n) := (hSw.1.cell 11).trans (by rw [HCS.out]; rfl)
    have a2 : w.cell? ⟨m, 12, none⟩ = some (.int .i64 x.b.f.g) := (hSw.1.cell 12).trans (by rw [HCS.out]; rfl)
    have a3 : w.cell? ⟨m, 13, none⟩ = some (.string x.b.f.nm) := (hSw.1.cell 13).trans (by rw [HCS.out]; rfl)
    have a4 : w.cell? ⟨m, 14, none⟩ = some (.string x.b.f.fn) := (hSw.1.cell 14).trans (by rw [HCS.out]; rfl)
    have a5 : w.cell? ⟨m, 15, none⟩ = some (.int .i64 x.b.f.ar) := (hSw.1.cell 15).trans (by rw [HCS.out]; rfl)
    have a6 : w.cell? ⟨m, 16, none⟩ = some (x.b.v) := (hSw.1.cell 16).trans (by rw [HCS.out]; rfl)
    have a7 : w.cell? ⟨m, 17, none⟩ = some (.string x.b.f.bs) := (hSw.1.cell 17).trans (by rw [HCS.out]; rfl)
    have a8 : w.cell? ⟨m, 18, none⟩ = some (.int .i64 x.b.f.bt) := (hSw.1.cell 18).trans (by rw [HCS.out]; rfl)
    go_simp
    with_reducible rfl
   change wpAnyH _ _ _ _ _ _ _ (Act.put _ (some 30) _) _
   simp only [Act.put, List.setIfInBounds_toArray, List.set_cons_zero, List.set_cons_succ]
   refine wpAnyH_ready (rs := [3, 9]) (by kernel_rfl) (by simp) ?_
   refine AllReadyH.cons rfl (fun K hK => ?_) (AllReadyH.cons rfl (fun K hK => ?_) AllReadyH.nil)
   ·
    obtain ⟨g, hg⟩ : ∃ q, q = w0.heap.size := ⟨_, rfl⟩
    have HB := Lib.hid (Blk.new w0 5 #[.int .u8 (s.k % 256)])
    have NS := Lib.hid (And.intro (hS.1.alloc (.cells #[.int .u8 (s.k % 256)] 5)) (And.intro (hS.2.1.alloc (.cells #[.int .u8 (s.k % 256)] 5)) (HTR.out _ _ hS.2.2 ((Below.refl w0.heap.size w0).alloc (Nat.le_refl _) (.cells #[.int .u8 (s.k % 256)] 5)))))
    rw [← hg] at HB
    go_wp2_with fail
    rw [← hg]
    generalize w0.alloc (.cells #[.int .u8 (s.k % 256)] 5) = y1 at HB NS ⊢
    clear hg
    refine hK.out _ _ NS.out (fun hS => ?_)
    clear hK K NS
    try simp only [Act.put, List.setIfInBounds_toArray, List.set_cons_zero, List.set_cons_succ]
    refine wpAnyH_ready (rs := [4, 9]) (by kernel_rfl) (by simp) ?_
    refine AllReadyH.cons rfl (fun K hK => ?_) (AllReadyH.cons rfl (fun K hK => ?_) AllReadyH.nil)
    ·
     have HRC := Lib.hid (conv_one y1 g s.k HB.out)
     clear HB
     go_simp
     rw [HRC.out]
     go_simp
     clear HRC
     refine hK.out _ _ hS (fun hS => ?_)
     clear hK K
     try simp only [Act.put, List.setIfInBounds_toArray, List.set_cons_zero, List.set_cons_succ]
     refine wpAnyH_ready (rs := [9]) (by kernel_rfl) (by simp) ?_
     refine AllReadyH.cons rfl (fun K hK => ?_) AllReadyH.nil
     try go_simp
     refine (CA.out _ (HTO.out _ hS.2.2)).mono ?_
     rintro e y2 ⟨rfl, bb⟩
     have NS := Lib.hid (And.intro (hS.1.below bb hS.1.lt) (And.intro (hS.2.1.below bb hS.2.1.lt) (HTR.out _ _ hS.2.2 bb)))
     clear bb
     go_wp2_with fail
     refine hK.out _ _ NS.out (fun hS => ?_)
     clear hK K NS
     try simp only [Act.put, List.setIfInBounds_toArray, List.set_cons_zero, List.set_cons_succ]
     refine tk (i := 10) (v := ?_) rfl (by rfl) ?_ (by assumption) ?_
     rotate_left
     ·
      intro w hSw
      go_simp
      rw [if_neg (by (try simp only [one_size]); omega)]
     change wpAnyH _ _ _ _ _ _ _ (Act.put _ (some 26) _) _
     simp only [Act.put, List.setIfInBounds_toArray, List.set_cons_zero, List.set_cons_succ]
     refine wpAnyH_ready (rs := [15]) (by kernel_rfl) (by simp) ?_
     refine AllReadyH.cons rfl (fun K hK => ?_) AllReadyH.nil
     try go_simp
     refine (CB.out _ (HTO.out _ hS.2.2)).mono ?_
     rintro e y3 ⟨rfl, bb⟩
     have NS := Lib.hid (And.intro (hS.1.below bb hS.1.lt) (And.intro (hS.2.1.below bb hS.2.1.lt) (HTR.out _ _ hS.2.2 bb)))
     clear bb
     go_wp2_with fail
     refine hK.out _ _ NS.out (fun hS => ?_)
     clear hK K NS
     try simp only [Act.put, List.setIfInBounds_toArray, List.set_cons_zero, List.set_cons_succ]
     refine tk (i := 16) (v := ?_) rfl (by rfl) ?_ (by assumption) ?_
     rotate_left
     ·
      intro w hSw
      go_simp
      rw [if_neg (by (try simp only [one_size]); omega)]
     change wpAnyH _ _ _ _ _ _ _ (Act.put _ (some 32) _) _
     simp only [Act.put, List.setIfInBounds_toArray, List.set_cons_zero, List.set_cons_succ]
     refine tk (i := 17) (v := ?_) rfl (by rfl) ?_ (by assumption) ?_
     rotate_left
     ·
      intro w hSw
      go_simp
      with_reducible rfl
     change wpAnyH _ _ _ _ _ _ _ (Act.put _ (some 6) _) _
     simp only [Act.put, List.setIfInBounds_toArray, List.set_cons_zero, List.set_cons_succ]
     refine wpAnyH_done (by kernel_rfl) ?_ _
     go_wp2_with fail
     go_meet
     exact ⟨rfl, Lib.hid hS⟩
    ·
     try go_simp
     refine (CA.out _ (HTO.out _ hS.2.2)).mono ?_
     rintro e y4 ⟨rfl, bb⟩
     have NS := Lib.hid (And.intro (hS.1.below bb hS.1.lt) (And.intro (hS.2.1.below bb hS.2.1.lt) (HTR.out _ _ hS.2.2 bb)))
     replace HB := Lib.hid (HB.out.below bb HB.out.lt)
     clear bb
     go_wp2_with fail
     refine hK.out _ _ NS.out (fun hS => ?_)
     clear hK K NS
     try simp only [Act.put, List.setIfInBounds_toArray, List.set_cons_zero, List.set_cons_succ]
     refine wpAnyH_ready (rs := [4, 15]) (by kernel_rfl) (by simp) ?_
     refine AllReadyH.cons rfl (fun K hK => ?_) (AllReadyH.cons rfl (fun K hK => ?_) AllReadyH.nil)
     ·
      have HRC := Lib.hid (conv_one y4 g s.k HB.out)
      clear HB
      go_simp
      rw [HRC.out]
      go_simp
      clear HRC
      refine hK.out _ _ hS (fun hS => ?_)
      clear hK K
      try simp only [Act.put, List.setIfInBounds_toArray, List.set_cons_zero, List.set_cons_succ]
      refine tk (i := 10) (v := ?_) rfl (by rfl) ?_ (by assumption) ?_
      rotate_left
      ·
       intro w hSw
       go_simp
       rw [if_neg (by (try simp only [one_size]); omega)]
      change wpAnyH _ _ _ _ _ _ _ (Act.put _ (some 26) _) _
      simp only [Act.put, List.setIfInBounds_toArray, List.set_cons_zero, List.set_cons_succ]
      refine wpAnyH_ready (rs := [15]) (by kernel_rfl) (by simp) ?_
      refine AllReadyH.cons rfl (fun K hK => ?_) AllReadyH.nil
      try go_simp
      refine (CB.out _ (HTO.out _ hS.2.2)).mono ?_
      rintro e y5 ⟨rfl, bb⟩
      have NS := Lib.hid (And.intro (hS.1.below bb hS.1.lt) (And.intro (hS.2.1.below bb hS.2.1.lt) (HTR.out _ _ hS.2.2 bb)))
      clear bb
      go_wp2_with fail
      refine hK.out _ _ NS.out (fun hS => ?_)
      clear hK K NS
      try simp only [Act.put, List.setIfInBounds_toArray, List.set_cons_zero, List.set_cons_succ]
      refine tk (i := 16) (v := ?_) rfl (by rfl) ?_ (by assumption) ?_
      rotate_left
      ·
       intro w hSw
       go_simp
       rw [if_neg (by (try simp only [one_size]); omega)]
      change wpAnyH _ _ _ _ _ _ _ (Act.put _ (some 32) _) _
      simp only [Act.put, List.setIfInBounds_toArray, List.set_cons_zero, List.set_cons_succ]
      refine tk (i := 17) (v := ?_) rfl (by rfl) ?_ (by assumption) ?_
      rotate_left
      ·
       intro w hSw
       go_simp
       with_reducible rfl
      change wpAnyH _ _ _ _ _ _ _ (Act.put _ (some 6) _) _
      simp only [Act.put, List.setIfInBounds_toArray, List.set_cons_zero, List.set_cons_succ]
      refine wpAnyH_done (by kernel_rfl) ?_ _
      go_wp2_with fail
      go_meet
      exact ⟨rfl, Lib.hid hS⟩
     ·
      try go_simp
      refine (CB.out _ (HTO.out _ hS.2.2)).mono ?_
      rintro e y6 ⟨rfl, bb⟩
      have NS := Lib.hid (And.intro (hS.1.below bb hS.1.lt) (And.intro (hS.2.1.below bb hS.2.1.lt) (HTR.out _ _ hS.2.2 bb)))
      replace HB := Lib.hid (HB.out.below bb HB.out.lt)
      clear bb
      go_wp2_with fail
      refine hK.out _ _ NS.out (fun hS => ?_)
      clear hK K NS
      try simp only [Act.put, List.setIfInBounds_toArray, List.set_cons_zero, List.set_cons_succ]
      refine wpAnyH_ready (rs := [4]) (by kernel_rfl) (by simp) ?_
      refine AllReadyH.cons rfl (fun K hK => ?_) AllReadyH.nil
      have HRC := Lib.hid (conv_one y6 g s.k HB.out)
      clear HB
      go_simp
      rw [HRC.out]
      go_simp
      clear HRC
      refine hK.out _ _ hS (fun hS => ?_)
      clear hK K
      try simp only [Act.put, List.setIfInBounds_toArray, List.set_cons_zero, List.set_cons_succ]
      refine tk (i := 10) (v := ?_) rfl (by rfl) ?_ (by assumption) ?_
      rotate_left
      ·
       intro w hSw
       go_simp
       rw [if_neg (by (try simp only [one_size]); omega)]
      change wpAnyH _ _ _ _ _ _ _ (Act.put _ (some 26) _) _
      simp only [Act.put, List.setIfInBounds_toArray, List.set_cons_zero, List.set_cons_succ]
      refine tk (i := 16) (v := ?_) rfl (by rfl) ?_ (by assumption) ?_
      rotate_left
      ·
       intro w hSw
       go_simp
       rw [if_neg (by (try simp only [one_size]); omega)]
      change wpAnyH _ _ _ _ _ _ _ (Act.put _ (some 32) _) _
      simp only [Act.put, List.setIfInBounds_toArray, List.set_cons_zero, List.set_cons_succ]
      refine tk (i := 17) (v := ?_) rfl (by rfl) ?_ (by assumption) ?_
      rotate_left
      ·
       intro w hSw
       go_simp
       with_reducible rfl
      change wpAnyH _ _ _ _ _ _ _ (Act.put _ (some 6) _) _
      simp only [Act.put, List.setIfInBounds_toArray, List.set_cons_zero, List.set_cons_succ]
      refine wpAnyH_done (by kernel_rfl) ?_ _
      go_wp2_with fail
      go_meet
      exact ⟨rfl, Lib.hid hS⟩
   ·
    try go_simp
    refine (CA.out _ (HTO.out _ hS.2.2)).mono ?_
    rintro e y7 ⟨rfl, bb⟩
    have NS := Lib.hid (And.intro (hS.1.below bb hS.1.lt) (And.intro (hS.2.1.below bb hS.2.1.lt) (HTR.out _ _ hS.2.2 bb)))
    clear bb
    go_wp2_with fail
    refine hK.out _ _ NS.out (fun hS => ?_)
    clear hK K NS
    try simp only [Act.put, List.setIfInBounds_toArray, List.set_cons_zero, List.set_cons_succ]
    refine wpAnyH_ready (rs := [3, 15]) (by kernel_rfl) (by simp) ?_
    refine AllReadyH.cons rfl (fun K hK => ?_) (AllReadyH.cons rfl (fun K hK => ?_) AllReadyH.nil)
    ·
     obtain ⟨g, hg⟩ : ∃ q, q = y7.heap.size := ⟨_, rfl⟩
     have HB := Lib.hid (Blk.new y7 5 #[.int .u8 (s.k % 256)])
     have NS := Lib.hid (And.intro (hS.1.alloc (.cells #[.int .u8 (s.k % 256)] 5)) (And.intro (hS.2.1.alloc (.cells #[.int .u8 (s.k % 256)] 5)) (HTR.out _ _ hS.2.2 ((Below.refl y7.heap.size y7).alloc (Nat.le_refl _) (.cells #[.int .u8 (s.k % 256)] 5)))))
     rw [← hg] at HB
     go_wp2_with fail
     rw [← hg]
     generalize y7.alloc (.cells #[.int .u8 (s.k % 256)] 5) = y8 at HB NS ⊢
     clear hg
     refine hK.out _ _ NS.out (fun hS => ?_)
     clear hK K NS
     try simp only [Act.put, List.setIfInBounds_toArray, List.set_cons_zero, List.set_cons_succ]
     refine wpAnyH_ready (rs := [4, 15]) (by kernel_rfl) (by simp) ?_
     refine AllReadyH.cons rfl (fun K hK => ?_) (AllReadyH.cons rfl (fun K hK => ?_) AllReadyH.nil)
     ·
      have HRC := Lib.hid (conv_one y8 g s.k HB.out)
      clear HB
      go_simp
      rw [HRC.out]
      go_simp
      clear HRC
      refine hK.out _ _ hS (fun hS => ?_)
      clear hK K
      try simp only [Act.put, List.setIfInBounds_toArray, List.set_cons_zero, List.set_cons_succ]
      refine tk (i := 10) (v := ?_) rfl (by rfl) ?_ (by assumption) ?_
      rotate_left
      ·
       intro w hSw
       go_simp
       rw [if_neg (by (try simp only [one_size]); omega)]
      change wpAnyH _ _ _ _ _ _ _ (Act.put _ (some 26) _) _
      simp only [Act.put, List.setIfInBounds_toArray, List.set_cons_zero, List.set_cons_succ]
      refine wpAnyH_ready (rs := [15]) (by kernel_rfl) (by simp) ?_
      refine AllReadyH.cons rfl (fun K hK => ?_) AllReadyH.nil
      try go_simp
      refine (CB.out _ (HTO.out _ hS.2.2)).mono ?_
      rintro e y9 ⟨rfl, bb⟩
      have NS := Lib.hid (And.intro (hS.1.below bb hS.1.lt) (And.intro (hS.2.1.below bb hS.2.1.lt) (HTR.out _ _ hS.2.2 bb)))
      clear bb
      go_wp2_with fail
      refine hK.out _ _ NS.out (fun hS => ?_)
      clear hK K NS
      try simp only [Act.put, List.setIfInBounds_toArray, List.set_cons_zero, List.set_cons_succ]
      refine tk (i := 16) (v := ?_) rfl (by rfl) ?_ (by assumption) ?_
      rotate_left
      ·
       intro w hSw
       go_simp
       rw [if_neg (by (try simp only [one_size]); omega)]
      change wpAnyH _ _ _ _ _ _ _ (Act.put _ (some 32) _) _
      simp only [Act.put, List.setIfInBounds_toArray, List.set_cons_zero, List.set_cons_succ]
      refine tk (i := 17) (v := ?_) rfl (by rfl) ?_ (by assumption) ?_
      rotate_left
      ·
       intro w hSw
       go_simp
       with_reducible rfl
      change wpAnyH _ _ _ _ _ _ _ (Act.put _ (some 6) _) _
      simp only [Act.put, List.setIfInBounds_toArray, List.set_cons_zero, List.set_cons_succ]
      refine wpAnyH_done (by kernel_rfl) ?_ _
      go_wp2_with fail
      go_meet
      exact ⟨rfl, Lib.hid hS⟩
     ·
      try go_simp
      refine (CB.out _ (HTO.out _ hS.2.2)).mono ?_
      rintro e y10 ⟨rfl, bb⟩
      have NS := Lib.hid (And.intro (hS.1.below bb hS.1.lt) (And.intro (hS.2.1.below bb hS.2.1.lt) (HTR.out _ _ hS.2.2 bb)))
      replace HB := Lib.hid (HB.out.below bb HB.out.lt)
      clear bb
      go_wp2_with fail
      refine hK.out _ _ NS.out (fun hS => ?_)
      clear hK K NS
      try simp only [Act.put, List.setIfInBounds_toArray, List.set_cons_zero, List.set_cons_succ]
      refine wpAnyH_ready (rs := [4]) (by kernel_rfl) (by simp) ?_
      refine AllReadyH.cons rfl (fun K hK => ?_) AllReadyH.nil
      have HRC := Lib.hid (conv_one y10 g s.k HB.out)
      clear HB
      go_simp
      rw [HRC.out]
      go_simp
      clear HRC
      refine hK.out _ _ hS (fun hS => ?_)
      clear hK K
      try simp only [Act.put, List.setIfInBounds_toArray, List.set_cons_zero, List.set_cons_succ]
      refine tk (i := 10) (v := ?_) rfl (by rfl) ?_ (by assumption) ?_
      rotate_left
      ·
       intro w hSw
       go_simp
       rw [if_neg (by (try simp only [one_size]); omega)]
      change wpAnyH _ _ _ _ _ _ _ (Act.put _ (some 26) _) _
      simp only [Act.put, List.setIfInBounds_toArray, List.set_cons_zero, List.set_cons_succ]
      refine tk (i := 16) (v := ?_) rfl (by rfl) ?_ (by assumption) ?_
      rotate_left
      ·
       intro w hSw
       go_simp
       rw [if_neg (by (try simp only [one_size]); omega)]
      change wpAnyH _ _ _ _ _ _ _ (Act.put _ (some 32) _) _
      simp only [Act.put, List.setIfInBounds_toArray, List.set_cons_zero, List.set_cons_succ]
      refine tk (i := 17) (v := ?_) rfl (by rfl) ?_ (by assumption) ?_
      rotate_left
      ·
       intro w hSw
       go_simp
       with_reducible rfl
      change wpAnyH _ _ _ _ _ _ _ (Act.put _ (some 6) _) _
      simp only [Act.put, List.setIfInBounds_toArray, List.set_cons_zero, List.set_cons_succ]
      refine wpAnyH_done (by kernel_rfl) ?_ _
      go_wp2_with fail
      go_meet
      exact ⟨rfl, Lib.hid hS⟩
    ·
     try go_simp
     refine (CB.out _ (HTO.out _ hS.2.2)).mono ?_
     rintro e y11 ⟨rfl, bb⟩
     have NS := Lib.hid (And.intro (hS.1.below bb hS.1.lt) (And.intro (hS.2.1.below bb hS.2.1.lt) (HTR.out _ _ hS.2.2 bb)))
     clear bb
     go_wp2_with fail
     refine hK.out _ _ NS.out (fun hS => ?_)
     clear hK K NS
     try simp only [Act.put, List.setIfInBounds_toArray, List.set_cons_zero, List.set_cons_succ]
     refine wpAnyH_ready (rs := [3]) (by kernel_rfl) (by simp) ?_
     refine AllReadyH.cons rfl (fun K hK => ?_) AllReadyH.nil
     obtain ⟨g, hg⟩ : ∃ q, q = y11.heap.size := ⟨_, rfl⟩
     have HB := Lib.hid (Blk.new y11 5 #[.int .u8 (s.k % 256)])
     have NS := Lib.hid (And.intro (hS.1.alloc (.cells #[.int .u8 (s.k % 256)] 5)) (And.intro (hS.2.1.alloc (.cells #[.int .u8 (s.k % 256)] 5)) (HTR.out _ _ hS.2.2 ((Below.refl y11.heap.size y11).alloc (Nat.le_refl _) (.cells #[.int .u8 (s.k % 256)] 5)))))
     rw [← hg] at HB
     go_wp2_with fail
     rw [← hg]
     generalize y11.alloc (.cells #[.int .u8 (s.k % 256)] 5) = y12 at HB NS ⊢
     clear hg
     refine hK.out _ _ NS.out (fun hS => ?_)
     clear hK K NS
     try simp only [Act.put, List.setIfInBounds_toArray, List.set_cons_zero, List.set_cons_succ]
     refine wpAnyH_ready (rs := [4]) (by kernel_rfl) (by simp) ?_
     refine AllReadyH.cons rfl (fun K hK => ?_) AllReadyH.nil
     have HRC := Lib.hid (conv_one y12 g s.k HB.out)
     clear HB
     go_simp
     rw [HRC.out]
     go_simp
     clear HRC
     refine hK.out _ _ hS (fun hS => ?_)
     clear hK K
     try simp only [Act.put, List.setIfInBounds_toArray, List.set_cons_zero, List.set_cons_succ]
     refine tk (i := 10) (v := ?_) rfl (by rfl) ?_ (by assumption) ?_
     rotate_left
     ·
      intro w hSw
      go_simp
      rw [if_neg (by (try simp only [one_size]); omega)]
     change wpAnyH _ _ _ _ _ _ _ (Act.put _ (some 26) _) _
     simp only [Act.put, List.setIfInBounds_toArray, List.set_cons_zero, List.set_cons_succ]
     refine tk (i := 16) (v := ?_) rfl (by rfl) ?_ (by assumption) ?_
     rotate_left
     ·
      intro w hSw
      go_simp
      rw [if_neg (by (try simp only [one_size]); omega)]
     change wpAnyH _ _ _ _ _ _ _ (Act.put _ (some 32) _) _
     simp only [Act.put, List.setIfInBounds_toArray, List.set_cons_zero, List.set_cons_succ]
     refine tk (i := 17) (v := ?_) rfl (by rfl) ?_ (by assumption) ?_
     rotate_left
     ·
      intro w hSw
      go_simp
      with_reducible rfl
     change wpAnyH _ _ _ _ _ _ _ (Act.put _ (some 6) _) _
     simp only [Act.put, List.setIfInBounds_toArray, List.set_cons_zero, List.set_cons_succ]
     refine wpAnyH_done (by kernel_rfl) ?_ _
     go_wp2_with fail
     go_meet
     exact ⟨rfl, Lib.hid hS⟩
  case rest =>
   obtain ⟨rfl, HC⟩ := hcut
   obtain ⟨Q, hQ⟩ : ∃ q, q = bytesB [UInt8.ofNat (s.k % 256).toNat] ++ G0 ++ G1 := ⟨_, rfl⟩
   have HQ := Lib.hid hQ
   have hqs : Q.size ≤ 1000000 := by rw [hQ]; (simp only [ByteArray.size_append, one_size]); omega
   rw [← hQ]
   clear hQ
   go_upto_region 5 with fail
   refine wp_region_held_drew (S := (fun w' => Blk w' m 26 CS ∧ Blk w' mp 58 #[.bool p0, .bool p1, .bool p2, .bool p3, .bool p4, .bool p5, .bool p6] ∧ Below m w w')) (by kernel_rfl) (⟨HC.out.1.drew, HC.out.2.1.drew, HC.out.2.2.drew⟩) (fun hS => ?_)
   have NS0 := Lib.hid (And.intro HC.out.1.drew (And.intro HC.out.2.1.drew HC.out.2.2.drew))
   clear hS HC
   generalize wc.drew = w5 at *
   have hS := NS0.out
   clear NS0
   refine tk (i := 0) (v := ?_) rfl (by rfl) ?_ (by assumption) ?_
   rotate_left
   ·
    intro w hSw
    go_simp
    with_reducible rfl
   change wpAnyH _ _ _ _ _ _ _ (Act.put _ (some 33) _) _
   simp only [Act.put, List.setIfInBounds_toArray, List.set_cons_zero, List.set_cons_succ]
   refine tk (i := 1) (v := ?_) rfl (by rfl) ?_ (by assumption) ?_
   rotate_left
   ·
    intro w hSw
    go_simp
    with_reducible rfl
   change wpAnyH _ _ _ _ _ _ _ (Act.put _ (some 34) _) _
   simp only [Act.put, List.setIfInBounds_toArray, List.set_cons_zero, List.set_cons_succ]
   refine tk (i := 2) (v := ?_) rfl (by rfl) ?_ (by assumption) ?_
   rotate_left
   ·
    intro w hSw
    have cc := hSw.2.1.cell 2
    simp only [List.getElem?_toArray, List.getElem?_cons_zero, List.getElem?_cons_succ] at cc
    go_simp
    with_reducible rfl
   change wpAnyH _ _ _ _ _ _ _ (Act.put _ (some 35) _) _
   simp only [Act.put, List.setIfInBounds_toArray, List.set_cons_zero, List.set_cons_succ]
   refine tk (i := 3) (v := ?_) rfl (by rfl) ?_ (by assumption) ?_
   rotate_left
   ·
    intro w hSw
    go_simp
    with_reducible rfl
   change wpAnyH _ _ _ _ _ _ _ (Act.put _ (some 36) _) _
   simp only [Act.put, List.setIfInBounds_toArray, List.set_cons_zero, List.set_cons_succ]
   refine tk (i := 4) (v := ?_) rfl (by rfl) ?_ (by assumption) ?_
   rotate_left
   ·
    intro w hSw
    have a0 : w.cell? ⟨m, 19, none⟩ = some (.string s.node) := (hSw.1.cell 19).trans (by rw [HCS.out]; rfl)
    go_simp
    with_reducible rfl
   change wpAnyH _ _ _ _ _ _ _ (Act.put _ (some 37) _) _
   simp only [Act.put, List.setIfInBounds_toArray, List.set_cons_zero, List.set_cons_succ]
   refine tk (i := 8) (v := ?_) rfl (by rfl) ?_ (by assumption) ?_
   rotate_left
   ·
    intro w hSw
    go_simp
    with_reducible rfl
   change wpAnyH _ _ _ _ _ _ _ (Act.put _ (some 41) _) _
   simp only [Act.put, List.setIfInBounds_toArray, List.set_cons_zero, List.set_cons_succ]
   refine tk (i := 9) (v := ?_) rfl (by rfl) ?_ (by assumption) ?_
   rotate_left
   ·
    intro w hSw
    have cc := hSw.2.1.cell 3
    simp only [List.getElem?_toArray, List.getElem?_cons_zero, List.getElem?_cons_succ] at cc
    go_simp
    with_reducible rfl
   change wpAnyH _ _ _ _ _ _ _ (Act.put _ (some 42) _) _
   simp only [Act.put, List.setIfInBounds_toArray, List.set_cons_zero, List.set_cons_succ]
   refine tk (i := 10) (v := ?_) rfl (by rfl) ?_ (by assumption) ?_
   rotate_left
   ·
    intro w hSw
    go_simp
    with_reducible rfl
   change wpAnyH _ _ _ _ _ _ _ (Act.put _ (some 43) _) _
   simp only [Act.put, List.setIfInBounds_toArray, List.set_cons_zero, List.set_cons_succ]
   refine tk (i := 11) (v := ?_) rfl (by rfl) ?_ (by assumption) ?_
   rotate_left
   ·
    intro w hSw
    have a0 : w.cell? ⟨m, 20, none⟩ = some (.string s.name) := (hSw.1.cell 20).trans (by rw [HCS.out]; rfl)
    go_simp
    with_reducible rfl
   change wpAnyH _ _ _ _ _ _ _ (Act.put _ (some 44) _) _
   simp only [Act.put, List.setIfInBounds_toArray, List.set_cons_zero, List.set_cons_succ]
   refine wpAnyH_ready (rs := [5]) (by kernel_rfl) (by simp) ?_
   refine AllReadyH.cons rfl (fun K hK => ?_) AllReadyH.nil
   try go_simp
   refine (ratom26 s.node _).mono ?_
   rintro e y13 ⟨rfl, bb⟩
   have NS := Lib.hid (And.intro (hS.1.below bb hS.1.lt) (And.intro (hS.2.1.below bb hS.2.1.lt) (HTR.out _ _ hS.2.2 bb)))
   clear bb
   go_wp2_with fail
   refine hK.out _ _ NS.out (fun hS => ?_)
   clear hK K NS
   try simp only [Act.put, List.setIfInBounds_toArray, List.set_cons_zero, List.set_cons_succ]
   try unfold ftV
   try dsimp only [atmX, nmbX]
   refine wpAnyH_ready (rs := [6]) (by kernel_rfl) (by simp) ?_
   refine AllReadyH.cons rfl (fun K hK => ?_) AllReadyH.nil
   try go_simp
   refine (CN.out _ (HTO.out _ hS.2.2)).mono ?_
   rintro e y14 ⟨rfl, bb⟩
   have NS := Lib.hid (And.intro (hS.1.below bb hS.1.lt) (And.intro (hS.2.1.below bb hS.2.1.lt) (HTR.out _ _ hS.2.2 bb)))
   clear bb
   go_wp2_with fail
   refine hK.out _ _ NS.out (fun hS => ?_)
   clear hK K NS
   try simp only [Act.put, List.setIfInBounds_toArray, List.set_cons_zero, List.set_cons_succ]
   refine tk (i := 7) (v := ?_) rfl (by rfl) ?_ (by assumption) ?_
   rotate_left
   ·
    intro w hSw
    go_simp
    rw [if_neg (by (try simp only [ByteArray.size_append, one_size]); omega)]
   change wpAnyH _ _ _ _ _ _ _ (Act.put _ (some 40) _) _
   simp only [Act.put, List.setIfInBounds_toArray, List.set_cons_zero, List.set_cons_succ]
   refine wpAnyH_ready (rs := [12]) (by kernel_rfl) (by simp) ?_
   refine AllReadyH.cons rfl (fun K hK => ?_) AllReadyH.nil
   try go_simp
   refine (ratom26 s.name _).mono ?_
   rintro e y15 ⟨rfl, bb⟩
   have NS := Lib.hid (And.intro (hS.1.below bb hS.1.lt) (And.intro (hS.2.1.below bb hS.2.1.lt) (HTR.out _ _ hS.2.2 bb)))
   clear bb
   go_wp2_with fail
   refine hK.out _ _ NS.out (fun hS => ?_)
   clear hK K NS
   try simp only [Act.put, List.setIfInBounds_toArray, List.set_cons_zero, List.set_cons_succ]
   try unfold ftV
   try dsimp only [atmX, nmbX]
   refine wpAnyH_ready (rs := [13]) (by kernel_rfl) (by simp) ?_
   refine AllReadyH.cons rfl (fun K hK => ?_) AllReadyH.nil
   try go_simp
   refine (CM.out _ (HTO.out _ hS.2.2)).mono ?_
   rintro e y16 ⟨rfl, bb⟩
   have NS := Lib.hid (And.intro (hS.1.below bb hS.1.lt) (And.intro (hS.2.1.below bb hS.2.1.lt) (HTR.out _ _ hS.2.2 bb)))
   clear bb
   go_wp2_with fail
   refine hK.out _ _ NS.out (fun hS => ?_)
   clear hK K NS
   try simp only [Act.put, List.setIfInBounds_toArray, List.set_cons_zero, List.set_cons_succ]
   refine tk (i := 14) (v := ?_) rfl (by rfl) ?_ (by assumption) ?_
   rotate_left
   ·
    intro w hSw
    go_simp
    rw [if_neg (by (try simp only [ByteArray.size_append, one_size]); omega)]
   change wpAnyH _ _ _ _ _ _ _ (Act.put _ (some 47) _) _
   simp only [Act.put, List.setIfInBounds_toArray, List.set_cons_zero, List.set_cons_succ]
   refine tk (i := 15) (v := ?_) rfl (by rfl) ?_ (by assumption) ?_
   rotate_left
   ·
    intro w hSw
    go_simp
    with_reducible rfl
   change wpAnyH _ _ _ _ _ _ _ (Act.put _ (some 6) _) _
   simp only [Act.put, List.setIfInBounds_toArray, List.set_cons_zero, List.set_cons_succ]
   refine wpAnyH_done (by kernel_rfl) ?_ _
   have HC := Lib.hid hS
   clear hS
   go_upto_region 6 with fail
   refine wp_region_held_drew (S := (fun w' => Blk w' m 26 CS ∧ Blk w' mp 58 #[.bool p0, .bool p1, .bool p2, .bool p3, .bool p4, .bool p5, .bool p6] ∧ Below m w w')) (by kernel_rfl) (⟨HC.out.1.drew, HC.out.2.1.drew, HC.out.2.2.drew⟩) (fun hS => ?_)
   have NS0 := Lib.hid (And.intro HC.out.1.drew (And.intro HC.out.2.1.drew HC.out.2.2.drew))
   clear hS HC
   generalize y16.drew = w6 at *
   have hS := NS0.out
   clear NS0
   refine tk (i := 0) (v := ?_) rfl (by rfl) ?_ (by assumption) ?_
   rotate_left
   ·
    intro w hSw
    go_simp
    with_reducible rfl
   change wpAnyH _ _ _ _ _ _ _ (Act.put _ (some 48) _) _
   simp only [Act.put, List.setIfInBounds_toArray, List.set_cons_zero, List.set_cons_succ]
   refine tk (i := 1) (v := ?_) rfl (by rfl) ?_ (by assumption) ?_
   rotate_left
   ·
    intro w hSw
    go_simp
    with_reducible rfl
   change wpAnyH _ _ _ _ _ _ _ (Act.put _ (some 49) _) _
   simp only [Act.put, List.setIfInBounds_toArray, List.set_cons_zero, List.set_cons_succ]
   refine tk (i := 2) (v := ?_) rfl (by rfl) ?_ (by assumption) ?_
   rotate_left
   ·
    intro w hSw
    have cc := hSw.2.1.cell 4
    simp only [List.getElem?_toArray, List.getElem?_cons_zero, List.getElem?_cons_succ] at cc
    go_simp
    with_reducible rfl
   change wpAnyH _ _ _ _ _ _ _ (Act.put _ (some 50) _) _
   simp only [Act.put, List.setIfInBounds_toArray, List.set_cons_zero, List.set_cons_succ]
   refine tk (i := 3) (v := ?_) rfl (by rfl) ?_ (by assumption) ?_
   rotate_left
   ·
    intro w hSw
    go_simp
    with_reducible rfl
   change wpAnyH _ _ _ _ _ _ _ (Act.put _ (some 51) _) _
   simp only [Act.put, List.setIfInBounds_toArray, List.set_cons_zero, List.set_cons_succ]
   refine tk (i := 4) (v := ?_) rfl (by rfl) ?_ (by assumption) ?_
   rotate_left
   ·
    intro w hSw
    have a0 : w.cell? ⟨m, 21, none⟩ = some (.int .i64 x.c.f.k) := (hSw.1.cell 21).trans (by rw [HCS.out]; rfl)
    have a1 : w.cell? ⟨m, 22, none⟩ = some (.int .i64 x.c.f.n) := (hSw.1.cell 22).trans (by rw [HCS.out]; rfl)
    have a2 : w.cell? ⟨m, 23, none⟩ = some (.int .i64 x.c.f.g) := (hSw.1.cell 23).trans (by rw [HCS.out]; rfl)
    have a3 : w.cell? ⟨m, 24, none⟩ = some (.string x.c.f.nm) := (hSw.1.cell 24).trans (by rw [HCS.out]; rfl)
    have a4 : w.cell? ⟨m, 25, none⟩ = some (.string x.c.f.fn) := (hSw.1.cell 25).trans (by rw [HCS.out]; rfl)
    have a5 : w.cell? ⟨m, 26, none⟩ = some (.int .i64 x.c.f.ar) := (hSw.1.cell 26).trans (by rw [HCS.out]; rfl)
    have a6 : w.cell? ⟨m, 27, none⟩ = some (x.c.v) := (hSw.1.cell 27).trans (by rw [HCS.out]; rfl)
    have a7 : w.cell? ⟨m, 28, none⟩ = some (.string x.c.f.bs) := (hSw.1.cell 28).trans (by rw [HCS.out]; rfl)
    have a8 : w.cell? ⟨m, 29, none⟩ = some (.int .i64 x.c.f.bt) := (hSw.1.cell 29).trans (by rw [HCS.out]; rfl)
    go_simp
    with_reducible rfl
   change wpAnyH _ _ _ _ _ _ _ (Act.put _ (some 52) _) _
   simp only [Act.put, List.setIfInBounds_toArray, List.set_cons_zero, List.set_cons_succ]
   refine tk (i := 7) (v := ?_) rfl (by rfl) ?_ (by assumption) ?_
   rotate_left
   ·
    intro w hSw
    go_simp
    with_reducible rfl
   change wpAnyH _ _ _ _ _ _ _ (Act.put _ (some 55) _) _
   simp only [Act.put, List.setIfInBounds_toArray, List.set_cons_zero, List.set_cons_succ]
   refine tk (i := 8) (v := ?_) rfl (by rfl) ?_ (by assumption) ?_
   rotate_left
   ·
    intro w hSw
    have cc := hSw.2.1.cell 5
    simp only [List.getElem?_toArray, List.getElem?_cons_zero, List.getElem?_cons_succ] at cc
    go_simp
    with_reducible rfl
   change wpAnyH _ _ _ _ _ _ _ (Act.put _ (some 56) _) _
   simp only [Act.put, List.setIfInBounds_toArray, List.set_cons_zero, List.set_cons_succ]
   refine tk (i := 9) (v := ?_) rfl (by rfl) ?_ (by assumption) ?_
   rotate_left
   ·
    intro w hSw
    go_simp
    with_reducible rfl
   change wpAnyH _ _ _ _ _ _ _ (Act.put _ (some 57) _) _
   simp only [Act.put, List.setIfInBounds_toArray, List.set_cons_zero, List.set_cons_succ]
   refine tk (i := 10) (v := ?_) rfl (by rfl) ?_ (by assumption) ?_
   rotate_left
   ·
    intro w hSw
    have a0 : w.cell? ⟨m, 30, none⟩ = some (.int .i64 s.num) := (hSw.1.cell 30).trans (by rw [HCS.out]; rfl)
    go_simp
    with_reducible rfl
   change wpAnyH _ _ _ _ _ _ _ (Act.put _ (some 58) _) _
   simp only [Act.put, List.setIfInBounds_toArray, List.set_cons_zero, List.set_cons_succ]
   refine tk (i := 14) (v := ?_) rfl (by rfl) ?_ (by assumption) ?_
   rotate_left
   ·
    intro w hSw
    go_simp
    with_reducible rfl
   change wpAnyH _ _ _ _ _ _ _ (Act.put _ (some 62) _) _
   simp only [Act.put, List.setIfInBounds_toArray, List.set_cons_zero, List.set_cons_succ]
   refine tk (i := 15) (v := ?_) rfl (by rfl) ?_ (by assumption) ?_
   rotate_left
   ·
    intro w hSw
    have cc := hSw.2.1.cell 6
    simp only [List.getElem?_toArray, List.getElem?_cons_zero, List.getElem?_cons_succ] at cc
    go_simp
    with_reducible rfl
   change wpAnyH _ _ _ _ _ _ _ (Act.put _ (some 63) _) _
   simp only [Act.put, List.setIfInBounds_toArray, List.set_cons_zero, List.set_cons_succ]
   refine tk (i := 16) (v := ?_) rfl (by rfl) ?_ (by assumption) ?_
   rotate_left
   ·
    intro w hSw
    go_simp
    with_reducible rfl
   change wpAnyH _ _ _ _ _ _ _ (Act.put _ (some 64) _) _
   simp only [Act.put, List.setIfInBounds_toArray, List.set_cons_zero, List.set_cons_succ]
   refine tk (i := 17) (v := ?_) rfl (by rfl) ?_ (by assumption) ?_
   rotate_left
   ·
    intro w hSw
    have a0 : w.cell? ⟨m, 31, none⟩ = some (.int .i64 x.d.f.k) := (hSw.1.cell 31).trans (by rw [HCS.out]; rfl)
    have a1 : w.cell? ⟨m, 32, none⟩ = some (.int .i64 x.d.f.n) := (hSw.1.cell 32).trans (by rw [HCS.out]; rfl)
    have a2 : w.cell? ⟨m, 33, none⟩ = some (.int .i64 x.d.f.g) := (hSw.1.cell 33).trans (by rw [HCS.out]; rfl)
    have a3 : w.cell? ⟨m, 34, none⟩ = some (.string x.d.f.nm) := (hSw.1.cell 34).trans (by rw [HCS.out]; rfl)
    have a4 : w.cell? ⟨m, 35, none⟩ = some (.string x.d.f.fn) := (hSw.1.cell 35).trans (by rw [HCS.out]; rfl)
    have a5 : w.cell? ⟨m, 36, none⟩ = some (.int .i64 x.d.f.ar) := (hSw.1.cell 36).trans (by rw [HCS.out]; rfl)
    have a6 : w.cell? ⟨m, 37, none⟩ = some (x.d.v) := (hSw.1.cell 37).trans (by rw [HCS.out]; rfl)
    have a7 : w.cell? ⟨m, 38, none⟩ = some (.string x.d.f.bs) := (hSw.1.cell 38).trans (by rw [HCS.out]; rfl)
    have a8 : w.cell? ⟨m, 39, none⟩ = some (.int .i64 x.d.f.bt) := (hSw.1.cell 39).trans (by rw [HCS.out]; rfl)
    go_simp
    with_reducible rfl
   change wpAnyH _ _ _ _ _ _ _ (Act.put _ (some 65) _) _
   simp only [Act.put, List.setIfInBounds_toArray, List.set_cons_zero, List.set_cons_succ]
   refine wpAnyH_ready (rs := [5]) (by kernel_rfl) (by simp) ?_
   refine AllReadyH.cons rfl (fun K hK => ?_) AllReadyH.nil
   try go_simp
   refine (CC.out _ (HTO.out _ hS.2.2)).mono ?_
   rintro e y17 ⟨rfl, bb⟩
   have NS := Lib.hid (And.intro (hS.1.below bb hS.1.lt) (And.intro (hS.2.1.below bb hS.2.1.lt) (HTR.out _ _ hS.2.2 bb)))
   clear bb
   go_wp2_with fail
   refine hK.out _ _ NS.out (fun hS => ?_)
   clear hK K NS
   try simp only [Act.put, List.setIfInBounds_toArray, List.set_cons_zero, List.set_cons_succ]
   refine tk (i := 6) (v := ?_) rfl (by rfl) ?_ (by assumption) ?_
   rotate_left
   ·
    intro w hSw
    go_simp
    rw [if_neg (by (try simp only [ByteArray.size_append, one_size]); omega)]
   change wpAnyH _ _ _ _ _ _ _ (Act.put _ (some 54) _) _
   simp only [Act.put, List.setIfInBounds_toArray, List.set_cons_zero, List.set_cons_succ]
   refine wpAnyH_ready (rs := [11]) (by kernel_rfl) (by simp) ?_
   refine AllReadyH.cons rfl (fun K hK => ?_) AllReadyH.nil
   try go_simp
   refine (rint27 s.num _).mono ?_
   rintro e y18 ⟨rfl, bb⟩
   have NS := Lib.hid (And.intro (hS.1.below bb hS.1.lt) (And.intro (hS.2.1.below bb hS.2.1.lt) (HTR.out _ _ hS.2.2 bb)))
   clear bb
   go_wp2_with fail
   refine hK.out _ _ NS.out (fun hS => ?_)
   clear hK K NS
   try simp only [Act.put, List.setIfInBounds_toArray, List.set_cons_zero, List.set_cons_succ]
   try unfold ftV
   try dsimp only [atmX, nmbX]
   refine wpAnyH_ready (rs := [12]) (by kernel_rfl) (by simp) ?_
   refine AllReadyH.cons rfl (fun K hK => ?_) AllReadyH.nil
   try go_simp
   refine (CI.out _ (HTO.out _ hS.2.2)).mono ?_
   rintro e y19 ⟨rfl, bb⟩
   have NS := Lib.hid (And.intro (hS.1.below bb hS.1.lt) (And.intro (hS.2.1.below bb hS.2.1.lt) (HTR.out _ _ hS.2.2 bb)))
   clear bb
   go_wp2_with fail
   refine hK.out _ _ NS.out (fun hS => ?_)
   clear hK K NS
   try simp only [Act.put, List.setIfInBounds_toArray, List.set_cons_zero, List.set_cons_succ]
   refine tk (i := 13) (v := ?_) rfl (by rfl) ?_ (by assumption) ?_
   rotate_left
   ·
    intro w hSw
    go_simp
    rw [if_neg (by (try simp only [ByteArray.size_append, one_size]); omega)]
   change wpAnyH _ _ _ _ _ _ _ (Act.put _ (some 61) _) _
   simp only [Act.put, List.setIfInBounds_toArray, List.set_cons_zero, List.set_cons_succ]
   refine wpAnyH_ready (rs := [18]) (by kernel_rfl) (by simp) ?_
   refine AllReadyH.cons rfl (fun K hK => ?_) AllReadyH.nil
   try go_simp
   refine (CD.out _ (HTO.out _ hS.2.2)).mono ?_
   rintro e y20 ⟨rfl, bb⟩
   have NS := Lib.hid (And.intro (hS.1.below bb hS.1.lt) (And.intro (hS.2.1.below bb hS.2.1.lt) (HTR.out _ _ hS.2.2 bb)))
   clear bb
   go_wp2_with fail
   refine hK.out _ _ NS.out (fun hS => ?_)
   clear hK K NS
   try simp only [Act.put, List.setIfInBounds_toArray, List.set_cons_zero, List.set_cons_succ]
   refine tk (i := 19) (v := ?_) rfl (by rfl) ?_ (by assumption) ?_
   rotate_left
   ·
    intro w hSw
    go_simp
    rw [if_neg (by (try simp only [ByteArray.size_append, one_size]); omega)]
   change wpAnyH _ _ _ _ _ _ _ (Act.put _ (some 67) _) _
   simp only [Act.put, List.setIfInBounds_toArray, List.set_cons_zero, List.set_cons_succ]
   refine tk (i := 20) (v := ?_) rfl (by rfl) ?_ (by assumption) ?_
   rotate_left
   ·
    intro w hSw
    go_simp
    with_reducible rfl
   change wpAnyH _ _ _ _ _ _ _ (Act.put _ (some 2) _) _
   simp only [Act.put, List.setIfInBounds_toArray, List.set_cons_zero, List.set_cons_succ]
   refine tk (i := 21) (v := ?_) rfl (by rfl) ?_ (by assumption) ?_
   rotate_left
   ·
    intro w hSw
    go_simp
    with_reducible rfl
   change wpAnyH _ _ _ _ _ _ _ (Act.put _ (some 3) _) _
   simp only [Act.put, List.setIfInBounds_toArray, List.set_cons_zero, List.set_cons_succ]
   refine wpAnyH_done (by kernel_rfl) ?_ _
   obtain rfl : EBB = Q ++ G2 ++ G3 ++ G4 ++ G5 ++ G6 := by rw [HRR.out, HQ.out]; rfl
   go_wp2_with fail
   exact bodyPost_ret (results_s2 (a := 2) (b := 3) rfl _ _ _ _ rfl rfl) rfl ⟨rfl, by rw [← HM.out]; exact hS.2.2⟩
end Go.Proofs.YtemlogadbopffaaGreat
