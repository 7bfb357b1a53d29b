/- stagehandref37.code, stagehandref03.Atom, Int. -/
import Derived.Test.YtemlogadbopffaaGreatPenc
import Derived.Test.YtemlogadbopffaaGreatRvd
import Derived.Test.YtemlogadbopffaaGreatRefP
namespace Go.Proofs.YtemlogadbopffaaGreat
open Go.RowKit Go.Rt Go.Rw

set_option maxRecDepth 100000 in
set_option maxHeartbeats 4000000 in
theorem ratom26 (s : ByteArray) (w : World) : Calls Tryz.prog 26 #[.string s] w fun e w' => e = .returned (ftV (atmX s)) ∧ Below w.heap.size w w' := by
  have X := Lib.hid (Blk.new w 24 #[.int .i64 0, .int .i64 0, .int .i64 0, .string ⟨#[]⟩, .string ⟨#[]⟩, .int .i64 0, .slice none 0 0, .string ⟨#[]⟩, .int .i64 0])
  have B := Lib.hid ((Below.refl w.heap.size w).alloc (Nat.le_refl _) (.cells #[.int .i64 0, .int .i64 0, .int .i64 0, .string ⟨#[]⟩, .string ⟨#[]⟩, .int .i64 0, .slice none 0 0, .string ⟨#[]⟩, .int .i64 0] 24))
  go_enter Tryz.func26, Tryz.ntmps26
  go_wp2_with (refine wpList_store_blk rfl 24 _ _ rfl rfl w.heap.size #[.int .i64 2, .int .i64 0, .int .i64 0, .string s, .string ⟨#[]⟩, .int .i64 0, .slice none 0 0, .string ⟨#[]⟩, .int .i64 0] _ 24 rfl rfl X.out rfl info25 (by simp [Value.oneCell']) ?_; intro vF bF oF)
  have BF := Lib.hid (B.out.trans (oF.below (by simp) B.out.size))
  exact bodyPost_ret (results_blk rfl _ _ w.heap.size _ _ rfl bF Tryz.underlying24 rfl info25) rfl ⟨rfl, BF.out⟩
set_option maxRecDepth 100000 in
set_option maxHeartbeats 4000000 in
theorem rint27 (n : Int) (w : World) : Calls Tryz.prog 27 #[.int .i64 n] w fun e w' => e = .returned (ftV (nmbX n)) ∧ Below w.heap.size w w' := by
  have X := Lib.hid (Blk.new w 24 #[.int .i64 0, .int .i64 0, .int .i64 0, .string ⟨#[]⟩, .string ⟨#[]⟩, .int .i64 0, .slice none 0 0, .string ⟨#[]⟩, .int .i64 0])
  have B := Lib.hid ((Below.refl w.heap.size w).alloc (Nat.le_refl _) (.cells #[.int .i64 0, .int .i64 0, .int .i64 0, .string ⟨#[]⟩, .string ⟨#[]⟩, .int .i64 0, .slice none 0 0, .string ⟨#[]⟩, .int .i64 0] 24))
  go_enter Tryz.func27, Tryz.ntmps27
  go_wp2_with (refine wpList_store_blk rfl 24 _ _ rfl rfl w.heap.size #[.int .i64 1, .int .i64 n, .int .i64 0, .string ⟨#[]⟩, .string ⟨#[]⟩, .int .i64 0, .slice none 0 0, .string ⟨#[]⟩, .int .i64 0] _ 24 rfl rfl X.out rfl info25 (by simp [Value.oneCell']) ?_; intro vF bF oF)
  have BF := Lib.hid (B.out.trans (oF.below (by simp) B.out.size))
  exact bodyPost_ret (results_blk rfl _ _ w.heap.size _ _ rfl bF Tryz.underlying24 rfl info25) rfl ⟨rfl, BF.out⟩
theorem valid_formed {t : Tm} (h : validB t = true) : formed t = true := by
  unfold validB at h
  rw [Bool.and_eq_true] at h
  first | exact h.1 | exact h.2
theorem code_len {t : Tm} (hv : validB t = true) (hf : fitT t) : (codeT t).length ≤ 160000 := by
  have := putS_short hv hf
  omega
def codeB (has : Bool) (t : Tm) : ByteArray := if has then bytesB (codeT t) else ⟨#[]⟩
set_option maxRecDepth 100000 in
set_option maxHeartbeats 4000000 in
theorem rcode25 (S : Nat → Prop) (has : Bool) (t : Tm) (x : Ft) (w : World) (hS : ∀ b, S b → b < w.heap.size) (h : TmAt S w t x) (hf : fitT t) (hv : has = true → validB t = true) : Calls Tryz.prog 25 #[.bool has, ftV x] w fun e w' => e = .returned (.string (codeB has t)) ∧ Below w.heap.size w w' := by
  obtain ⟨R, hR⟩ : ∃ q, q = codeB has t := ⟨_, rfl⟩
  rw [← hR]
  have HR := Lib.hid hR
  obtain ⟨_, sx, cx, vx⟩ := h.its.2.form
  obtain ⟨xf, xv⟩ := x
  dsimp only at vx
  subst vx
  obtain ⟨lx, hlx⟩ : ∃ l, l = t.l.length := ⟨_, rfl⟩
  rw [← hlx] at h ⊢
  have X := Lib.hid (Blk.new w 24 #[.int .i64 xf.k, .int .i64 xf.n, .int .i64 xf.g, .string xf.nm, .string xf.fn, .int .i64 xf.ar, .slice sx lx cx, .string xf.bs, .int .i64 xf.bt])
  have B := Lib.hid ((Below.refl w.heap.size w).alloc (Nat.le_refl _) (.cells #[.int .i64 xf.k, .int .i64 xf.n, .int .i64 xf.g, .string xf.nm, .string xf.fn, .int .i64 xf.ar, .slice sx lx cx, .string xf.bs, .int .i64 xf.bt] 24))
  have CV : Hid (has = true → Calls Tryz.prog 66 #[ftV ⟨xf, .slice sx lx cx⟩] (w.alloc (.cells #[.int .i64 xf.k, .int .i64 xf.n, .int .i64 xf.g, .string xf.nm, .string xf.fn, .int .i64 xf.ar, .slice sx lx cx, .string xf.bs, .int .i64 xf.bt] 24)) (BR (codeT t) (w.alloc (.cells #[.int .i64 xf.k, .int .i64 xf.n, .int .i64 xf.g, .string xf.nm, .string xf.fn, .int .i64 xf.ar, .slice sx lx cx, .string xf.bs, .int .i64 xf.bt] 24)))) := Lib.hid (fun q =>
    rcode_any t hf (valid_formed (hv q)) (by have := code_len (hv q) hf; omega) S _ _ (fun b hb => Nat.lt_of_lt_of_le (hS b hb) B.out.size) (h.below B.out (fun b _ h => h)))
  unfold ftV at CV ⊢
  clear hR hlx h hf hv hS
  cases has with
  | false =>
    obtain rfl : R = ⟨#[]⟩ := by rw [HR.out]; rfl
    clear CV
    go_enter Tryz.func25, Tryz.ntmps25
    go_wp2_with fail
    go_ret
    exact ⟨rfl, B.out⟩
  | true =>
    have HRR : Hid (R = bytesB (codeT t)) := Lib.hid (by rw [HR.out]; rfl)
    have CC := Lib.hid (CV.out rfl)
    clear CV HR
    go_enter Tryz.func25, Tryz.ntmps25
    go_upto_region 3 with fail
    generalize w.alloc (.cells #[.int .i64 xf.k, .int .i64 xf.n, .int .i64 xf.g, .string xf.nm, .string xf.fn, .int .i64 xf.ar, .slice sx lx cx, .string xf.bs, .int .i64 xf.bt] 24) = w1 at X B CC ⊢
    go_wp2_with (refine wpList_load_blk rfl 24 _ rfl (w.heap.size) rfl _ 24 _ X.out Tryz.underlying24 rfl info25 ?_)
    refine CC.out.mono ?_
    rintro e w2 ⟨g, cap, rfl, bs2, b2⟩
    obtain ⟨n, hn⟩ : ∃ n, n = (codeT t).length := ⟨_, rfl⟩
    rw [← hn] at bs2 ⊢
    have HC := Lib.hid (bs_string bs2)
    have B2 := Lib.hid (B.out.trans (b2.mono B.out.size))
    clear bs2 b2 CC hn
    go_wp2_with (refine wpList_conv_run rfl 48 9 _ rfl rfl HC.out ?_)
    go_ret
    exact ⟨by rw [HRR.out]; rfl, B2.out⟩
end Go.Proofs.YtemlogadbopffaaGreat
