/- code, integer of the law; terms whose parts are flat. -/
import Derived.Test.YtcpdmlnodhokmaaFront
namespace Go.Proofs.Ytcpdmlnodhokmaa
open Go.RowKit Go.Rt Go.Rw

set_option maxRecDepth 100000 in
set_option maxHeartbeats 2000000 in
theorem int21 (n : Int) (w : World) : Calls Try.prog 21 #[.int .i64 n] w fun e w' => e = .returned (.agg #[.int .i64 1, .int .i64 n, .int .i64 0, .string ⟨#[]⟩, .string ⟨#[]⟩, .int .i64 0, .slice none 0 0, .string ⟨#[]⟩, .int .i64 0]) ∧ Below w.heap.size w w' := by
  have X0 := Lib.hid (Blk.new w 25 #[.int .i64 0, .int .i64 0, .int .i64 0, .string ⟨#[]⟩, .string ⟨#[]⟩, .int .i64 0, .slice none 0 0, .string ⟨#[]⟩, .int .i64 0])
  have B0 := Lib.hid ((Below.refl w.heap.size w).alloc (Nat.le_refl _) (.cells #[.int .i64 0, .int .i64 0, .int .i64 0, .string ⟨#[]⟩, .string ⟨#[]⟩, .int .i64 0, .slice none 0 0, .string ⟨#[]⟩, .int .i64 0] 25))
  go_enter Try.func21, Try.ntmps21
  go_upto_region 1 with fail
  generalize w.alloc (.cells #[.int .i64 0, .int .i64 0, .int .i64 0, .string ⟨#[]⟩, .string ⟨#[]⟩, .int .i64 0, .slice none 0 0, .string ⟨#[]⟩, .int .i64 0] 25) = v0 at X0 B0 ⊢
  go_wp2_with (refine wpList_store_blk rfl 25 _ _ rfl rfl w.heap.size #[.int .i64 1, .int .i64 n, .int .i64 0, .string ⟨#[]⟩, .string ⟨#[]⟩, .int .i64 0, .slice none 0 0, .string ⟨#[]⟩, .int .i64 0] _ 25 rfl rfl X0.out rfl info25 (by simp [Value.oneCell']) ?_; intro vF bF oF)
  have BF := only_below B0.out oF (Nat.le_refl _)
  go_wp2_with fail
  exact bodyPost_ret (results_blk rfl _ _ w.heap.size _ _ rfl bF Try.underlying25 rfl info25) rfl ⟨rfl, BF⟩
set_option maxRecDepth 100000 in
set_option maxHeartbeats 2000000 in
theorem code_any (t : Tm) (x : Ft) (b : ByteArray) (w : World) (hx : TmAt (fun b => b < w.heap.size) w t x) (hv : validB t = true) (hf : fitT t) (hc : codeT t = b.data.toList) :
    Calls Try.prog 20 #[ftV x] w fun e w' => e = .returned (.string b) ∧ Below w.heap.size w w' := by
  have hok := okT_valid hv hf
  obtain ⟨_, sx, cx, vx⟩ := hx.its.2.form
  obtain ⟨xf, xv⟩ := x
  dsimp only at vx
  subst vx
  obtain ⟨lx, hlx⟩ : ∃ l, l = t.l.length := ⟨_, rfl⟩
  rw [← hlx] at hx ⊢
  clear hlx
  have Tx_0 := Lib.hid (hx.below ((Below.refl _ _).alloc (Nat.le_refl _) (.cells #[.int .i64 xf.k, .int .i64 xf.n, .int .i64 xf.g, .string xf.nm, .string xf.fn, .int .i64 xf.ar, .slice sx lx cx, .string xf.bs, .int .i64 xf.bt] 25)) (fun _ _ h => h))
  have Xx_0 := Lib.hid (Blk.new w 25 #[.int .i64 xf.k, .int .i64 xf.n, .int .i64 xf.g, .string xf.nm, .string xf.fn, .int .i64 xf.ar, .slice sx lx cx, .string xf.bs, .int .i64 xf.bt])
  have B_0 := Lib.hid ((Below.refl w.heap.size w).alloc (Nat.le_refl _) (.cells #[.int .i64 xf.k, .int .i64 xf.n, .int .i64 xf.g, .string xf.nm, .string xf.fn, .int .i64 xf.ar, .slice sx lx cx, .string xf.bs, .int .i64 xf.bt] 25))
  have HOK := Lib.hid hok
  have hps := putS_short hv hf
  have hpl := tail_putS hv
  have hpe := empty_no (m := putS t) (by omega)
  have hp3 := putS_two hv
  have htl : tailB (putS t) = b := bytes_list (hpl.trans hc)
  have HPE := Lib.hid (putE_valid hv)
  unfold ftV
  go_enter Try.func20, Try.ntmps20
  go_upto_region 1 with fail
  generalize w.alloc (.cells #[.int .i64 xf.k, .int .i64 xf.n, .int .i64 xf.g, .string xf.nm, .string xf.fn, .int .i64 xf.ar, .slice sx lx cx, .string xf.bs, .int .i64 xf.bt] 25) = v0 at Tx_0 Xx_0 B_0 ⊢
  have CP := Lib.hid (put_any t ⟨xf, .slice sx lx cx⟩ v0 Tx_0.out.old HOK.out)
  rw [HPE.out] at CP
  unfold ftV at CP
  try dsimp only at CP
  generalize putS t = P at *
  clear hx hv hf hc hok hpl HPE
  obtain ⟨_, hps⟩ := hps
  have hsl : ∀ W, (Instr.slice 9 (.string P) (some (.int .i64 1)) none none).run Try.prog W = .ok (.string b) W := fun W => by rw [run_slice_string_from_if W 9 P .i64 1 Try.underlying9, if_pos (by omega), ← htl]; rfl
  have hem2 : ¬ P.toList = [] := fun e => by rw [e] at hpe; cases hpe
  clear htl hps hp3
  go_wp2_with (refine wpList_load_blk rfl 25 _ rfl (w.heap.size) rfl _ 25 _ Xx_0.out Try.underlying25 rfl info25 ?_)
  refine (CP.out).mono ?_
  rintro e v1 ⟨rfl, bb⟩
  have Tx_1 := Lib.hid (Tx_0.out.below bb (fun _ _ h => h))
  have Xx_1 := Lib.hid (Xx_0.out.below bb Xx_0.out.lt)
  have B_1 := Lib.hid (B_0.out.trans (bb.mono B_0.out.size))
  clear bb
  clear B_0 Tx_0 Xx_0
  go_wp2_with fail
  go_ret
  exact ⟨rfl, B_1.out⟩
def flat (f : Fl) : Tm := .mk f []
def flatX (f : Fl) : Ft := ⟨f, .slice none 0 0⟩
theorem flat_at (S : Nat → Prop) (w : World) (f : Fl) : TmAt S w (flat f) (flatX f) := TmAt.of rfl (ItsAt.nil none 0)
theorem fit_flat {f : Fl} (h : fitF f) : fitT (flat f) := by unfold flat; rw [fitT]; exact ⟨h, trivial⟩
theorem flats_at (S : Nat → Prop) (w : World) : ∀ fs : List Fl, TmsAt S w (fs.map flat) (fs.map flatX)
  | [] => by
    show TmsAt S w [] []
    unfold TmsAt
    rfl
  | f :: r => by
    show TmsAt S w (flat f :: r.map flat) (flatX f :: r.map flatX)
    unfold TmsAt
    exact ⟨_, _, rfl, flat_at S w f, flats_at S w r⟩
/-- A literal slice of flat terms. -/
theorem lit_at (w : World) (F : Fl) (fs : List Fl) (hm : fs.length ≤ maxLen) : TmAt (fun b => w.heap.size ≤ b) (w.alloc (.cells ((fs.map flatX).flatMap ftC).toArray 25)) (.mk F (fs.map flat)) ⟨F, .slice (some ⟨w.heap.size, 0, none⟩) fs.length fs.length⟩ := by
  have h := (Sl.lit (base := w.heap.size) (e := 25) w (fs.map flatX) ftC_len (Nat.le_refl _) (by rw [List.length_map]; exact hm)).at ftC_len
  rw [List.length_map] at h
  refine TmAt.of rfl ⟨fs.map flatX, h, fun b o n c e _ => ?_, flats_at _ _ fs⟩
  cases e
  exact Nat.le_refl _
theorem fit_flats {F : Fl} {fs : List Fl} (h : fitF F) (hs : ∀ f ∈ fs, fitF f) : fitT (.mk F (fs.map flat)) := by
  rw [fitT]
  refine ⟨h, ?_⟩
  induction fs with
  | nil => trivial
  | cons f r ih =>
    show fitL (flat f :: r.map flat)
    rw [fitL]
    exact ⟨fit_flat (hs f (by simp)), ih (fun g hg => hs g (by simp [hg]))⟩
theorem code_flat (f : Fl) (b : ByteArray) (hv : validB (flat f) = true) (hf : fitF f) (hc : codeT (flat f) = b.data.toList) (w : World) :
    Calls Try.prog 20 #[ftV (flatX f)] w fun e w' => e = .returned (.string b) ∧ Below w.heap.size w w' := code_any (flat f) (flatX f) b w (flat_at _ w f) hv (fit_flat hf) hc
end Go.Proofs.Ytcpdmlnodhokmaa
