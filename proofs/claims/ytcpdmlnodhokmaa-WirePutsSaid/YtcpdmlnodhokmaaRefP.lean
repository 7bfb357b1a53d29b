/- stagehandref07.Put. -/
import Derived.Test.YtcpdmlnodhokmaaRefC
namespace Go.Proofs.Ytcpdmlnodhokmaa
open Go.RowKit Go.Rt Go.Rw

theorem bs_string {W : World} {B g n c : Nat} {l : List UInt8} (h : BS W B (.slice (some ⟨g, 0, none⟩) n c) l) : (convert 53 9 (.slice (some ⟨g, 0, none⟩) n c)).run Try.prog W = .ok (.string ⟨l.toArray⟩) W := by
  obtain rfl : n = l.length := by
    rcases Sl.form h with ⟨e, _⟩ | ⟨g', cap', e, _⟩
    · cases e
    · cases e; rfl
  refine run_convert_bytes_back W 53 9 5 ⟨g, 0, none⟩ c l Try.underlying53 Try.underlying5 Try.underlying9 ?_
  intro j hj
  exact World.ownsRow.cells (g := g) h rfl j (.int .u8 (l[j].toNat : Int)) (by rw [bC_flat]; simp [Lib.byteCells, hj])
set_option maxRecDepth 100000 in
set_option maxHeartbeats 2000000 in
theorem rput_any (t : Tm) (x : Ft) (w : World) (hx : TmAt (fun b => b < w.heap.size) w t x) (hok : okT t) :
    Calls Try.prog 25 #[ftV x] w fun e w' => e = .returned (.tuple #[.string (putS t), .int .i64 (putE t)]) ∧ Below w.heap.size w w' := by
  obtain ⟨_, sx, cx, vx⟩ := hx.its.2.form
  obtain ⟨xf, xv⟩ := x
  dsimp only at vx
  subst vx
  obtain ⟨lx, hlx⟩ : ∃ l, l = t.l.length := ⟨_, rfl⟩
  rw [← hlx] at hx ⊢
  clear hlx
  have Tx_0 := Lib.hid (hx.below ((Below.refl _ _).alloc (Nat.le_refl _) (.cells #[.int .i64 xf.k, .int .i64 xf.n, .int .i64 xf.g, .string xf.nm, .string xf.fn, .int .i64 xf.ar, .slice sx lx cx, .string xf.bs, .int .i64 xf.bt] 25)) (fun _ _ h => h))
  have Xx_0 := Lib.hid (Blk.new w 25 #[.int .i64 xf.k, .int .i64 xf.n, .int .i64 xf.g, .string xf.nm, .string xf.fn, .int .i64 xf.ar, .slice sx lx cx, .string xf.bs, .int .i64 xf.bt])
  have B_0 := Lib.hid ((Below.refl w.heap.size w).alloc (Nat.le_refl _) (.cells #[.int .i64 xf.k, .int .i64 xf.n, .int .i64 xf.g, .string xf.nm, .string xf.fn, .int .i64 xf.ar, .slice sx lx cx, .string xf.bs, .int .i64 xf.bt] 25))
  have HOK := Lib.hid hok
  obtain ⟨RS, hRS⟩ : ∃ RS, RS = putS t := ⟨_, rfl⟩
  obtain ⟨RE, hRE⟩ : ∃ RE, RE = putE t := ⟨_, rfl⟩
  rw [← hRS, ← hRE]
  have HRS := Lib.hid hRS
  have HRE := Lib.hid hRE
  clear hx hok hRS hRE
  unfold ftV
  go_enter Try.func25, Try.ntmps25
  go_upto_region 1 with fail
  generalize w.alloc (.cells #[.int .i64 xf.k, .int .i64 xf.n, .int .i64 xf.g, .string xf.nm, .string xf.fn, .int .i64 xf.ar, .slice sx lx cx, .string xf.bs, .int .i64 xf.bt] 25) = v0 at Tx_0 Xx_0 B_0 ⊢
  obtain ⟨V, hv⟩ : ∃ V, V = validB t := ⟨_, rfl⟩
  have CV := Lib.hid (rvalid_any _ t ⟨xf, .slice sx lx cx⟩ v0 Tx_0.out HOK.out.1 HOK.out.bulk)
  rw [← hv] at CV
  have HV := Lib.hid hv.symm
  clear hv
  unfold ftV at CV
  try dsimp only at CV
  go_wp2_with (refine wpList_load_blk rfl 25 _ rfl (w.heap.size) rfl _ 25 _ Xx_0.out Try.underlying25 rfl info25 ?_)
  refine (CV.out).mono ?_
  rintro e v1 ⟨rfl, bb⟩
  have Tx_1 := Lib.hid (Tx_0.out.below bb (fun _ _ h => h))
  have Xx_1 := Lib.hid (Xx_0.out.below bb Xx_0.out.lt)
  have B_1 := Lib.hid (B_0.out.trans (bb.mono B_0.out.size))
  clear bb
  clear B_0 Tx_0 Xx_0
  clear CV
  cases V with
  | false =>
    obtain rfl : RS = ⟨#[]⟩ := by rw [HRS.out, putS_no HV.out]
    obtain rfl : RE = 2 := by rw [HRE.out, putE_no HV.out]
    go_wp2_with fail
    refine bodyPost_ret (v := .tuple #[.string ⟨#[]⟩, .int .i64 2]) (by simp [results, Try.results25, go_sem]) rfl ⟨rfl, B_1.out⟩
  | true =>
    have hv := HV.out
    obtain ⟨hp1, hp2⟩ := putS_short hv HOK.out.1
    have hcl : (codeT t).length ≤ 1000000 := by omega
    have CC := Lib.hid (rcode_any t HOK.out.1 (validB_iff hv).1 hcl _ ⟨xf, .slice sx lx cx⟩ v1 (fun b hb => hb) Tx_1.out.old)
    obtain rfl : RE = 0 := by rw [HRE.out, putE_valid hv]
    have hap : (⟨#[131]⟩ : ByteArray) ++ (⟨(codeT t).toArray⟩ : ByteArray) = ⟨(131 :: codeT t).toArray⟩ := by
      apply ByteArray.ext
      rw [ByteArray.data_append]
      simp
    have hsz : (⟨(codeT t).toArray⟩ : ByteArray).size ≤ 1000000 := by show (codeT t).toArray.size ≤ _; simp; omega
    obtain ⟨D, hD⟩ : ∃ D, D = (⟨(codeT t).toArray⟩ : ByteArray) := ⟨_, rfl⟩
    obtain rfl : RS = ⟨#[131]⟩ ++ D := by rw [HRS.out, putS_valid hv, ← hap, ← hD]
    have HD := Lib.hid hD
    rw [← hD] at hsz
    clear HRS HRE hD
    unfold ftV at CC
    try dsimp only at CC
    clear hv hp1 hp2 hcl hap
    generalize codeT t = C at *
    go_wp2_with (refine wpList_load_blk rfl 25 _ rfl (w.heap.size) rfl _ 25 _ Xx_1.out Try.underlying25 rfl info25 ?_)
    refine CC.out.mono ?_
    rintro e v2 ⟨gk, ck, rfl, kk, bb⟩
    have B_2 := Lib.hid (B_1.out.trans (bb.mono B_1.out.size))
    have HCV := Lib.hid (bs_string kk)
    rw [← HD.out] at HCV
    generalize C.length = nk at HCV ⊢
    have s1 : ¬ 9223372036854775807 < (⟨#[131]⟩ : ByteArray).size + D.size := by show ¬ 9223372036854775807 < 1 + D.size; omega
    clear kk bb CC HD Tx_1 Xx_1 B_1
    go_wp2_with (refine wpList_conv_run rfl 53 9 _ rfl rfl HCV.out ?_)
    go_wp2_with fail
    refine bodyPost_ret (v := .tuple #[.string (⟨#[131]⟩ ++ D), .int .i64 0]) (by simp [results, Try.results25, go_sem]) rfl ⟨rfl, B_2.out⟩
end Go.Proofs.Ytcpdmlnodhokmaa
