/- The walk of PeersEncodes. -/
import Derived.Test.YtemlogadbopffaaGreatAg1
import Derived.Test.YtemlogadbopffaaGreatEncr
import Derived.Test.YtemlogadbopffaaGreatSh1
namespace Go.Proofs.YtemlogadbopffaaGreat
open Go.RowKit Go.Rt Go.Rw

set_option maxRecDepth 100000 in
set_option maxHeartbeats 8000000 in
theorem encodes_walk (s : Sg) (x : Sf) (w : World) (h : SgAt (fun b => b < w.heap.size) w s x) (hr : RngS s) : Calls Tryz.prog 3 #[sgV s x] w fun e w' => e = .returned (.bool true) ∧ Below w.heap.size w w' := by
  obtain ⟨CS, hCS⟩ : ∃ q, q = (sgC s x).toArray := ⟨_, rfl⟩
  have HSV : Hid (sgV s x = .agg CS) := Lib.hid (by rw [hCS]; rfl)
  have HSZ : Hid (CS.size = 40) := Lib.hid (by rw [hCS]; rfl)
  have HR := Lib.hid hr
  have HS := Lib.hid h
  have CG := Lib.hid (fun (W : World) (hW : Below w.heap.size w W) => great7 (fun b => b < w.heap.size) s x 6000 W (h.below hW (fun b _ h => h)) (by omega) ⟨hr.node, hr.name⟩)
  rw [HSV.out] at CG ⊢
  clear hCS h hr
  obtain ⟨m, hm⟩ : ∃ q, q = w.heap.size := ⟨_, rfl⟩
  have HM := Lib.hid hm
  have X := Lib.hid (Blk.new w 26 CS)
  have B := Lib.hid ((Below.refl w.heap.size w).alloc (Nat.le_refl _) (.cells CS 26))
  rw [← hm] at X B
  have HTR : Hid (∀ W W', Below m w W → Below W.heap.size W W' → Below m w W') := Lib.hid (fun W W' h1 h2 => h1.trans (h2.mono (by have := h1.size; have := HM.out; omega)))
  have HTO : Hid (∀ W, Below m w W → Below w.heap.size w W) := Lib.hid (fun W hW => by rw [← HM.out]; exact hW)
  go_enter Tryz.func3, Tryz.ntmps3
  go_upto_region 1 with fail
  rw [← hm]
  generalize w.alloc (.cells CS 26) = w1 at X B ⊢
  clear hm
  go_wp2_with fail
  refine (shown6 w1).mono ?_
  rintro e w2 ⟨rfl, bb⟩
  replace X := Lib.hid (X.out.below bb X.out.lt)
  replace B := Lib.hid (HTR.out _ _ B.out bb)
  clear bb
  have CG2 := Lib.hid (CG.out w2 (HTO.out _ B.out))
  go_wp2_with (refine wpList_load_blk rfl 26 _ rfl m rfl _ 26 _ X.out Tryz.underlying26 rfl (by rw [HSZ.out]; exact info26) ?_)
  refine CG2.out.mono ?_
  rintro e w3 ⟨g, rfl, hg, bb⟩
  have HG := Lib.hid hg
  replace X := Lib.hid (X.out.below bb X.out.lt)
  replace B := Lib.hid (HTR.out _ _ B.out bb)
  clear bb CG CG2 hg
  cases g with
  | true =>
    go_wp2_with fail
    go_ret
    exact ⟨rfl, HTO.out _ B.out⟩
  | false =>
    have HX := Lib.hid (fitx_of_great HR.out (HG.out rfl))
    have CE := Lib.hid (fun (W : World) (hW : Below w.heap.size w W) => pencode8x _ s x W (HS.out.below hW (fun b _ h => h)) HX.out HR.out.k)
    have CF := Lib.hid (fun (W : World) (hW : Below w.heap.size w W) => rencode9x _ s x W (HS.out.below hW (fun b _ h => h)) HX.out HR.out.k)
    obtain ⟨EB, hEB⟩ : ∃ q, q = encB s := ⟨_, rfl⟩
    obtain ⟨EE, hEE⟩ : ∃ q, q = encE s := ⟨_, rfl⟩
    rw [HSV.out, ← hEB, ← hEE] at CE CF
    have hst : (EB.toList == EB.toList) = true := beq_self_eq_true _
    clear hEB hEE HG HX
    go_wp2_with (refine wpList_load_blk rfl 26 _ rfl m rfl _ 26 _ X.out Tryz.underlying26 rfl (by rw [HSZ.out]; exact info26) ?_)
    refine (CE.out w3 (HTO.out _ B.out)).mono ?_
    rintro e w4 ⟨rfl, bb⟩
    replace X := Lib.hid (X.out.below bb X.out.lt)
    replace B := Lib.hid (HTR.out _ _ B.out bb)
    clear bb
    go_wp2_with (refine wpList_load_blk rfl 26 _ rfl m rfl _ 26 _ X.out Tryz.underlying26 rfl (by rw [HSZ.out]; exact info26) ?_)
    refine (CF.out w4 (HTO.out _ B.out)).mono ?_
    rintro e w5 ⟨rfl, bb⟩
    replace X := Lib.hid (X.out.below bb X.out.lt)
    replace B := Lib.hid (HTR.out _ _ B.out bb)
    clear bb
    go_wp2_with fail
    go_ret
    exact ⟨rfl, HTO.out _ B.out⟩
end Go.Proofs.YtemlogadbopffaaGreat
