/- The reference's Encode, whatever the lengths of the names are. -/
import Derived.Test.YtemlogadbopffaaGreatEncp
import Derived.Test.YtemlogadbopffaaGreatRenc
namespace Go.Proofs.YtemlogadbopffaaGreat
open Go.RowKit Go.Rt Go.Rw
set_option maxRecDepth 100000 in
set_option maxHeartbeats 8000000 in
theorem rencode9n (S : Nat → Prop) (s : Sg) (x : Sf) (w : World) (h : SgAt S w s x) (hfit : FitS s) (hv : validS s = false) : Calls Tryz.prog 9 #[sgV s x] w fun e w' => e = .returned (.tuple #[.string ⟨#[]⟩, .int .i64 2]) ∧ Below w.heap.size w w' := by
  obtain ⟨CS, hCS⟩ : ∃ q, q = (sgC s x).toArray := ⟨_, rfl⟩
  have HSV : Hid (sgV s x = .agg CS) := Lib.hid (by rw [hCS]; rfl)
  have HSZ : Hid (CS.size = 40) := Lib.hid (by rw [hCS]; rfl)
  have CV := Lib.hid (fun (W : World) (hW : Below w.heap.size w W) => rvalid23 S s x W (h.below hW (fun b _ h => h)) hfit)
  rw [hv] at CV
  rw [HSV.out] at CV ⊢
  clear h hfit hCS hv
  obtain ⟨m, hm⟩ : ∃ q, q = w.heap.size := ⟨_, rfl⟩
  have HM := Lib.hid hm
  have X := Lib.hid (Blk.new w 26 CS)
  have B := Lib.hid ((Below.refl w.heap.size w).alloc (Nat.le_refl _) (.cells CS 26))
  have CVV := Lib.hid (CV.out _ B.out)
  rw [← hm] at X B
  have HTR : Hid (∀ W W', Below m w W → Below W.heap.size W W' → Below m w W') := Lib.hid (fun W W' h1 h2 => h1.trans (h2.mono (by have := h1.size; have := HM.out; omega)))
  go_enter Tryz.func9, Tryz.ntmps9
  go_upto_region 1 with fail
  rw [← hm]
  generalize w.alloc (.cells CS 26) = w1 at X B CVV ⊢
  clear hm CV
  go_wp2_with (refine wpList_load_blk rfl 26 _ rfl m rfl _ 26 _ X.out Tryz.underlying26 rfl (by rw [HSZ.out]; exact info26) ?_)
  refine CVV.out.mono ?_
  rintro e w2 ⟨rfl, b2⟩
  replace B := Lib.hid (HTR.out _ _ B.out b2)
  clear b2 CVV
  go_wp2_with fail
  exact bodyPost_ret (results_s2 (a := 2) (b := 3) rfl _ _ _ _ rfl rfl) rfl ⟨rfl, by rw [← HM.out]; exact B.out⟩
theorem rencode9x (S : Nat → Prop) (s : Sg) (x : Sf) (w : World) (h : SgAt S w s x) (hfit : FitX s) (hk : -9223372036854775808 ≤ s.k ∧ s.k ≤ 9223372036854775807) : Calls Tryz.prog 9 #[sgV s x] w fun e w' => e = .returned (.tuple #[.string (encB s), .int .i64 (encE s)]) ∧ Below w.heap.size w w' := by
  cases hv : validS s with
  | true => exact rencode9 S s x w h (hfit.e hv) hk
  | false =>
    have := rencode9n S s x w h hfit.fit hv
    unfold encB encE
    rw [hv]
    exact this
end Go.Proofs.YtemlogadbopffaaGreat
