/- Both Encodes, whatever the lengths of the names are. -/
import Derived.Test.YtemlogadbopffaaGreatDlaw
import Derived.Test.YtemlogadbopffaaGreatAg1
namespace Go.Proofs.YtemlogadbopffaaGreat
open Go.RowKit Go.Rt Go.Rw

theorem valid_atm2 (s : ByteArray) : validB (atmT s) = nameF s := by
  unfold atmT validB
  rw [formed, sizeT, formedL, sizeL]
  unfold ownB okF bareF zeroF usesL sizeO
  simp [noB]
  exact fun _ => rfl
/-- What Encode asks of a signal. -/
structure FitX (s : Sg) : Prop where
  fr : okT s.fr
  tt : okT s.tt
  ref : okT s.ref
  val : okT s.val
  num : -9223372036854775808 ≤ s.num ∧ s.num ≤ 9223372036854775807
theorem FitX.fit {s : Sg} (h : FitX s) : FitS s := ⟨⟨fitW_of _ h.fr.1, h.fr.bulk⟩, ⟨fitW_of _ h.tt.1, h.tt.bulk⟩, ⟨fitW_of _ h.ref.1, h.ref.bulk⟩, ⟨fitW_of _ h.val.1, h.val.bulk⟩, h.num⟩
theorem FitE.x {s : Sg} (h : FitE s) : FitX s := ⟨h.fr, h.tt, h.ref, h.val, h.num⟩
theorem valid_names {s : Sg} (h : validS s = true) : s.node.size ≤ 32 ∧ s.name.size ≤ 32 := by
  obtain ⟨_, h2, h3⟩ := validS_iff h
  have e := same_only h3
  have e1 := congrArg Sg.node e
  have e2 := congrArg Sg.name e
  unfold onlyS at e1 e2
  dsimp only at e1 e2
  constructor
  · cases hu : hasU (usesF s.k) 2 with
    | true =>
      have hv := okFld_valid (allFld_get h2 (i := 2) (by omega) hu)
      change validB (atmT s.node) = true at hv
      rw [valid_atm2] at hv
      exact (nameF_size _ hv).2
    | false =>
      rw [hu] at e1
      rw [← e1]
      exact Nat.zero_le _
  · cases hu : hasU (usesF s.k) 3 with
    | true =>
      have hv := okFld_valid (allFld_get h2 (i := 3) (by omega) hu)
      change validB (atmT s.name) = true at hv
      rw [valid_atm2] at hv
      exact (nameF_size _ hv).2
    | false =>
      rw [hu] at e2
      rw [← e2]
      exact Nat.zero_le _
theorem FitX.e {s : Sg} (h : FitX s) (hv : validS s = true) : FitE s := by
  obtain ⟨h1, h2⟩ := valid_names hv
  exact ⟨h.fr, h.tt, h.ref, h.val, by omega, by omega, h.num⟩
theorem fitx_of_great {s : Sg} (hr : RngS s) (h : (s.node.size + s.name.size ≤ 1000 ∨ 9223372036854775807 < s.node.size + s.name.size) ∧ smallL [s.fr, s.tt, s.ref, s.val] ∧ (cntL [s.fr, s.tt, s.ref, s.val] : Int) ≤ 6000) : FitX s := by
  obtain ⟨_, h2, h3⟩ := h
  simp only [smallL, cntL] at h2 h3
  exact ⟨ok_of_great hr.fr ⟨h2.1, by omega⟩, ok_of_great hr.tt ⟨h2.2.1, by omega⟩, ok_of_great hr.ref ⟨h2.2.2.1, by omega⟩, ok_of_great hr.val ⟨h2.2.2.2.1, by omega⟩, hr.num⟩
set_option maxRecDepth 100000 in
set_option maxHeartbeats 8000000 in
theorem pencode8n (S : Nat → Prop) (s : Sg) (x : Sf) (w : World) (h : SgAt S w s x) (hfit : FitS s) (hv : validS s = false) : Calls Tryz.prog 8 #[sgV s x] w fun e w' => e = .returned (.tuple #[.string ⟨#[]⟩, .int .i64 2]) ∧ Below w.heap.size w w' := by
  obtain ⟨CS, hCS⟩ : ∃ q, q = (sgC s x).toArray := ⟨_, rfl⟩
  have HSV : Hid (sgV s x = .agg CS) := Lib.hid (by rw [hCS]; rfl)
  have HSZ : Hid (CS.size = 40) := Lib.hid (by rw [hCS]; rfl)
  have CV := Lib.hid (fun (W : World) (hW : Below w.heap.size w W) => pvalid19 S s x W (h.below hW (fun b _ h => h)) hfit)
  rw [hv] at CV
  rw [HSV.out] at CV ⊢
  clear h hfit hCS hv
  obtain ⟨m, hm⟩ : ∃ q, q = w.heap.size := ⟨_, rfl⟩
  have HM := Lib.hid hm
  have X := Lib.hid (Blk.new w 26 CS)
  have B := Lib.hid ((Below.refl w.heap.size w).alloc (Nat.le_refl _) (.cells CS 26))
  have CVV := Lib.hid (CV.out _ B.out)
  rw [← hm] at X B
  have HTR : Hid (∀ W W', Below m w W → Below W.heap.size W W' → Below m w W') := Lib.hid (fun W W' h1 h2 => h1.trans (h2.mono (by have := h1.size; have := HM.out; omega)))
  go_enter Tryz.func8, Tryz.ntmps8
  go_upto_region 1 with fail
  rw [← hm]
  generalize w.alloc (.cells CS 26) = w1 at X B CVV ⊢
  clear hm CV
  go_wp2_with (refine wpList_load_blk rfl 26 _ rfl m rfl _ 26 _ X.out Tryz.underlying26 rfl (by rw [HSZ.out]; exact info26) ?_)
  refine CVV.out.mono ?_
  rintro e w2 ⟨rfl, b2⟩
  replace B := Lib.hid (HTR.out _ _ B.out b2)
  clear b2 CVV
  go_wp2_with fail
  exact bodyPost_ret (results_s2 (a := 2) (b := 3) rfl _ _ _ _ rfl rfl) rfl ⟨rfl, by rw [← HM.out]; exact B.out⟩
theorem pencode8x (S : Nat → Prop) (s : Sg) (x : Sf) (w : World) (h : SgAt S w s x) (hfit : FitX s) (hk : -9223372036854775808 ≤ s.k ∧ s.k ≤ 9223372036854775807) : Calls Tryz.prog 8 #[sgV s x] w fun e w' => e = .returned (.tuple #[.string (encB s), .int .i64 (encE s)]) ∧ Below w.heap.size w w' := by
  cases hv : validS s with
  | true => exact pencode8 S s x w h (hfit.e hv) hk
  | false =>
    have := pencode8n S s x w h hfit.fit hv
    unfold encB encE
    rw [hv]
    exact this
end Go.Proofs.YtemlogadbopffaaGreat
