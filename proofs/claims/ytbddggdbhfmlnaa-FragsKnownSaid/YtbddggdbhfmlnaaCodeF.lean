/- Get of the reference; what both Gets hand back. -/
import Derived.Test.YtbddggdbhfmlnaaCodeE
namespace Go.Proofs.Ytbddggdbhfmlnaa
open Go.RowKit Go.Rt Go.Rw Go.Mp Go.Lib

theorem get_any (b : ByteArray) (w : World) (hs : b.size ≤ 9223372036854775807) :
    Calls Try.prog 23 #[.string b] w fun e w' => e = .returned (.tuple #[fragV (getF b).1, .int .i64 (getF b).2]) ∧ Below w.heap.size w w' := by
  cases h : formB b
  · rw [getF_no (by rw [h]; rfl)]
    exact get_form b w hs h
  · exact get_rest b w hs h

set_option maxRecDepth 100000 in
set_option maxHeartbeats 1000000 in
theorem rget_form (b : ByteArray) (w : World) (hs : b.size ≤ 9223372036854775807) (h : formB b = false) :
    Calls Try.prog 24 #[.string b] w fun e w' => e = .returned (.tuple #[noV, .int .i64 6]) ∧ Below w.heap.size w w' := by
  by_cases h1 : b.size < 18
  · have h1' : (b.size : Int) < 18 := by omega
    clear h
    go_enter Try.func24, Try.ntmps24
    go_wp2_with fail
    refine bodyPost_ret (v := .tuple #[noV, .int .i64 6]) (by simp [results, Try.results24, go_sem]) rfl ⟨rfl, (Below.refl _ _).alloc (Nat.le_refl _) _⟩
  · have h1' : ¬ (b.size : Int) < 18 := by omega
    have hb0 : 0 < b.size := by omega
    have hb1 : 1 < b.size := by omega
    have hf : ¬ (b[0].toNat = 131 ∧ (b[1].toNat = 69 ∨ b[1].toNat = 70)) := by rw [← form_iff (by omega), h]; simp
    clear h
    by_cases h2 : b[0].toNat = 131
    · have h2' : ((b[0].toNat : Int) != 131) = false := by simp; omega
      have h3 : b[1].toNat ≠ 69 ∧ b[1].toNat ≠ 70 := by
        constructor
        · intro e; exact hf ⟨h2, .inl e⟩
        · intro e; exact hf ⟨h2, .inr e⟩
      have h4 : ((b[1].toNat : Int) != 69) = true := by rw [bne_iff_ne]; omega
      have h5 : ((b[1].toNat : Int) != 70) = true := by rw [bne_iff_ne]; omega
      clear hf h2 h3
      go_enter Try.func24, Try.ntmps24
      go_wp2_with fail
      refine bodyPost_ret (v := .tuple #[noV, .int .i64 6]) (by simp [results, Try.results24, go_sem]) rfl ⟨rfl, (Below.refl _ _).alloc (Nat.le_refl _) _⟩
    · have h2' : ((b[0].toNat : Int) != 131) = true := by rw [bne_iff_ne]; omega
      clear hf h2
      go_enter Try.func24, Try.ntmps24
      go_wp2_with fail
      refine bodyPost_ret (v := .tuple #[noV, .int .i64 6]) (by simp [results, Try.results24, go_sem]) rfl ⟨rfl, (Below.refl _ _).alloc (Nat.le_refl _) _⟩


/-- A number of eight bytes as int64 has it. -/
def wr64 (n : Nat) : Int := IntKind.i64.wrap (n : Int)
theorem wr64_small (n : Nat) (h : n < 9223372036854775808) : wr64 n = n := by unfold wr64; rw [IntKind.wrap_i64]; omega
theorem wr64_valid {i l : Nat} {td : ByteArray} (hi : i < 18446744073709551616) (hl : l < 18446744073709551616) : validB (wr64 i) (wr64 l) td = validB i l td := by
  unfold validB wr64
  rw [IntKind.wrap_i64, IntKind.wrap_i64]
  rw [decide_eq_decide]
  constructor
  · rintro ⟨h1, h2, h3, h4, h5⟩
    refine ⟨?_, ?_, ?_, ?_, h5⟩ <;> omega
  · rintro ⟨h1, h2, h3, h4, h5⟩
    refine ⟨?_, ?_, ?_, ?_, h5⟩ <;> omega
theorem wrap_wrap_add (x y : Int) : IntKind.i64.wrap (IntKind.i64.wrap x + y) = IntKind.i64.wrap (x + y) := by
  rw [IntKind.wrap_i64, IntKind.wrap_i64, IntKind.wrap_i64]
  omega
theorem wrap_mul_step (v c : Int) : IntKind.i64.wrap (IntKind.i64.wrap (256 * IntKind.i64.wrap v) + IntKind.i64.wrap c) = IntKind.i64.wrap (v * 256 + c) := by
  rw [IntKind.wrap_i64, IntKind.wrap_i64, IntKind.wrap_i64, IntKind.wrap_i64, IntKind.wrap_i64]
  omega
theorem wrap64_is (x : Int) : wrap64 x = IntKind.i64.wrap x := by unfold wrap64; rw [IntKind.wrap_i64]
theorem wr64_step (v c : Nat) : wrap64 (wrap64 (256 * wr64 v) + wrap64 (c : Int)) = wr64 (v * 256 + c) := by
  rw [wrap64_is, wrap64_is, wrap64_is]
  unfold wr64
  rw [wrap_mul_step, Int.natCast_add, Int.natCast_mul]
  rfl
theorem wr64_again (v : Nat) : IntKind.i64.wrap (wr64 v) = wr64 v := by
  show IntKind.i64.wrap (IntKind.i64.wrap (v : Int)) = IntKind.i64.wrap (v : Int)
  rw [IntKind.wrap_i64, IntKind.wrap_i64]
  omega

set_option maxRecDepth 100000 in
set_option maxHeartbeats 1000000 in
theorem rget_rest (b : ByteArray) (w : World) (hs : b.size ≤ 9223372036854775807) (h : formB b = true) :
    Calls Try.prog 24 #[.string b] w fun e w' => e = .returned (.tuple #[fragV (getF b).1, .int .i64 (getF b).2]) ∧ Below w.heap.size w w' := by
  have h1 : 18 ≤ b.size := by
    rcases Nat.lt_or_ge b.size 18 with q | q
    · rw [form_short q] at h; cases h
    · exact q
  have h1' : ¬ (b.size : Int) < 18 := by omega
  have hb0 : 0 < b.size := by omega
  have hb1 : 1 < b.size := by omega
  obtain ⟨f1, f2⟩ := (form_iff h1).1 h
  have h2' : ((b[0].toNat : Int) != 131) = false := by simp; omega
  have l2 := valK_lt b 2 8
  have l10 := valK_lt b 10 8
  simp only [Nat.reducePow] at l2 l10
  have HENC := Lib.hid (enc_back b h)
  have HV : Hid (getF b = if validB (valK b 2 8) (valK b 10 8) (tailD b) = true then (((valK b 2 8 : Int), getD1 b, (valK b 10 8 : Int), tailD b), 0) else ((0, false, 0, ByteArray.empty), 6)) := by
    refine Lib.hid ?_; unfold getF; rw [h, Bool.true_and]
  have HWV := Lib.hid (wr64_valid (td := tailD b) l2 l10)
  have HD1 : Hid (getD1 b = (b[1].toNat == 69)) := by
    refine Lib.hid ?_
    unfold getD1
    rw [getD_at hb1, Bool.eq_iff_iff, beq_iff_eq, beq_iff_eq]
    exact u8_nat b[1] 69 (by omega)
  have HVK := Lib.hid (fun o k => show valK b o (k + 1) = valK b o k * 256 + (b.data.getD (o + k) 0).toNat from rfl)
  have HVL := Lib.hid (valK_lt b)
  clear h f1
  have hts : (tailD b).size ≤ 9223372036854775807 := by unfold tailD; rw [ByteArray.size_extract]; omega
  have htd : tailD b = b.extract 18 b.size := rfl
  have h4 : ((b[1].toNat : Int) != 69) = !(getD1 b) := by
    rw [HD1.out, Bool.eq_iff_iff]; simp; omega
  have h6 : ((b[1].toNat : Int) == 69) = getD1 b := by
    rw [HD1.out, Bool.eq_iff_iff]; simp; omega
  have h5 : getD1 b = false → ((b[1].toNat : Int) != 70) = false := by
    intro e
    rw [HD1.out] at e
    have : b[1].toNat = 70 := by rcases f2 with q | q; · rw [q] at e; cases e
                                 · exact q
    simp; omega
  obtain ⟨fi, hfi⟩ : ∃ fi, fi = getD1 b := ⟨_, rfl⟩
  obtain ⟨td, htdd⟩ : ∃ td, td = b.extract 18 b.size := ⟨_, rfl⟩
  rw [← hfi] at h4 h5 h6 HV HENC
  rw [htd, ← htdd] at HV hts HENC HWV
  have HTD := Lib.hid htdd
  have HFI := Lib.hid hfi
  clear f2 HD1 htd hfi htdd
  obtain ⟨RV, hRV⟩ : ∃ R, R = fragV (getF b).1 := ⟨_, rfl⟩
  obtain ⟨RE, hRE⟩ : ∃ R, R = (getF b).2 := ⟨_, rfl⟩
  rw [← hRV, ← hRE]
  have HRV := Lib.hid hRV
  have HRE := Lib.hid hRE
  clear hRV hRE
  cases fi
  all_goals
    simp only [Bool.not_false, Bool.not_true, forall_const, Bool.true_eq_false, false_implies] at h4 h5 h6
    go_enter Try.func24, Try.ntmps24
    go_wp2_with fail
    obtain ⟨W1, hW1⟩ : ∃ W1, W1 = w.alloc (.cells #[.int .i64 0, .bool false, .int .i64 0, .string ⟨#[]⟩] 30) := ⟨_, rfl⟩
    rw [← hW1]
    have r1 : W1.heap[w.heap.size]? = some (.cells #[.int .i64 0, .bool false, .int .i64 0, .string ⟨#[]⟩] 30 (0, 0)) := by rw [hW1]; exact World.alloc_heap_new w _
    have bW : Hid (Below w.heap.size w W1) := by rw [hW1]; exact Lib.hid ((Below.refl _ w).alloc (Nat.le_refl _) _)
    have sz : w.heap.size < W1.heap.size := (Array.getElem?_eq_some_iff.1 r1).1
    have HR1 := Lib.hid r1
    clear hW1 r1
    go_loopw [4, 5, 6] (fun s4 s5 s6 wr => ∃ k : Nat, k ≤ 8 ∧ s4 = .int .i64 (wr64 (valK b 2 k)) ∧ s5 = .int .i64 (wr64 (valK b 10 k)) ∧ s6 = .int .i64 ((k : Int) + 2) ∧ wr = W1) (fun _ _ s _ => (10 - intOf s).toNat)
    case atStart => exact ⟨0, by omega, rfl, rfl, rfl, rfl⟩
    case round =>
      obtain ⟨k, hk, rfl, rfl, rfl, rfl⟩ := hrel
      by_cases hlt : k < 8
      · have hi0 : (0 : Int) ≤ (k : Int) + 2 := by omega
        have hi1 : (k : Int) + 2 < b.size := by omega
        have hj1 : (k : Int) + 10 < b.size := by omega
        have hc : (k : Int) + 2 < 10 := by omega
        go_wp2_with fail
        go_roundw
        case rel =>
          refine ⟨k + 1, by omega, ?_, ?_, ?_, trivial⟩
          · rw [HVK.out 2 k, ← wr64_step, show 2 + k = k + 2 by omega, getD_at (show k + 2 < b.size by omega)]
          · rw [HVK.out 10 k, ← wr64_step, show 10 + k = k + 2 + 8 by omega, getD_at (show k + 2 + 8 < b.size by omega)]
          · rw [show (k : Int) + 2 + 1 = ((k + 1 : Nat) : Int) + 2 by omega]
        case measure => simp [intOf]; omega
      · obtain rfl : k = 8 := by omega
        obtain ⟨i, hi⟩ : ∃ i, i = valK b 2 8 := ⟨_, rfl⟩
        obtain ⟨l, hl⟩ : ∃ l, l = valK b 10 8 := ⟨_, rfl⟩
        rw [← hi] at HENC HV HWV
        rw [← hl] at HENC HV HWV
        rw [← hi, ← hl]
        have a1 := wr64_again i
        have a2 := wr64_again l
        cases hv : validB i l td
        · rw [hv] at HWV
          simp only [hv, Bool.false_eq_true, if_false] at HV
          obtain rfl : RV = noV := by rw [HRV.out, HV.out]; rfl
          obtain rfl : RE = 6 := by rw [HRE.out, HV.out]
          have hvv : Hid (∀ W, Calls Try.prog 18 #[fragV (wr64 i, getD1 b, wr64 l, td)] W fun e w' => e = .returned (.bool false) ∧ Below W.heap.size W w') :=
            Lib.hid fun W => rvalid_no _ _ (getD1 b) td W hts HWV.out
          rw [← HFI.out] at hvv
          clear HVK HVL l2 l10 hi hl hv HV HENC HWV HRV HRE
          go_wp2_with fail
          go_region_held3 (fun _ => True) (trivial) (fail)
          all_goals
            go_wp2_with fail
            rw [← HTD.out]
            refine (hvv.out _).mono ?_
            rintro e w2 ⟨rfl, b2⟩
            have qS := (b2.block wr.heap.size (by simp)).trans (World.alloc_heap_new wr _)
            have qR := (b2.block w.heap.size (by simp; omega)).trans ((Below.heap_alloc wr _ _ sz).trans HR1.out)
            have BF : Below w.heap.size w w2 := bW.out.trans (((Below.refl w.heap.size wr).alloc (by omega) _).drew.trans (b2.mono (by simp; omega)))
            have u0 := cell_at qS 0
            have u1 := cell_at qS 1
            have u2 := cell_at qS 2
            have u3 := cell_at qS 3
            have v0 := cell_at qR 0
            have v1 := cell_at qR 1
            have v2 := cell_at qR 2
            have v3 := cell_at qR 3
            simp only [List.getElem?_toArray, List.getElem?_cons_zero, List.getElem?_cons_succ] at u0 u1 u2 u3 v0 v1 v2 v3
            have hfz : ∀ j, w2.frozen? ⟨w.heap.size, j, none⟩ = false := by intro j; simp [World.frozen?, qR]
            have f0 := hfz 0
            have f1 := hfz 1
            have f2 := hfz 2
            have f3 := hfz 3
            have HBF := Lib.hid BF
            clear b2 qS qR BF hfz
            go_wp2_with fail
            refine bodyPost_ret (v := .tuple #[noV, .int .i64 6]) (by simp [results, Try.results24, go_sem, *]) rfl ⟨rfl, ?_⟩
            exact (((HBF.out.setCell (by simp) _).setCell (by simp) _).setCell (by simp) _).setCell (by simp) _
        · obtain ⟨g1, g2, g3, g4, g5⟩ := valid_of hv
          have ei : wr64 i = i := wr64_small i (by omega)
          have el : wr64 l = l := wr64_small l (by omega)
          simp only [hv, if_true] at HV
          obtain rfl : RV = fragV (i, _, l, td) := by rw [HRV.out, HV.out]
          obtain rfl : RE = 0 := by rw [HRE.out, HV.out]
          clear HRV HRE
          rw [ei, el] at HWV
          rw [ei] at a1
          rw [el] at a2
          rw [ei, el]
          have hvv : Hid (∀ W, Calls Try.prog 18 #[fragV (i, getD1 b, l, td)] W fun e w' => e = .returned (.bool true) ∧ Below W.heap.size W w') :=
            Lib.hid fun W => rvalid_yes _ _ (getD1 b) td W hv
          have hpp : Hid (∀ W, Calls Try.prog 22 #[fragV (i, getD1 b, l, td)] W fun e w' => e = .returned (.tuple #[.string b, .int .i64 0]) ∧ Below W.heap.size W w') := by
            refine Lib.hid fun W => ?_
            have := rput_ok i l (getD1 b) td W hv
            rw [← HFI.out] at this ⊢
            rwa [HENC.out] at this
          rw [← HFI.out] at hvv hpp
          clear HVK HVL l2 l10 hi hl hv HV HENC HWV ei el g1 g2 g3 g4 g5
          go_wp2_with fail
          go_region_held3 (fun _ => True) (trivial) (fail)
          all_goals
            go_wp2_with fail
            rw [← HTD.out]
            refine (hvv.out _).mono ?_
            rintro e w2 ⟨rfl, b2⟩
            have qS := (b2.block wr.heap.size (by simp)).trans (World.alloc_heap_new wr _)
            have qR := (b2.block w.heap.size (by simp; omega)).trans ((Below.heap_alloc wr _ _ sz).trans HR1.out)
            have BF : Below w.heap.size w w2 := bW.out.trans (((Below.refl w.heap.size wr).alloc (by omega) _).drew.trans (b2.mono (by simp; omega)))
            have u0 := cell_at qS 0
            have u1 := cell_at qS 1
            have u2 := cell_at qS 2
            have u3 := cell_at qS 3
            have v0 := cell_at qR 0
            have v1 := cell_at qR 1
            have v2 := cell_at qR 2
            have v3 := cell_at qR 3
            simp only [List.getElem?_toArray, List.getElem?_cons_zero, List.getElem?_cons_succ] at u0 u1 u2 u3 v0 v1 v2 v3
            have hfz : ∀ j, w2.frozen? ⟨w.heap.size, j, none⟩ = false := by intro j; simp [World.frozen?, qR]
            have f0 := hfz 0
            have f1 := hfz 1
            have f2 := hfz 2
            have f3 := hfz 3
            have HBF := Lib.hid BF
            have szS := (Array.getElem?_eq_some_iff.1 qS).1
            have szR := (Array.getElem?_eq_some_iff.1 qR).1
            have HS := Lib.hid qS
            have HR := Lib.hid qR
            clear b2 BF hfz qS qR
            go_wp2_with fail
            refine (hpp.out _).mono ?_
            rintro e w3 ⟨rfl, b3⟩
            have qS := (b3.block wr.heap.size (by simpa using szS)).trans HS.out
            have qR := (b3.block w.heap.size (by simpa using szR)).trans HR.out
            have BF : Below w.heap.size w w3 := HBF.out.trans (b3.mono (by omega))
            clear u0 u1 u2 u3 v0 v1 v2 v3 f0 f1 f2 f3
            have u0 := cell_at qS 0
            have u1 := cell_at qS 1
            have u2 := cell_at qS 2
            have u3 := cell_at qS 3
            have v0 := cell_at qR 0
            have v1 := cell_at qR 1
            have v2 := cell_at qR 2
            have v3 := cell_at qR 3
            simp only [List.getElem?_toArray, List.getElem?_cons_zero, List.getElem?_cons_succ] at u0 u1 u2 u3 v0 v1 v2 v3
            have hfz : ∀ j, w3.frozen? ⟨w.heap.size, j, none⟩ = false := by intro j; simp [World.frozen?, qR]
            have f0 := hfz 0
            have f1 := hfz 1
            have f2 := hfz 2
            have f3 := hfz 3
            have HBF3 := Lib.hid BF
            clear b3 BF hfz qS qR
            go_wp2_with fail
            refine bodyPost_ret (v := .tuple #[fragV (i, _, l, td), .int .i64 0]) (by simp [results, Try.results24, go_sem, *]) rfl ⟨rfl, ?_⟩
            exact (((HBF3.out.setCell (by simp) _).setCell (by simp) _).setCell (by simp) _).setCell (by simp) _
theorem rget_any (b : ByteArray) (w : World) (hs : b.size ≤ 9223372036854775807) :
    Calls Try.prog 24 #[.string b] w fun e w' => e = .returned (.tuple #[fragV (getF b).1, .int .i64 (getF b).2]) ∧ Below w.heap.size w w' := by
  cases h : formB b
  · rw [getF_no (by rw [h]; rfl)]
    exact rget_form b w hs h
  · exact rget_rest b w hs h
end Go.Proofs.Ytbddggdbhfmlnaa
