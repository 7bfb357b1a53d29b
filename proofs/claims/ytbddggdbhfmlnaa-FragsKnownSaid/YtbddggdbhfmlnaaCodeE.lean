/- Get of frags. -/
import Derived.Test.YtbddggdbhfmlnaaCodeD
import Derived.Test.YtbddggdbhfmlnaaCodeP
import Derived.Deep.RegionHeld3
namespace Go.Proofs.Ytbddggdbhfmlnaa
open Go.RowKit Go.Rt Go.Rw Go.Mp Go.Lib

abbrev fragV (f : FragD) : Value := .agg #[.int .i64 f.1, .bool f.2.1, .int .i64 f.2.2.1, .string f.2.2.2]
abbrev noV : Value := .agg #[.int .i64 0, .bool false, .int .i64 0, .string ⟨#[]⟩]
theorem getF_no {b : ByteArray} (h : (formB b && validB (valK b 2 8) (valK b 10 8) (tailD b)) = false) : getF b = ((0, false, 0, ByteArray.empty), 6) := by unfold getF; rw [h]; rfl
theorem getF_yes {b : ByteArray} (h : (formB b && validB (valK b 2 8) (valK b 10 8) (tailD b)) = true) : getF b = (((valK b 2 8 : Int), getD1 b, (valK b 10 8 : Int), tailD b), 0) := by unfold getF; rw [h]; rfl
theorem form_short {b : ByteArray} (h : b.size < 18) : formB b = false := by unfold formB; rw [show decide (18 ≤ b.size) = false by simp; omega]; rfl
theorem getD_at {b : ByteArray} {k : Nat} (h : k < b.size) : b.data.getD k 0 = b[k] := by
  have hd : k < b.data.size := h
  unfold Array.getD
  rw [dif_pos hd]
  rfl
theorem u8_nat (a : UInt8) (n : Nat) (hn : n < 256) : (a = UInt8.ofNat n) ↔ a.toNat = n := by
  rw [← UInt8.toNat_inj, UInt8.toNat_ofNat', Nat.mod_eq_of_lt hn]
theorem form_iff {b : ByteArray} (h : 18 ≤ b.size) : formB b = true ↔ b[0].toNat = 131 ∧ (b[1].toNat = 69 ∨ b[1].toNat = 70) := by
  unfold formB
  rw [getD_at (show 0 < b.size by omega), getD_at (show 1 < b.size by omega)]
  simp only [Bool.and_eq_true, decide_eq_true_eq, Bool.or_eq_true, beq_iff_eq]
  have e0 := u8_nat b[0] 131 (by omega)
  have e1 := u8_nat b[1] 69 (by omega)
  have e2 := u8_nat b[1] 70 (by omega)
  constructor
  · rintro ⟨_, q1, q2⟩
    exact ⟨e0.1 q1, q2.imp e1.1 e2.1⟩
  · rintro ⟨q1, q2⟩
    exact ⟨h, e0.2 q1, q2.imp e1.2 e2.2⟩

set_option maxRecDepth 100000 in
set_option maxHeartbeats 1000000 in
theorem get_form (b : ByteArray) (w : World) (hs : b.size ≤ 9223372036854775807) (h : formB b = false) :
    Calls Try.prog 23 #[.string b] w fun e w' => e = .returned (.tuple #[noV, .int .i64 6]) ∧ Below w.heap.size w w' := by
  by_cases h1 : b.size < 18
  · have h1' : (b.size : Int) < 18 := by omega
    clear h
    go_enter Try.func23, Try.ntmps23
    go_wp2_with fail
    refine bodyPost_ret (v := .tuple #[noV, .int .i64 6]) (by simp [results, Try.results23, go_sem]) rfl ⟨rfl, (Below.refl _ _).alloc (Nat.le_refl _) _⟩
  · have h1' : ¬ (b.size : Int) < 18 := by omega
    have hb0 : 0 < b.size := by omega
    have hb1 : 1 < b.size := by omega
    have hf : ¬ (b[0].toNat = 131 ∧ (b[1].toNat = 69 ∨ b[1].toNat = 70)) := by rw [← form_iff (by omega), h]; simp
    clear h
    by_cases h2 : b[0].toNat = 131
    · have h2' : ((b[0].toNat : Int) != 131) = false := by simp; omega
      have h3 : b[1].toNat ≠ 69 ∧ b[1].toNat ≠ 70 := by
        constructor
        · intro e; exact hf ⟨h2, .inl e⟩
        · intro e; exact hf ⟨h2, .inr e⟩
      have h4 : ((b[1].toNat : Int) != 69) = true := by rw [bne_iff_ne]; omega
      have h5 : ((b[1].toNat : Int) != 70) = true := by rw [bne_iff_ne]; omega
      clear hf h2 h3
      go_enter Try.func23, Try.ntmps23
      go_wp2_with fail
      refine bodyPost_ret (v := .tuple #[noV, .int .i64 6]) (by simp [results, Try.results23, go_sem]) rfl ⟨rfl, (Below.refl _ _).alloc (Nat.le_refl _) _⟩
    · have h2' : ((b[0].toNat : Int) != 131) = true := by rw [bne_iff_ne]; omega
      clear hf h2
      go_enter Try.func23, Try.ntmps23
      go_wp2_with fail
      refine bodyPost_ret (v := .tuple #[noV, .int .i64 6]) (by simp [results, Try.results23, go_sem]) rfl ⟨rfl, (Below.refl _ _).alloc (Nat.le_refl _) _⟩

theorem below_drewN {n : Nat} {a b : World} (h : Below n a b) (k : Nat) : Below n a (b.drewN k) := ⟨h.os, h.tape, h.output, h.size, h.block⟩
theorem read_q (s : ByteArray) (w : World) (hs : 8 ≤ s.size) (hs2 : s.size ≤ 9223372036854775807) :
    Calls Try.prog 30 #[.string s] w fun e w' => e = .returned (.int .u64 (valK s 0 8)) ∧ w' = w := (read_any s w hs hs2).mono fun _ _ ⟨h1, h2⟩ => ⟨h1, h2.symm⟩

set_option maxRecDepth 100000 in
set_option maxHeartbeats 1000000 in
theorem get_rest (b : ByteArray) (w : World) (hs : b.size ≤ 9223372036854775807) (h : formB b = true) :
    Calls Try.prog 23 #[.string b] w fun e w' => e = .returned (.tuple #[fragV (getF b).1, .int .i64 (getF b).2]) ∧ Below w.heap.size w w' := by
  have h1 : 18 ≤ b.size := by
    rcases Nat.lt_or_ge b.size 18 with q | q
    · rw [form_short q] at h; cases h
    · exact q
  have h1' : ¬ (b.size : Int) < 18 := by omega
  have hb0 : 0 < b.size := by omega
  have hb1 : 1 < b.size := by omega
  obtain ⟨f1, f2⟩ := (form_iff h1).1 h
  have h2' : ((b[0].toNat : Int) != 131) = false := by simp; omega
  have z2 : (b.extract 2 b.size).size = b.size - 2 := by rw [ByteArray.size_extract]; omega
  have z10 : (b.extract 10 b.size).size = b.size - 10 := by rw [ByteArray.size_extract]; omega
  have r2 : 8 ≤ (b.extract 2 b.size).size := by omega
  have r10 : 8 ≤ (b.extract 10 b.size).size := by omega
  have r2' : (b.extract 2 b.size).size ≤ 9223372036854775807 := by omega
  have r10' : (b.extract 10 b.size).size ≤ 9223372036854775807 := by omega
  have C2 := Lib.hid (fun W => read_q (b.extract 2 b.size) W r2 r2')
  have C10 := Lib.hid (fun W => read_q (b.extract 10 b.size) W r10 r10')
  rw [valK_extract b 2 8 (by omega)] at C2
  rw [valK_extract b 10 8 (by omega)] at C10
  have HF := Lib.hid h
  have l2 := valK_lt b 2 8
  have l10 := valK_lt b 10 8
  have HV : Hid (getF b = if validB (valK b 2 8) (valK b 10 8) (tailD b) = true then (((valK b 2 8 : Int), getD1 b, (valK b 10 8 : Int), tailD b), 0) else ((0, false, 0, ByteArray.empty), 6)) := by
    refine Lib.hid ?_; unfold getF; rw [h, Bool.true_and]
  have HD1 : Hid (getD1 b = (b[1].toNat == 69)) := by
    refine Lib.hid ?_
    unfold getD1
    rw [getD_at hb1, Bool.eq_iff_iff, beq_iff_eq, beq_iff_eq]
    exact u8_nat b[1] 69 (by omega)
  obtain ⟨i, hi⟩ : ∃ i, i = valK b 2 8 := ⟨_, rfl⟩
  obtain ⟨l, hl⟩ : ∃ l, l = valK b 10 8 := ⟨_, rfl⟩
  rw [← hi] at C2 HV l2
  rw [← hl] at C10 HV l10
  simp only [Nat.reducePow] at l2 l10
  clear h z2 z10 r2 r2' r10 r10' f1 hi hl
  have hb1' : b[1].toNat = 69 ∨ b[1].toNat = 70 := f2
  have hts : (tailD b).size ≤ 9223372036854775807 := by unfold tailD; rw [ByteArray.size_extract]; omega
  have htd : tailD b = b.extract 18 b.size := rfl
  have h4 : ((b[1].toNat : Int) != 69) = !(getD1 b) := by
    rw [HD1.out, Bool.eq_iff_iff]; simp; omega
  have h6 : ((b[1].toNat : Int) == 69) = getD1 b := by
    rw [HD1.out, Bool.eq_iff_iff]; simp; omega
  have h5 : getD1 b = false → ((b[1].toNat : Int) != 70) = false := by
    intro e
    rw [HD1.out] at e
    have : b[1].toNat = 70 := by rcases f2 with q | q; · rw [q] at e; cases e
                                 · exact q
    simp; omega
  obtain ⟨fi, hfi⟩ : ∃ fi, fi = getD1 b := ⟨_, rfl⟩
  obtain ⟨td, htdd⟩ : ∃ td, td = b.extract 18 b.size := ⟨_, rfl⟩
  rw [← hfi] at h4 h5 h6 HV
  rw [htd, ← htdd] at HV hts
  have HTD := Lib.hid htdd
  clear hb1' f2 HD1 htd hfi htdd
  by_cases c1 : i ≤ 2147483647
  · by_cases c2 : l ≤ 262144
    · have c1' : ¬ (2147483647 : Int) < i := by omega
      have c2' : ¬ (262144 : Int) < l := by omega
      have w1 : IntKind.i64.wrap (i : Int) = i := by rw [IntKind.wrap_i64]; omega
      have w2 : IntKind.i64.wrap (l : Int) = l := by rw [IntKind.wrap_i64]; omega
      have hvv : Hid (∀ W, Calls Try.prog 26 #[fragV (i, fi, l, td)] W fun e w' => e = .returned (.bool (validB i l td)) ∧ Below W.heap.size W w') := by
        refine Lib.hid fun W => ?_
        cases hv : validB i l td
        · exact valid_no i l fi td W hts hv
        · exact valid_yes i l fi td W hv
      have HVF : Hid (fragV (getF b).1 = (if validB i l td = true then fragV (i, fi, l, td) else noV) ∧ (getF b).2 = if validB i l td = true then 0 else 6) := by
        refine Lib.hid ?_
        rw [HV.out]
        cases hv : validB i l td <;> exact ⟨rfl, rfl⟩
      obtain ⟨RV, hRV⟩ : ∃ R, R = fragV (getF b).1 := ⟨_, rfl⟩
      obtain ⟨RE, hRE⟩ : ∃ R, R = (getF b).2 := ⟨_, rfl⟩
      rw [← hRV, ← hRE] at HVF
      rw [← hRV, ← hRE]
      obtain ⟨vb, hvb⟩ : ∃ vb, vb = validB i l td := ⟨_, rfl⟩
      rw [← hvb] at hvv HVF
      clear HV hRV hRE hvb
      cases fi
      all_goals
        simp only [Bool.not_false, Bool.not_true, forall_const, Bool.true_eq_false, false_implies] at h4 h5 h6
        go_enter Try.func23, Try.ntmps23
        go_wp2_with fail
        go_quiet ((first | (go_at_call_of 30 (Value.string (b.extract 2 b.size)); exact Calls.quiet_of_same (C2.out _)) | (go_at_call 30; exact Calls.quiet_of_same (C10.out _))))
        go_wp2_with fail
        obtain ⟨W1, hW1⟩ : ∃ W1, W1 = (w.alloc (.cells #[.int .i64 0, .bool false, .int .i64 0, .string ⟨#[]⟩] 30)).drewN nq := ⟨_, rfl⟩
        have r1 : W1.heap[w.heap.size]? = some (.cells #[.int .i64 0, .bool false, .int .i64 0, .string ⟨#[]⟩] 30 (0, 0)) := by rw [hW1]; exact World.alloc_heap_new w _
        have bW : Hid (Below w.heap.size w W1) := by rw [hW1]; exact Lib.hid (below_drewN ((Below.refl _ w).alloc (Nat.le_refl _) _) _)
        have sz : w.heap.size < W1.heap.size := (Array.getElem?_eq_some_iff.1 r1).1
        rw [← hW1]
        have HR1 := Lib.hid r1
        clear hW1 r1
        go_region_held3 (fun _ => True) (trivial) (fail)
        all_goals
          go_wp2_with fail
          rw [← HTD.out]
          refine (hvv.out _).mono ?_
          rintro e w2 ⟨rfl, b2⟩
          have qS := (b2.block W1.heap.size (by simp)).trans (World.alloc_heap_new W1 _)
          have qR := (b2.block w.heap.size (by simp; omega)).trans ((Below.heap_alloc W1 _ _ sz).trans HR1.out)
          have BF : Below w.heap.size w w2 := bW.out.trans (((Below.refl w.heap.size W1).alloc (by omega) _).drew.trans (b2.mono (by simp; omega)))
          have u0 := cell_at qS 0
          have u1 := cell_at qS 1
          have u2 := cell_at qS 2
          have u3 := cell_at qS 3
          have v0 := cell_at qR 0
          have v1 := cell_at qR 1
          have v2 := cell_at qR 2
          have v3 := cell_at qR 3
          simp only [List.getElem?_toArray, List.getElem?_cons_zero, List.getElem?_cons_succ] at u0 u1 u2 u3 v0 v1 v2 v3
          have hfz : ∀ j, w2.frozen? ⟨w.heap.size, j, none⟩ = false := by intro j; simp [World.frozen?, qR]
          have f0 := hfz 0
          have f1 := hfz 1
          have f2 := hfz 2
          have f3 := hfz 3
          have HBF := Lib.hid BF
          clear b2 qS qR BF hfz
          cases vb
          · obtain ⟨e1, e2⟩ := HVF.out
            simp only [Bool.false_eq_true, if_false] at e1 e2
            subst e1 e2
            go_wp2_with fail
            refine bodyPost_ret (v := .tuple #[noV, .int .i64 6]) (by simp [results, Try.results23, go_sem, *]) rfl ⟨rfl, ?_⟩
            exact (((HBF.out.setCell (by simp) _).setCell (by simp) _).setCell (by simp) _).setCell (by simp) _
          · obtain ⟨e1, e2⟩ := HVF.out
            simp only [if_true] at e1 e2
            subst e1 e2
            go_wp2_with fail
            refine bodyPost_ret (v := .tuple #[fragV (i, _, l, td), .int .i64 0]) (by simp [results, Try.results23, go_sem, *]) rfl ⟨rfl, ?_⟩
            exact (((HBF.out.setCell (by simp) _).setCell (by simp) _).setCell (by simp) _).setCell (by simp) _
    · have c1' : ¬ (2147483647 : Int) < i := by omega
      have c2' : (262144 : Int) < l := by omega
      have e : getF b = ((0, false, 0, ByteArray.empty), 6) := by
        rw [HV.out, if_neg]; simp [validB]; omega
      rw [e]
      clear e
      cases fi
      all_goals
        simp only [Bool.not_false, Bool.not_true, forall_const, Bool.true_eq_false, false_implies] at h4 h5 h6
        go_enter Try.func23, Try.ntmps23
        go_wp2_with fail
        go_quiet ((first | (go_at_call_of 30 (Value.string (b.extract 2 b.size)); exact Calls.quiet_of_same (C2.out _)) | (go_at_call 30; exact Calls.quiet_of_same (C10.out _))))
        go_wp2_with fail
        refine bodyPost_ret (v := .tuple #[noV, .int .i64 6]) (by simp [results, Try.results23, go_sem]) rfl ⟨rfl, ?_⟩
        exact ((((below_drewN ((Below.refl _ w).alloc (Nat.le_refl _) _) _).setCell (by simp) _).setCell (by simp) _).setCell (by simp) _).setCell (by simp) _
  · have c1' : (2147483647 : Int) < i := by omega
    have e : getF b = ((0, false, 0, ByteArray.empty), 6) := by
      rw [HV.out, if_neg]; simp [validB]; omega
    rw [e]
    clear e
    cases fi
    all_goals
      simp only [Bool.not_false, Bool.not_true, forall_const, Bool.true_eq_false, false_implies] at h4 h5 h6
      go_enter Try.func23, Try.ntmps23
      go_wp2_with fail
      go_quiet ((first | (go_at_call_of 30 (Value.string (b.extract 2 b.size)); exact Calls.quiet_of_same (C2.out _)) | (go_at_call 30; exact Calls.quiet_of_same (C10.out _))))
      go_wp2_with fail
      refine bodyPost_ret (v := .tuple #[noV, .int .i64 6]) (by simp [results, Try.results23, go_sem]) rfl ⟨rfl, ?_⟩
      exact ((((below_drewN ((Below.refl _ w).alloc (Nat.le_refl _) _) _).setCell (by simp) _).setCell (by simp) _).setCell (by simp) _).setCell (by simp) _
end Go.Proofs.Ytbddggdbhfmlnaa
