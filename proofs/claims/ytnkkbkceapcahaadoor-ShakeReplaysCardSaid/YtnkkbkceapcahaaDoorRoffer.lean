/- offered of the reference, and its Take by it. -/
import Derived.Test.YtnkkbkceapcahaaDoorRtake
namespace Go.Proofs.YtnkkbkceapcahaaDoor
open Go.RowKit Go.Rt Go.Rw

set_option maxRecDepth 100000 in
set_option maxHeartbeats 2000000 in
theorem roffer_any (s : Sd) (hs : SdOk s) (b : ByteArray) (hb : b.size ≤ 100000) (B : Nat) (w : World) (hB : Blk w B 83 (sdC s)) (ht : Tabs w) :
    Calls Tryd.prog 46 #[.pointer (some ⟨B, 0, none⟩), .string b] w (Fin 83 B (offerF s b) w) := by
  have HB := Lib.hid hB
  have LTB := Lib.hid hB.lt
  have HT := Lib.hid ht
  have HOK := Lib.hid hs
  obtain ⟨nB0, nB1⟩ := Tabs.ne ht hB
  have HTO : Hid (∀ W, Only [B] w W → Tabs W) := Lib.hid (fun W h => ht.only h (by simp; omega) (by simp; omega))
  have eb : busyC.toList = [2, 2] := by rw [ByteArray.toList_eq]; rfl
  have es : staleC.toList = [2, 3] := by rw [ByteArray.toList_eq]; rfl
  have eo : offerC.toList = [2, 1] := by rw [ByteArray.toList_eq]; rfl
  clear hs ht nB0 nB1
  cases x1 : (b.toList == [2, 2]) with
  | true =>
    have hA : Hid (offerF s b = failS s 351) := Lib.hid (offerF_refused s b (.inl (by unfold seqB; rw [eb]; exact x1)))
    have FA := Lib.hid (fail_any s 351 B w hB)
    clear eb es eo hB
    go_enter Tryd.func46, Tryd.ntmps46
    go_wp2_with fail
    refine (FA.out).mono ?_
    rintro e w9 ⟨rfl, f1, f2⟩
    have F1 := Lib.hid f1
    have F2 := Lib.hid f2
    clear f1 f2
    simp only [failS]
    go_wp2
    go_ret2
    exact ⟨by rw [hA.out]; rfl, by rw [hA.out]; exact F1.out, F2.out⟩
  | false =>
    cases x2 : (b.toList == [2, 3]) with
    | true =>
      have hA : Hid (offerF s b = failS s 351) := Lib.hid (offerF_refused s b (.inr (by unfold seqB; rw [es]; exact x2)))
      have FA := Lib.hid (fail_any s 351 B w hB)
      clear eb es eo hB
      go_enter Tryd.func46, Tryd.ntmps46
      go_wp2_with fail
      refine (FA.out).mono ?_
      rintro e w9 ⟨rfl, f1, f2⟩
      have F1 := Lib.hid f1
      have F2 := Lib.hid f2
      clear f1 f2
      simp only [failS]
      go_wp2
      go_ret2
      exact ⟨by rw [hA.out]; rfl, by rw [hA.out]; exact F1.out, F2.out⟩
    | false =>
      have hNR : Hid (¬ (seqB b busyC = true ∨ seqB b staleC = true)) := by
        refine Lib.hid ?_
        unfold seqB
        rw [eb, es, x1, x2]
        simp
      by_cases h2 : b.size < 2
      · have hA : Hid (offerF s b = failS s 6) := Lib.hid (offerF_form s b hNR.out (.inl h2))
        have h2' : (b.size : Int) < 2 := by omega
        have FA := Lib.hid (fail_any s 6 B w hB)
        clear eb es eo hB h2 hNR
        go_enter Tryd.func46, Tryd.ntmps46
        go_wp2_with fail
        refine (FA.out).mono ?_
        rintro e w9 ⟨rfl, f1, f2⟩
        have F1 := Lib.hid f1
        have F2 := Lib.hid f2
        clear f1 f2
        simp only [failS]
        go_wp2
        go_ret2
        exact ⟨by rw [hA.out]; rfl, by rw [hA.out]; exact F1.out, F2.out⟩
      · have h2' : ¬ (b.size : Int) < 2 := by omega
        have hl2 : (2 : Int) ≤ b.size := by omega
        cases x3 : ((b.extract 0 2).toList == [2, 1]) with
        | false =>
          have hA : Hid (offerF s b = failS s 6) := Lib.hid (offerF_form s b hNR.out (.inr (by unfold seqB; rw [eo]; exact x3)))
          have FA := Lib.hid (fail_any s 6 B w hB)
          clear eb es eo hB h2 hNR
          go_enter Tryd.func46, Tryd.ntmps46
          go_wp2_with fail
          refine (FA.out).mono ?_
          rintro e w9 ⟨rfl, f1, f2⟩
          have F1 := Lib.hid f1
          have F2 := Lib.hid f2
          clear f1 f2
          simp only [failS]
          go_wp2
          go_ret2
          exact ⟨by rw [hA.out]; rfl, by rw [hA.out]; exact F1.out, F2.out⟩
        | true =>
          have hP2 : Hid (¬ (b.size < 2 ∨ seqB (b.extract 0 2) offerC = false)) := by
            refine Lib.hid ?_
            unfold seqB
            rw [eo, x3]
            simp
            omega
          have hRz : (b.extract 2 b.size).size = b.size - 2 := ext_size _ _ _ (Nat.le_refl _)
          have CP := Lib.hid (fun W => readP_any (b.extract 2 b.size) (by omega) W)
          have HN := Lib.hid (fun h => offerF_none s b hNR.out hP2.out h)
          have HG := Lib.hid (fun r p h => offerF_some s b r p hNR.out hP2.out h)
          obtain ⟨R, hR⟩ : ∃ R, R = b.extract 2 b.size := ⟨_, rfl⟩
          have hR' : b.extract 2 b.size = R := hR.symm
          rw [← hR] at hRz CP HN HG
          have hRle : R.size ≤ 100000 := by omega
          clear hR hRz hb hNR hP2 eb es eo hB h2
          go_enter Tryd.func46, Tryd.ntmps46
          go_wp2_with fail
          refine (CP.out _).mono ?_
          rintro e w3 ⟨⟨nm, g, r, ok, rfl, hrd⟩, b3⟩
          have HRD := Lib.hid hrd
          have B3 := Lib.hid b3
          have B4 := Lib.hid (B3.out.alloc B3.out.size (.cells #[.string nm, .int .i64 (g : Int)] 23))
          have FB := Lib.hid (fun e => fail_any s e B _ (HB.out.below B4.out LTB.out))
          clear hrd b3
          cases ok with
          | false =>
            have hA := Lib.hid (HN.out HRD.out)
            have FA := Lib.hid (FB.out 6)
            go_wp2_with fail
            refine (FA.out).mono ?_
            rintro e w9 ⟨rfl, f1, f2⟩
            have F1 := Lib.hid f1
            have F2 := Lib.hid ((Only.of_below [B] B4.out (Nat.le_refl _)).trans f2)
            clear f1 f2
            simp only [failS]
            go_wp2
            go_ret2
            exact ⟨by rw [hA.out]; rfl, by rw [hA.out]; exact F1.out, F2.out⟩
          | true =>
            have HRD2 : Hid (readPF R = some (⟨nm, g⟩, r)) := Lib.hid HRD.out
            have hrz := readPF_le HRD2.out
            have hrz2 : r.size ≤ 100000 := by omega
            have hrv := Lib.hid (readPF_valid HRD2.out)
            have HA := Lib.hid (HG.out r ⟨nm, g⟩ HRD2.out)
            clear HRD hrz HN HG HRD2
            by_cases h8 : r.size = 8
            · have h8' : ((r.size : Int) != 8) = false := by rw [bne_eq_false_iff_eq]; omega
              have HA2 : Hid (offerF s b = if seqB nm s.want = false then failS s 351 else ({ s with other := ⟨nm, g⟩, their := valF r 8, sent := true }, replyC ++ numF s.chal 8 ++ proofF letD s.self ⟨nm, g⟩ s.cookie (valF r 8) s.chal, 0)) := by
                refine Lib.hid ?_
                rw [HA.out, if_neg (by simp [h8])]
              have CV : Hid (∀ W, Calls Tryd.prog 47 #[.string r] W fun e w' => e = .returned (.int .u64 (valF r 8)) ∧ W = w') := by
                refine Lib.hid fun W => ?_
                have := rvalue_any r (by omega) W
                rwa [h8] at this
              have htl := valF_lt r 8
              obtain ⟨t, htt⟩ : ∃ t, t = valF r 8 := ⟨_, rfl⟩
              rw [← htt] at HA2 CV htl
              have HTL : Hid (t ≤ 18446744073709551615) := by
                refine Lib.hid ?_
                have : (256 : Nat) ^ 8 = 18446744073709551616 := by decide
                omega
              clear HA h8 htl htt
              have lx := B3.out.size
              have k0 : (w3.alloc (.cells #[.string nm, .int .i64 (g : Int)] 23)).cell? ⟨w3.heap.size, 0, none⟩ = some (.string nm) := by simp
              have k1 : (w3.alloc (.cells #[.string nm, .int .i64 (g : Int)] 23)).cell? ⟨w3.heap.size, 1, none⟩ = some (.int .i64 (g : Int)) := by simp
              have hB4 := HB.out.below B4.out LTB.out
              have neX : ¬ w3.heap.size = B := by have := LTB.out; omega
              have neX2 : ¬ B = w3.heap.size := by omega
              have LX : Hid (w.heap.size ≤ w3.heap.size) := Lib.hid lx
              have SC4 := sd_cells hB4
              have s4 := SC4.c4
              have HB4 := Lib.hid hB4
              have T4 := Lib.hid (HT.out.below B4.out HT.out.two)
              clear hB4 SC4
              go_wp2_with fail
              generalize w3.heap.size = X at neX neX2 LX k0 k1 lx ⊢
              generalize w3.alloc (.cells #[.string nm, .int .i64 (g : Int)] 23) = W4 at k0 k1 s4 HB4 T4 B4 FB ⊢
              cases x4 : (nm.toList == s.want.toList) with
              | false =>
                have hA : Hid (offerF s b = failS s 351) := Lib.hid (by rw [HA2.out, if_pos (show seqB nm s.want = false from x4)])
                go_quiet (fail)
                have FA := Lib.hid (fail_any s 351 B _ (HB4.out.drewN nq))
                go_wp2_with fail
                refine (FA.out).mono ?_
                rintro e w9 ⟨rfl, f1, f2⟩
                have F1 := Lib.hid f1
                have F2 := Lib.hid ((Only.of_below [B] (below_drewN B4.out nq) (Nat.le_refl _)).trans f2)
                clear f1 f2
                simp only [failS]
                go_wp2
                go_ret2
                exact ⟨by rw [hA.out]; rfl, by rw [hA.out]; exact F1.out, F2.out⟩
              | true =>
                have hA : Hid (offerF s b = ({ s with other := ⟨nm, g⟩, their := t, sent := true }, replyC ++ numF s.chal 8 ++ proofF letD s.self ⟨nm, g⟩ s.cookie t s.chal, 0)) := by
                  refine Lib.hid ?_
                  rw [HA2.out, if_neg]
                  rw [show seqB nm s.want = true from x4]
                  decide
                go_quiet (fail)
                have B5 := Lib.hid (below_drewN B4.out nq)
                have HB5 := Lib.hid (HB4.out.drewN nq)
                have j0 : (W4.drewN nq).cell? ⟨X, 0, none⟩ = some (.string nm) := k0
                have j1 : (W4.drewN nq).cell? ⟨X, 1, none⟩ = some (.int .i64 (g : Int)) := k1
                have SC5 := sd_cells HB5.out
                have r2 := SC5.c2
                have r3 := SC5.c3
                have r7 := SC5.c7
                have r9 := SC5.c9
                have fr5 := fun j => HB5.out.frozen j
                clear k0 k1 s4 SC5 HA2
                go_wp2_with fail
                generalize W4.drewN nq = W5 at j0 j1 r2 r3 r7 r9 fr5 HB5 B5 ⊢
                go_region_held3 (fun w' => w'.cell? ⟨X, 0, none⟩ = some (.string nm) ∧ w'.cell? ⟨X, 1, none⟩ = some (.int .i64 (g : Int))) (((try dsimp only); refine ⟨?_, ?_⟩ <;> first | (go_keep; done) | (simp [*]; done)))
                  ((go_at_call 47; refine (CV.out _).mono ?_; rintro e w6 ⟨rfl, rfl⟩))
                have X6 : Blk ((((W5.setCell ⟨B, 2, none⟩ (.string nm)).setCell ⟨B, 3, none⟩ (.int .i64 (g : Int))).setCell ⟨B, 7, none⟩ (.int .u64 (t : Int))).setCell ⟨B, 9, none⟩ (.bool true)).drew B 83 (sdC { s with other := ⟨nm, g⟩, their := t, sent := true }) := ((((HB5.out.set_ 2 (.string nm)).set_ 3 (.int .i64 (g : Int))).set_ 7 (.int .u64 (t : Int))).set_ 9 (.bool true)).drew
                have O6 : Only [B] w ((((W5.setCell ⟨B, 2, none⟩ (.string nm)).setCell ⟨B, 3, none⟩ (.int .i64 (g : Int))).setCell ⟨B, 7, none⟩ (.int .u64 (t : Int))).setCell ⟨B, 9, none⟩ (.bool true)).drew :=
                  (((((Only.of_below [B] B5.out (Nat.le_refl _)).trans (Only.setCell _ _ _ (by simp))).trans (Only.setCell _ _ _ (by simp))).trans (Only.setCell _ _ _ (by simp))).trans (Only.setCell _ _ _ (by simp))).trans (Only.drew _ _)
                have T6 := HTO.out _ O6
                clear r2 r3 r7 r9 fr5 j0 j1
                go_wp2_with fail
                generalize ((((W5.setCell ⟨B, 2, none⟩ (.string nm)).setCell ⟨B, 3, none⟩ (.int .i64 (g : Int))).setCell ⟨B, 7, none⟩ (.int .u64 (t : Int))).setCell ⟨B, 9, none⟩ (.bool true)).drew = W6 at X6 O6 T6 ⊢
                have O6' := Lib.hid O6
                have X6' := Lib.hid X6
                have SC6 := sd_cells X6
                have HS5 : Hid (∀ n, (W6.drewN n).cell? ⟨B, 2, none⟩ = some (.string nm) ∧ (W6.drewN n).cell? ⟨B, 3, none⟩ = some (.int .i64 (g : Int)) ∧ (W6.drewN n).cell? ⟨B, 0, none⟩ = some (.string s.self.name) ∧ (W6.drewN n).cell? ⟨B, 1, none⟩ = some (.int .i64 s.self.gen) ∧ (W6.drewN n).cell? ⟨B, 5, none⟩ = some (.string s.cookie) ∧ (W6.drewN n).cell? ⟨B, 6, none⟩ = some (.int .u64 s.chal) ∧ (W6.drewN n).cell? ⟨B, 7, none⟩ = some (.int .u64 t) ∧ St W6 (W6.drewN n)) :=
                  Lib.hid (fun n => ⟨SC6.c2, SC6.c3, SC6.c0, SC6.c1, SC6.c5, SC6.c6, SC6.c7, (St.refl T6).drewN n⟩)
                have C8 : Hid (∀ W, Calls Tryd.prog 40 #[.int .u64 (s.chal : Int), .int .i64 8] W fun e w' => e = .returned (.string (numF s.chal 8)) ∧ Below W.heap.size W w') := Lib.hid (fun W => number_any 8 s.chal W (by omega) HOK.out.chal)
                have z8 := numF_size s.chal 8
                have CQ := Lib.hid (fun W hW => proofR_D s.self ⟨nm, g⟩ s.cookie t s.chal (nameF_size _ HOK.out.self.1).2 (nameF_size _ hrv.out.1).2 HOK.out.self.2 hrv.out.2 HOK.out.cookie HTL.out HOK.out.chal W hW)
                have hQz : (proofF letD s.self ⟨nm, g⟩ s.cookie t s.chal).size = 32 := macS_size _ _
                obtain ⟨Q, hQ⟩ : ∃ Q, Q = proofF letD s.self ⟨nm, g⟩ s.cookie t s.chal := ⟨_, rfl⟩
                obtain ⟨q8, hq8⟩ : ∃ q, q = numF s.chal 8 := ⟨_, rfl⟩
                rw [← hQ] at hA CQ hQz
                rw [← hq8] at hA C8 z8
                have CQ2 : Hid (∀ W, Tabs W → Calls Tryd.prog 23 #[.bool true, .agg #[.string s.self.name, .int .i64 s.self.gen], .agg #[.string nm, .int .i64 (g : Int)], .string s.cookie, .int .u64 s.chal, .int .u64 (t : Int)] W fun e w' => e = .returned (.string Q) ∧ Below W.heap.size W w') := CQ
                have hQs : ¬ 9223372036854775807 < 1 + q8.size := by omega
                have hQs2 : ¬ 9223372036854775807 < 1 + q8.size + Q.size := by omega
                clear CQ hQ hq8 SC6 X6 O6 T6
                go_region_held3 (fun w' => w'.cell? ⟨B, 2, none⟩ = some (.string nm) ∧ w'.cell? ⟨B, 3, none⟩ = some (.int .i64 (g : Int)) ∧ w'.cell? ⟨B, 0, none⟩ = some (.string s.self.name) ∧ w'.cell? ⟨B, 1, none⟩ = some (.int .i64 s.self.gen) ∧ w'.cell? ⟨B, 5, none⟩ = some (.string s.cookie) ∧ w'.cell? ⟨B, 6, none⟩ = some (.int .u64 s.chal) ∧ w'.cell? ⟨B, 7, none⟩ = some (.int .u64 t) ∧ St W6 w')
                  (first | exact HS5.out 1 | (obtain ⟨s1, s2, s3, s4, s5, s6, s7, s8⟩ := (‹_ ∧ _ ∧ _ ∧ _ ∧ _ ∧ _ ∧ _ ∧ St _ _›); exact ⟨cell_keep (by assumption) s1, cell_keep (by assumption) s2, cell_keep (by assumption) s3, cell_keep (by assumption) s4, cell_keep (by assumption) s5, cell_keep (by assumption) s6, cell_keep (by assumption) s7, s8.keep (by assumption)⟩))
                  (first
                    | (go_at_call 40; refine (C8.out _).mono ?_; rintro e w7 ⟨rfl, b7⟩)
                    | (go_at_call 23; refine (CQ2.out _ ((‹_ ∧ _ ∧ _ ∧ _ ∧ _ ∧ _ ∧ _ ∧ St _ _›).2.2.2.2.2.2.2).tabs).mono ?_; rintro e w8 ⟨rfl, b8⟩))
                all_goals
                  have hSt := (‹_ ∧ _ ∧ _ ∧ _ ∧ _ ∧ _ ∧ _ ∧ St _ _›).2.2.2.2.2.2.2
                  go_wp2
                  go_ret2
                  exact ⟨by rw [hA.out]; rfl, by rw [hA.out]; exact X6'.out.below hSt.bel X6'.out.lt, O6'.out.trans (Only.of_below [B] hSt.bel (Nat.le_refl _))⟩
            · have h8' : ((r.size : Int) != 8) = true := by rw [bne_iff_ne]; omega
              have hA : Hid (offerF s b = failS s 6) := Lib.hid (by rw [HA.out, if_pos h8])
              have FA := Lib.hid (FB.out 6)
              clear h8
              go_wp2_with fail
              refine (FA.out).mono ?_
              rintro e w9 ⟨rfl, f1, f2⟩
              have F1 := Lib.hid f1
              have F2 := Lib.hid ((Only.of_below [B] B4.out (Nat.le_refl _)).trans f2)
              clear f1 f2
              simp only [failS]
              go_wp2
              go_ret2
              exact ⟨by rw [hA.out]; rfl, by rw [hA.out]; exact F1.out, F2.out⟩

set_option maxRecDepth 100000 in
set_option maxHeartbeats 2000000 in
theorem rtake_offer (s : Sd) (hs : SdOk s) (h1 : s.state = 1) (hd : s.dials = true) (he : s.sent = false) (b : ByteArray) (hb : b.size ≤ 100000) (B : Nat) (w : World) (hB : Blk w B 83 (sdC s)) (ht : Tabs w) :
    Calls Tryd.prog 29 #[.pointer (some ⟨B, 0, none⟩), .string b] w (Fin 83 B (takeF s b) w) := by
  have hT : Hid (takeF s b = offerF s b) := Lib.hid (by unfold takeF moveF; rw [if_neg (by simp [h1])]; simp [hd, he])
  rw [hT.out]
  have SC := sd_cells hB
  have c8 := SC.c8
  have c9 := SC.c9
  have c10 := SC.c10
  rw [hd] at c8
  rw [he] at c9
  rw [h1] at c10
  have c10' : w.cell? ⟨B, 10, none⟩ = some (.int .i64 1) := c10
  have RO := Lib.hid (roffer_any s hs b hb B w hB ht)
  obtain ⟨rr, hrr⟩ : ∃ rr, rr = offerF s b := ⟨_, rfl⟩
  rw [← hrr] at RO ⊢
  clear c10 SC hs hb hB ht h1 hd he hT hrr
  go_enter Tryd.func29, Tryd.ntmps29
  go_wp2_with fail
  refine (RO.out).mono ?_
  rintro e w1 ⟨rfl, f1, f2⟩
  have F1 := Lib.hid f1
  have F2 := Lib.hid f2
  clear f1 f2
  go_wp2
  go_ret2
  exact ⟨rfl, F1.out, F2.out⟩
end Go.Proofs.YtnkkbkceapcahaaDoor
