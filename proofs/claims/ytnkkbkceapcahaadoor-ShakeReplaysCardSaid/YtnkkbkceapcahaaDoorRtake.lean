/- Take of the reference: a side that does not wait; fail; a reply, an acknowledgement. -/
import Derived.Test.YtnkkbkceapcahaaDoorOffer
namespace Go.Proofs.YtnkkbkceapcahaaDoor
open Go.RowKit Go.Rt Go.Rw

theorem Fin.trans {T : TypeId} {B : Nat} {r : Res} {w w1 : World} {e : Ending} {w' : World} (ho : Only [B] w w1) (h : Fin T B r w1 e w') : Fin T B r w e w' := ⟨h.1, h.2.1, ho.trans h.2.2⟩
set_option maxHeartbeats 1000000 in
theorem fail_any (s : Sd) (e : Nat) (B : Nat) (w : World) (hB : Blk w B 83 (sdC s)) :
    Calls Tryd.prog 45 #[.pointer (some ⟨B, 0, none⟩), .int .i64 (e : Int)] w (Fin 83 B (failS s e) w) := by
  have c10 := (sd_cells hB).c10
  have f10 := hB.frozen 10
  have HB := Lib.hid hB
  clear hB
  go_enter Tryd.func45, Tryd.ntmps45
  go_wp2
  go_ret2
  exact ⟨rfl, HB.out.set_ 10 (.int .i64 4), Only.setCell _ _ _ (by simp)⟩
set_option maxRecDepth 100000 in
set_option maxHeartbeats 1000000 in
theorem rtake_off (s : Sd) (h : s.state ≠ 1) (b : ByteArray) (B : Nat) (w : World) (hB : Blk w B 83 (sdC s)) :
    Calls Tryd.prog 29 #[.pointer (some ⟨B, 0, none⟩), .string b] w (Fin 83 B (takeF s b) w) := by
  have c10 := (sd_cells hB).c10
  have hA : Hid (takeF s b = (s, ⟨#[]⟩, 2)) := Lib.hid (by unfold takeF; rw [if_pos h])
  have hs : ((s.state : Int) != 1) = true := by rw [bne_iff_ne]; omega
  have HB := Lib.hid hB
  clear hB h
  go_enter Tryd.func29, Tryd.ntmps29
  go_wp2
  go_ret2
  rw [hA.out]
  exact ⟨rfl, HB.out, Only.refl _ _⟩

set_option maxRecDepth 100000 in
set_option maxHeartbeats 2000000 in
theorem rtake_ack (s : Sd) (hs : SdOk s) (h1 : s.state = 1) (hd : s.dials = true) (he : s.sent = true) (b : ByteArray) (_hb : b.size ≤ 100000) (B : Nat) (w : World) (hB : Blk w B 83 (sdC s)) (ht : Tabs w) :
    Calls Tryd.prog 29 #[.pointer (some ⟨B, 0, none⟩), .string b] w (Fin 83 B (takeF s b) w) := by
  have HB := Lib.hid hB
  have hT : Hid (takeF s b = ackF s b) := Lib.hid (by unfold takeF moveF; rw [if_neg (by simp [h1])]; simp [hd, he])
  rw [hT.out]
  have SC := sd_cells hB
  have c8 := SC.c8
  have c9 := SC.c9
  have c10 := SC.c10
  rw [hd] at c8
  rw [he] at c9
  rw [h1] at c10
  have c10' : w.cell? ⟨B, 10, none⟩ = some (.int .i64 1) := c10
  clear c10
  by_cases hz : b.size = 33
  · have hp0 : 0 < b.size := by omega
    have hat := atB_get b 0 hp0
    have hcl : b[0].toNat < 256 := b[0].toNat_lt
    have hz' : ((b.size : Int) != 33) = false := by rw [bne_eq_false_iff_eq]; omega
    by_cases h4 : b[0].toNat = 4
    · have h4' : ((b[0].toNat : Int) != 4) = false := by rw [bne_eq_false_iff_eq]; omega
      have hA : Hid (ackF s b = if seqB (b.extract 1 b.size) (proofF letL s.other s.self s.cookie s.chal s.their) = false then failS s 350 else ({ s with state := 3 }, ⟨#[]⟩, 0)) := by
        refine Lib.hid ?_
        unfold ackF
        rw [if_neg (by rw [hat, h4]; simp [hz]), hz]
      have hone : (1 : Int) ≤ b.size := by omega
      obtain ⟨M, hM⟩ : ∃ M, M = b.extract 1 b.size := ⟨_, rfl⟩
      have hM' : b.extract 1 b.size = M := hM.symm
      rw [← hM] at hA
      have CP := Lib.hid (fun W hW => proofR_L s.other s.self s.cookie s.chal s.their hs.other.1 (nameF_size _ hs.self.1).2 hs.other.2 hs.self.2 hs.cookie hs.chal hs.their W hW)
      obtain ⟨P, hP⟩ : ∃ P, P = proofF letL s.other s.self s.cookie s.chal s.their := ⟨_, rfl⟩
      rw [← hP] at hA CP
      have HS0 : Hid (∀ n, (w.drewN n).cell? ⟨B, 2, none⟩ = some (.string s.other.name) ∧ (w.drewN n).cell? ⟨B, 3, none⟩ = some (.int .i64 s.other.gen) ∧ (w.drewN n).cell? ⟨B, 0, none⟩ = some (.string s.self.name) ∧ (w.drewN n).cell? ⟨B, 1, none⟩ = some (.int .i64 s.self.gen) ∧ (w.drewN n).cell? ⟨B, 5, none⟩ = some (.string s.cookie) ∧ (w.drewN n).cell? ⟨B, 6, none⟩ = some (.int .u64 s.chal) ∧ (w.drewN n).cell? ⟨B, 7, none⟩ = some (.int .u64 s.their) ∧ St w (w.drewN n)) :=
        Lib.hid (fun n => ⟨SC.c2, SC.c3, SC.c0, SC.c1, SC.c5, SC.c6, SC.c7, (St.refl ht).drewN n⟩)
      cases x1 : (M.toList == P.toList) with
      | false =>
        have hE : Hid (ackF s b = failS s 350) := Lib.hid (by rw [hA.out, if_pos (show seqB M P = false from x1)])
        clear hz hat h4 hA hM hP SC hs _hb hB ht h1 hd he hT
        go_enter Tryd.func29, Tryd.ntmps29
        go_wp2_with fail
        go_region_held3 (fun w' => w'.cell? ⟨B, 2, none⟩ = some (.string s.other.name) ∧ w'.cell? ⟨B, 3, none⟩ = some (.int .i64 s.other.gen) ∧ w'.cell? ⟨B, 0, none⟩ = some (.string s.self.name) ∧ w'.cell? ⟨B, 1, none⟩ = some (.int .i64 s.self.gen) ∧ w'.cell? ⟨B, 5, none⟩ = some (.string s.cookie) ∧ w'.cell? ⟨B, 6, none⟩ = some (.int .u64 s.chal) ∧ w'.cell? ⟨B, 7, none⟩ = some (.int .u64 s.their) ∧ St w w')
          (first | exact HS0.out 1 | (obtain ⟨s1, s2, s3, s4, s5, s6, s7, s8⟩ := (‹_ ∧ _ ∧ _ ∧ _ ∧ _ ∧ _ ∧ _ ∧ St _ _›); exact ⟨cell_keep (by assumption) s1, cell_keep (by assumption) s2, cell_keep (by assumption) s3, cell_keep (by assumption) s4, cell_keep (by assumption) s5, cell_keep (by assumption) s6, cell_keep (by assumption) s7, s8.keep (by assumption)⟩))
          ((go_at_call 23; refine (CP.out _ ((‹_ ∧ _ ∧ _ ∧ _ ∧ _ ∧ _ ∧ _ ∧ St _ _›).2.2.2.2.2.2.2).tabs).mono ?_; rintro e w2 ⟨rfl, b2⟩))
        all_goals
          have hSt := (‹_ ∧ _ ∧ _ ∧ _ ∧ _ ∧ _ ∧ _ ∧ St _ _›).2.2.2.2.2.2.2
          have B3 := HB.out.below hSt.bel HB.out.lt
          have FA := Lib.hid (fail_any s 350 B _ B3)
          have O3 := Lib.hid (Only.of_below [B] hSt.bel (Nat.le_refl _))
          clear hSt B3
          go_wp2_with fail
          refine (FA.out).mono ?_
          rintro e w3 ⟨rfl, f1, f2⟩
          have F1 := Lib.hid f1
          have F2 := Lib.hid (O3.out.trans f2)
          clear f1 f2
          simp only [failS]
          go_wp2
          go_ret2
          exact ⟨by rw [hE.out]; rfl, by rw [hE.out]; exact F1.out, F2.out⟩
      | true =>
        have hE : Hid (ackF s b = ({ s with state := 3 }, ⟨#[]⟩, 0)) := Lib.hid (by rw [hA.out, if_neg (by rw [show seqB M P = true from x1]; decide)])
        clear hz hat h4 hA hM hP SC hs _hb hB ht h1 hd he hT
        go_enter Tryd.func29, Tryd.ntmps29
        go_wp2_with fail
        go_region_held3 (fun w' => w'.cell? ⟨B, 2, none⟩ = some (.string s.other.name) ∧ w'.cell? ⟨B, 3, none⟩ = some (.int .i64 s.other.gen) ∧ w'.cell? ⟨B, 0, none⟩ = some (.string s.self.name) ∧ w'.cell? ⟨B, 1, none⟩ = some (.int .i64 s.self.gen) ∧ w'.cell? ⟨B, 5, none⟩ = some (.string s.cookie) ∧ w'.cell? ⟨B, 6, none⟩ = some (.int .u64 s.chal) ∧ w'.cell? ⟨B, 7, none⟩ = some (.int .u64 s.their) ∧ St w w')
          (first | exact HS0.out 1 | (obtain ⟨s1, s2, s3, s4, s5, s6, s7, s8⟩ := (‹_ ∧ _ ∧ _ ∧ _ ∧ _ ∧ _ ∧ _ ∧ St _ _›); exact ⟨cell_keep (by assumption) s1, cell_keep (by assumption) s2, cell_keep (by assumption) s3, cell_keep (by assumption) s4, cell_keep (by assumption) s5, cell_keep (by assumption) s6, cell_keep (by assumption) s7, s8.keep (by assumption)⟩))
          ((go_at_call 23; refine (CP.out _ ((‹_ ∧ _ ∧ _ ∧ _ ∧ _ ∧ _ ∧ _ ∧ St _ _›).2.2.2.2.2.2.2).tabs).mono ?_; rintro e w2 ⟨rfl, b2⟩))
        all_goals
          have hSt := (‹_ ∧ _ ∧ _ ∧ _ ∧ _ ∧ _ ∧ _ ∧ St _ _›).2.2.2.2.2.2.2
          have B3 := Lib.hid (HB.out.below hSt.bel HB.out.lt)
          have O3 := Lib.hid (Only.of_below [B] hSt.bel (Nat.le_refl _))
          have d10 := (sd_cells B3.out).c10
          have f10 := B3.out.frozen 10
          clear hSt
          go_wp2
          go_ret2
          exact ⟨by rw [hE.out]; rfl, by rw [hE.out]; exact B3.out.set_ 10 (.int .i64 3), O3.out.trans (Only.setCell _ _ _ (by simp))⟩
    · have h4' : ((b[0].toNat : Int) != 4) = true := by rw [bne_iff_ne]; omega
      have hA : Hid (ackF s b = failS s 6) := Lib.hid (by unfold ackF; rw [if_pos (.inr (by rw [hat]; exact h4))])
      have FA := Lib.hid (fail_any s 6 B w hB)
      clear hz hat h4 SC hs _hb hB ht h1 hd he hT
      go_enter Tryd.func29, Tryd.ntmps29
      go_wp2_with fail
      refine (FA.out).mono ?_
      rintro e w3 ⟨rfl, f1, f2⟩
      have F1 := Lib.hid f1
      have F2 := Lib.hid f2
      clear f1 f2
      simp only [failS]
      go_wp2
      go_ret2
      exact ⟨by rw [hA.out]; rfl, by rw [hA.out]; exact F1.out, F2.out⟩
  · have hz' : ((b.size : Int) != 33) = true := by rw [bne_iff_ne]; omega
    have hA : Hid (ackF s b = failS s 6) := Lib.hid (by unfold ackF; rw [if_pos (.inl hz)])
    have FA := Lib.hid (fail_any s 6 B w hB)
    clear hz SC hs _hb hB ht h1 hd he hT
    go_enter Tryd.func29, Tryd.ntmps29
    go_wp2_with fail
    refine (FA.out).mono ?_
    rintro e w3 ⟨rfl, f1, f2⟩
    have F1 := Lib.hid f1
    have F2 := Lib.hid f2
    clear f1 f2
    simp only [failS]
    go_wp2
    go_ret2
    exact ⟨by rw [hA.out]; rfl, by rw [hA.out]; exact F1.out, F2.out⟩

set_option maxRecDepth 100000 in
set_option maxHeartbeats 2000000 in
theorem rtake_reply (s : Sd) (hs : SdOk s) (h1 : s.state = 1) (hd : s.dials = false) (he : s.sent = true) (b : ByteArray) (_hb : b.size ≤ 100000) (B : Nat) (w : World) (hB : Blk w B 83 (sdC s)) (ht : Tabs w) :
    Calls Tryd.prog 29 #[.pointer (some ⟨B, 0, none⟩), .string b] w (Fin 83 B (takeF s b) w) := by
  have HB := Lib.hid hB
  have hT : Hid (takeF s b = replyF s b) := Lib.hid (by unfold takeF moveF; rw [if_neg (by simp [h1])]; simp [hd, he])
  rw [hT.out]
  have SC := sd_cells hB
  have c8 := SC.c8
  have c9 := SC.c9
  have c10 := SC.c10
  rw [hd] at c8
  rw [he] at c9
  rw [h1] at c10
  have c10' : w.cell? ⟨B, 10, none⟩ = some (.int .i64 1) := c10
  obtain ⟨nB0, nB1⟩ := Tabs.ne ht hB
  clear c10
  by_cases hz : b.size = 41
  · have hp0 : 0 < b.size := by omega
    have hat := atB_get b 0 hp0
    have hcl : b[0].toNat < 256 := b[0].toNat_lt
    have hz' : ((b.size : Int) != 41) = false := by rw [bne_eq_false_iff_eq]; omega
    by_cases h4 : b[0].toNat = 3
    · have h4' : ((b[0].toNat : Int) != 3) = false := by rw [bne_eq_false_iff_eq]; omega
      have hv8 : (b.extract 1 9).size = 8 := by rw [ext_size _ _ _ (by omega)]
      have CV := fun W => rvalue_any (b.extract 1 9) (by omega) W
      rw [hv8] at CV
      have htl := valF_lt (b.extract 1 9) 8
      have hA : Hid (replyF s b = if seqB (b.extract 9 b.size) (proofF letD s.other s.self s.cookie s.chal (valF (b.extract 1 9) 8)) = false then failS { s with their := valF (b.extract 1 9) 8 } 350 else ({ s with their := valF (b.extract 1 9) 8, state := 3 }, ackC ++ proofF letL s.self s.other s.cookie (valF (b.extract 1 9) 8) s.chal, 0)) := by
        refine Lib.hid ?_
        unfold replyF
        rw [if_neg (by rw [hat, h4]; simp [hz]), hz]
      have hnine : (9 : Int) ≤ b.size := by omega
      obtain ⟨t, htt⟩ : ∃ t, t = valF (b.extract 1 9) 8 := ⟨_, rfl⟩
      obtain ⟨M, hM⟩ : ∃ M, M = b.extract 9 b.size := ⟨_, rfl⟩
      have hM' : b.extract 9 b.size = M := hM.symm
      rw [← htt] at hA CV htl
      rw [← hM] at hA
      have HV := Lib.hid CV
      have ht8 : t ≤ 18446744073709551615 := by
        have : (256 : Nat) ^ 8 = 18446744073709551616 := by decide
        omega
      have CP := Lib.hid (fun W hW => proofR_D s.other s.self s.cookie s.chal t hs.other.1 (nameF_size _ hs.self.1).2 hs.other.2 hs.self.2 hs.cookie hs.chal ht8 W hW)
      have CQ := Lib.hid (fun W hW => proofR_L s.self s.other s.cookie t s.chal (nameF_size _ hs.self.1).2 hs.other.1 hs.self.2 hs.other.2 hs.cookie ht8 hs.chal W hW)
      have hQz : (proofF letL s.self s.other s.cookie t s.chal).size = 32 := macS_size _ _
      obtain ⟨P, hP⟩ : ∃ P, P = proofF letD s.other s.self s.cookie s.chal t := ⟨_, rfl⟩
      obtain ⟨Q, hQ⟩ : ∃ Q, Q = proofF letL s.self s.other s.cookie t s.chal := ⟨_, rfl⟩
      rw [← hP] at hA CP
      rw [← hQ] at hA CQ hQz
      have hQs : ¬ 9223372036854775807 < 1 + Q.size := by omega
      have O1 : Only [B] w (w.setCell ⟨B, 7, none⟩ (.int .u64 (t : Int))) := Only.setCell _ _ _ (by simp)
      have X1 : Blk (w.setCell ⟨B, 7, none⟩ (.int .u64 (t : Int))) B 83 (sdC { s with their := t }) := hB.set_ 7 (.int .u64 (t : Int))
      have HTO : Hid (∀ W, Only [B] w W → Tabs W) := Lib.hid (fun W h => ht.only h (by simp; omega) (by simp; omega))
      have c7 := SC.c7
      have f7 := hB.frozen 7
      have O1' := Lib.hid O1
      have X1' := Lib.hid X1
      have T1 := Lib.hid (ht.only O1 (by simp; omega) (by simp; omega))
      clear O1 X1
      cases x1 : (M.toList == P.toList) with
      | false =>
        have hE : Hid (replyF s b = failS { s with their := t } 350) := Lib.hid (by rw [hA.out, if_pos (show seqB M P = false from x1)])
        clear hz hat h4 hA hM hP hQ SC hs _hb hB ht h1 hd he hT CV htl htt hv8 nB0 nB1 hQz
        go_enter Tryd.func29, Tryd.ntmps29
        go_wp2_with fail
        refine (HV.out _).mono ?_
        rintro e w2 ⟨rfl, rfl⟩
        go_wp2_with fail
        generalize w.setCell ⟨B, 7, none⟩ (.int .u64 (t : Int)) = W1 at O1' X1' T1 ⊢
        have SCW := sd_cells X1'.out
        have HS0 : Hid (∀ n, (W1.drewN n).cell? ⟨B, 2, none⟩ = some (.string s.other.name) ∧ (W1.drewN n).cell? ⟨B, 3, none⟩ = some (.int .i64 s.other.gen) ∧ (W1.drewN n).cell? ⟨B, 0, none⟩ = some (.string s.self.name) ∧ (W1.drewN n).cell? ⟨B, 1, none⟩ = some (.int .i64 s.self.gen) ∧ (W1.drewN n).cell? ⟨B, 5, none⟩ = some (.string s.cookie) ∧ (W1.drewN n).cell? ⟨B, 6, none⟩ = some (.int .u64 s.chal) ∧ (W1.drewN n).cell? ⟨B, 7, none⟩ = some (.int .u64 t) ∧ St W1 (W1.drewN n)) :=
          Lib.hid (fun n => ⟨SCW.c2, SCW.c3, SCW.c0, SCW.c1, SCW.c5, SCW.c6, SCW.c7, (St.refl T1.out).drewN n⟩)
        clear SCW c7 f7
        go_region_held3 (fun w' => w'.cell? ⟨B, 2, none⟩ = some (.string s.other.name) ∧ w'.cell? ⟨B, 3, none⟩ = some (.int .i64 s.other.gen) ∧ w'.cell? ⟨B, 0, none⟩ = some (.string s.self.name) ∧ w'.cell? ⟨B, 1, none⟩ = some (.int .i64 s.self.gen) ∧ w'.cell? ⟨B, 5, none⟩ = some (.string s.cookie) ∧ w'.cell? ⟨B, 6, none⟩ = some (.int .u64 s.chal) ∧ w'.cell? ⟨B, 7, none⟩ = some (.int .u64 t) ∧ St W1 w')
          (first | exact HS0.out 1 | (obtain ⟨s1, s2, s3, s4, s5, s6, s7, s8⟩ := (‹_ ∧ _ ∧ _ ∧ _ ∧ _ ∧ _ ∧ _ ∧ St _ _›); exact ⟨cell_keep (by assumption) s1, cell_keep (by assumption) s2, cell_keep (by assumption) s3, cell_keep (by assumption) s4, cell_keep (by assumption) s5, cell_keep (by assumption) s6, cell_keep (by assumption) s7, s8.keep (by assumption)⟩))
          ((go_at_call 23; refine (CP.out _ ((‹_ ∧ _ ∧ _ ∧ _ ∧ _ ∧ _ ∧ _ ∧ St _ _›).2.2.2.2.2.2.2).tabs).mono ?_; rintro e w2 ⟨rfl, b2⟩))
        all_goals
          have hSt := (‹_ ∧ _ ∧ _ ∧ _ ∧ _ ∧ _ ∧ _ ∧ St _ _›).2.2.2.2.2.2.2
          have B3 := X1'.out.below hSt.bel X1'.out.lt
          have FA := Lib.hid (fail_any { s with their := t } 350 B _ B3)
          have O3 := Lib.hid (O1'.out.trans (Only.of_below [B] hSt.bel (Nat.le_refl _)))
          clear hSt B3
          go_wp2_with fail
          refine (FA.out).mono ?_
          rintro e w3 ⟨rfl, f1, f2⟩
          have F1 := Lib.hid f1
          have F2 := Lib.hid (O3.out.trans f2)
          clear f1 f2
          simp only [failS]
          go_wp2
          go_ret2
          exact ⟨by rw [hE.out]; rfl, by rw [hE.out]; exact F1.out, F2.out⟩
      | true =>
        have hE : Hid (replyF s b = ({ s with their := t, state := 3 }, ackC ++ Q, 0)) := Lib.hid (by rw [hA.out, if_neg (by rw [show seqB M P = true from x1]; decide)])
        clear hz hat h4 hA hM hP hQ SC hs _hb hB ht h1 hd he hT CV htl htt hv8 nB0 nB1 hQz
        go_enter Tryd.func29, Tryd.ntmps29
        go_wp2_with fail
        refine (HV.out _).mono ?_
        rintro e w2 ⟨rfl, rfl⟩
        go_wp2_with fail
        generalize w.setCell ⟨B, 7, none⟩ (.int .u64 (t : Int)) = W1 at O1' X1' T1 ⊢
        have SCW := sd_cells X1'.out
        have HS0 : Hid (∀ n, (W1.drewN n).cell? ⟨B, 2, none⟩ = some (.string s.other.name) ∧ (W1.drewN n).cell? ⟨B, 3, none⟩ = some (.int .i64 s.other.gen) ∧ (W1.drewN n).cell? ⟨B, 0, none⟩ = some (.string s.self.name) ∧ (W1.drewN n).cell? ⟨B, 1, none⟩ = some (.int .i64 s.self.gen) ∧ (W1.drewN n).cell? ⟨B, 5, none⟩ = some (.string s.cookie) ∧ (W1.drewN n).cell? ⟨B, 6, none⟩ = some (.int .u64 s.chal) ∧ (W1.drewN n).cell? ⟨B, 7, none⟩ = some (.int .u64 t) ∧ St W1 (W1.drewN n)) :=
          Lib.hid (fun n => ⟨SCW.c2, SCW.c3, SCW.c0, SCW.c1, SCW.c5, SCW.c6, SCW.c7, (St.refl T1.out).drewN n⟩)
        clear SCW c7 f7
        go_region_held3 (fun w' => w'.cell? ⟨B, 2, none⟩ = some (.string s.other.name) ∧ w'.cell? ⟨B, 3, none⟩ = some (.int .i64 s.other.gen) ∧ w'.cell? ⟨B, 0, none⟩ = some (.string s.self.name) ∧ w'.cell? ⟨B, 1, none⟩ = some (.int .i64 s.self.gen) ∧ w'.cell? ⟨B, 5, none⟩ = some (.string s.cookie) ∧ w'.cell? ⟨B, 6, none⟩ = some (.int .u64 s.chal) ∧ w'.cell? ⟨B, 7, none⟩ = some (.int .u64 t) ∧ St W1 w')
          (first | exact HS0.out 1 | (obtain ⟨s1, s2, s3, s4, s5, s6, s7, s8⟩ := (‹_ ∧ _ ∧ _ ∧ _ ∧ _ ∧ _ ∧ _ ∧ St _ _›); exact ⟨cell_keep (by assumption) s1, cell_keep (by assumption) s2, cell_keep (by assumption) s3, cell_keep (by assumption) s4, cell_keep (by assumption) s5, cell_keep (by assumption) s6, cell_keep (by assumption) s7, s8.keep (by assumption)⟩))
          ((go_at_call 23; refine (CP.out _ ((‹_ ∧ _ ∧ _ ∧ _ ∧ _ ∧ _ ∧ _ ∧ St _ _›).2.2.2.2.2.2.2).tabs).mono ?_; rintro e w4 ⟨rfl, b2⟩))
        all_goals
          have hSt := (‹_ ∧ _ ∧ _ ∧ _ ∧ _ ∧ _ ∧ _ ∧ St _ _›).2.2.2.2.2.2.2
          have B4 := Lib.hid (X1'.out.below hSt.bel X1'.out.lt)
          have O4 := Lib.hid (O1'.out.trans (Only.of_below [B] hSt.bel (Nat.le_refl _)))
          have d10 := (sd_cells B4.out).c10
          have f10 := B4.out.frozen 10
          clear hSt HS0
          go_wp2_with fail
          have O5 : Only [B] w (w4.setCell ⟨B, 10, none⟩ (.int .i64 3)) := O4.out.trans (Only.setCell _ _ _ (by simp))
          have X5 : Blk (w4.setCell ⟨B, 10, none⟩ (.int .i64 3)) B 83 (sdC { s with their := t, state := 3 }) := B4.out.set_ 10 (.int .i64 3)
          have T5 := HTO.out _ O5
          generalize w4.setCell ⟨B, 10, none⟩ (.int .i64 3) = W5 at O5 X5 T5 ⊢
          have O5' := Lib.hid O5
          have X5' := Lib.hid X5
          have SCW5 := sd_cells X5
          have HS5 : Hid (∀ n, (W5.drewN n).cell? ⟨B, 2, none⟩ = some (.string s.other.name) ∧ (W5.drewN n).cell? ⟨B, 3, none⟩ = some (.int .i64 s.other.gen) ∧ (W5.drewN n).cell? ⟨B, 0, none⟩ = some (.string s.self.name) ∧ (W5.drewN n).cell? ⟨B, 1, none⟩ = some (.int .i64 s.self.gen) ∧ (W5.drewN n).cell? ⟨B, 5, none⟩ = some (.string s.cookie) ∧ (W5.drewN n).cell? ⟨B, 6, none⟩ = some (.int .u64 s.chal) ∧ (W5.drewN n).cell? ⟨B, 7, none⟩ = some (.int .u64 t) ∧ St W5 (W5.drewN n)) :=
            Lib.hid (fun n => ⟨SCW5.c2, SCW5.c3, SCW5.c0, SCW5.c1, SCW5.c5, SCW5.c6, SCW5.c7, (St.refl T5).drewN n⟩)
          clear O5 X5 SCW5 T5 d10 f10
          go_region_held3 (fun w' => w'.cell? ⟨B, 2, none⟩ = some (.string s.other.name) ∧ w'.cell? ⟨B, 3, none⟩ = some (.int .i64 s.other.gen) ∧ w'.cell? ⟨B, 0, none⟩ = some (.string s.self.name) ∧ w'.cell? ⟨B, 1, none⟩ = some (.int .i64 s.self.gen) ∧ w'.cell? ⟨B, 5, none⟩ = some (.string s.cookie) ∧ w'.cell? ⟨B, 6, none⟩ = some (.int .u64 s.chal) ∧ w'.cell? ⟨B, 7, none⟩ = some (.int .u64 t) ∧ St W5 w')
            (first | exact HS5.out 1 | (obtain ⟨s1, s2, s3, s4, s5, s6, s7, s8⟩ := (‹_ ∧ _ ∧ _ ∧ _ ∧ _ ∧ _ ∧ _ ∧ St _ _›); exact ⟨cell_keep (by assumption) s1, cell_keep (by assumption) s2, cell_keep (by assumption) s3, cell_keep (by assumption) s4, cell_keep (by assumption) s5, cell_keep (by assumption) s6, cell_keep (by assumption) s7, s8.keep (by assumption)⟩))
            ((go_at_call 23; refine (CQ.out _ ((‹_ ∧ _ ∧ _ ∧ _ ∧ _ ∧ _ ∧ _ ∧ St _ _›).2.2.2.2.2.2.2).tabs).mono ?_; rintro e w6 ⟨rfl, b6⟩))
          all_goals
            have hSt := (‹_ ∧ _ ∧ _ ∧ _ ∧ _ ∧ _ ∧ _ ∧ St _ _›).2.2.2.2.2.2.2
            go_wp2
            go_ret2
            exact ⟨by rw [hE.out]; rfl, by rw [hE.out]; exact X5'.out.below hSt.bel X5'.out.lt, O5'.out.trans (Only.of_below [B] hSt.bel (Nat.le_refl _))⟩
    · have h4' : ((b[0].toNat : Int) != 3) = true := by rw [bne_iff_ne]; omega
      have hA : Hid (replyF s b = failS s 6) := Lib.hid (by unfold replyF; rw [if_pos (.inr (by rw [hat]; exact h4))])
      have FA := Lib.hid (fail_any s 6 B w hB)
      clear hz hat h4 SC hs _hb hB ht h1 hd he hT
      go_enter Tryd.func29, Tryd.ntmps29
      go_wp2_with fail
      refine (FA.out).mono ?_
      rintro e w3 ⟨rfl, f1, f2⟩
      have F1 := Lib.hid f1
      have F2 := Lib.hid f2
      clear f1 f2
      simp only [failS]
      go_wp2
      go_ret2
      exact ⟨by rw [hA.out]; rfl, by rw [hA.out]; exact F1.out, F2.out⟩
  · have hz' : ((b.size : Int) != 41) = true := by rw [bne_iff_ne]; omega
    have hA : Hid (replyF s b = failS s 6) := Lib.hid (by unfold replyF; rw [if_pos (.inl hz)])
    have FA := Lib.hid (fail_any s 6 B w hB)
    clear hz SC hs _hb hB ht h1 hd he hT
    go_enter Tryd.func29, Tryd.ntmps29
    go_wp2_with fail
    refine (FA.out).mono ?_
    rintro e w3 ⟨rfl, f1, f2⟩
    have F1 := Lib.hid f1
    have F2 := Lib.hid f2
    clear f1 f2
    simp only [failS]
    go_wp2
    go_ret2
    exact ⟨by rw [hA.out]; rfl, by rw [hA.out]; exact F1.out, F2.out⟩
end Go.Proofs.YtnkkbkceapcahaaDoor
