/- Answer of both sides; State, Peer. -/
import Derived.Test.YtnkkbkceapcahaaDoorOffer
namespace Go.Proofs.YtnkkbkceapcahaaDoor
open Go.RowKit Go.Rt Go.Rw

theorem answerF_no (s : Sd) (how : Int) (h : s.state ≠ 2 ∨ how < 1 ∨ 3 < how) : answerF s how = (s, ⟨#[]⟩, 2) := by unfold answerF; rw [if_pos h]
theorem answerF_refuse (s : Sd) (how : Int) (h : ¬ (s.state ≠ 2 ∨ how < 1 ∨ 3 < how)) (h1 : how ≠ 1) : answerF s how = ({ s with state := 4 }, statusC ++ numF how.toNat 1, 0) := by unfold answerF; rw [if_neg h, if_pos h1]
theorem answerF_accept (s : Sd) (h : ¬ (s.state ≠ 2)) : answerF s 1 = ({ s with state := 1, sent := true }, offerC ++ encF s.self ++ numF s.chal 8, 0) := by
  unfold answerF
  rw [if_neg (by rintro (q | q | q); exact h q; omega; omega)]
  rfl
set_option maxRecDepth 100000 in
set_option maxHeartbeats 1000000 in
theorem answer_any (s : Sd) (hs : SdOk s) (h0 : s.state ≠ 0) (how : Int) (B : Nat) (w : World) (hB : Blk w B 46 (sdC s)) :
    Calls Tryd.prog 15 #[.pointer (some ⟨B, 0, none⟩), .int .i64 how] w (Fin 46 B (answerF s how) w) := by
  have SC := sd_cells hB
  have c10 := SC.c10
  have hs0 : ((s.state : Int) == 0) = false := by rw [beq_eq_false_iff_ne]; omega
  have HB := Lib.hid hB
  have LTB := Lib.hid hB.lt
  by_cases h2 : s.state = 2
  · have hs2 : ((s.state : Int) != 2) = false := by rw [bne_eq_false_iff_eq]; omega
    by_cases hl : how < 1
    · have hA := Lib.hid (answerF_no s how (.inr (.inl hl)))
      clear hB h0 SC hs h2
      go_enter Tryd.func15, Tryd.ntmps15
      go_wp2
      go_ret2
      rw [hA.out]
      exact ⟨rfl, HB.out, Only.refl _ _⟩
    · by_cases hu : 3 < how
      · have hA := Lib.hid (answerF_no s how (.inr (.inr hu)))
        clear hB h0 SC hs h2
        go_enter Tryd.func15, Tryd.ntmps15
        go_wp2
        go_ret2
        rw [hA.out]
        exact ⟨rfl, HB.out, Only.refl _ _⟩
      · by_cases h1 : how = 1
        · subst h1
          have hA := Lib.hid (answerF_accept s (by simp [h2]))
          have C1 : Hid (∀ W, Calls Tryd.prog 34 #[.agg #[.string s.self.name, .int .i64 s.self.gen]] W fun e w' => e = .returned (.string (encF s.self)) ∧ Below W.heap.size W w') := Lib.hid (fun W => enc_any s.self.name s.self.gen (by have := (nameF_size _ hs.self.1).2; omega) hs.self.2 W)
          have C2 : Hid (∀ W, Calls Tryd.prog 37 #[.int .u64 (s.chal : Int), .int .i64 8] W fun e w' => e = .returned (.string (numF s.chal 8)) ∧ Below W.heap.size W w') := Lib.hid (fun W => bytes_any s.chal 8 (by omega) W)
          have z1 := encF_size s.self
          have z1' := (nameF_size _ hs.self.1).2
          have z2 := numF_size s.chal 8
          obtain ⟨q1, hq1⟩ : ∃ q, q = encF s.self := ⟨_, rfl⟩
          obtain ⟨q2, hq2⟩ : ∃ q, q = numF s.chal 8 := ⟨_, rfl⟩
          rw [← hq1] at hA C1 z1
          rw [← hq2] at hA C2 z2
          have s1 : ¬ 9223372036854775807 < 2 + q1.size := by omega
          have s2 : ¬ 9223372036854775807 < 2 + q1.size + q2.size := by omega
          have X1 : Blk ((w.setCell ⟨B, 10, none⟩ (.int .i64 1)).setCell ⟨B, 9, none⟩ (.bool true)) B 46 (sdC { s with state := 1, sent := true }) := (hB.set_ 10 (.int .i64 1)).set_ 9 (.bool true)
          have O1 : Only [B] w ((w.setCell ⟨B, 10, none⟩ (.int .i64 1)).setCell ⟨B, 9, none⟩ (.bool true)) := (Only.setCell _ _ _ (by simp)).trans (Only.setCell _ _ _ (by simp))
          have c9 := SC.c9
          have f9 := hB.frozen 9
          have f10 := hB.frozen 10
          have X1' := Lib.hid X1
          have O1' := Lib.hid O1
          clear hq1 hq2 z1 z1' z2 hB h0 SC hs h2 X1 O1 hl hu
          go_enter Tryd.func15, Tryd.ntmps15
          go_wp2_with fail
          generalize (w.setCell ⟨B, 10, none⟩ (.int .i64 1)).setCell ⟨B, 9, none⟩ (.bool true) = W1 at X1' O1' ⊢
          have SC1 := sd_cells X1'.out
          have HS0 : Hid (∀ n, (W1.drewN n).cell? ⟨B, 0, none⟩ = some (.string s.self.name) ∧ (W1.drewN n).cell? ⟨B, 1, none⟩ = some (.int .i64 s.self.gen) ∧ (W1.drewN n).cell? ⟨B, 6, none⟩ = some (.int .u64 s.chal) ∧ Below W1.heap.size W1 (W1.drewN n)) := Lib.hid (fun n => ⟨SC1.c0, SC1.c1, SC1.c6, below_drewN (Below.refl _ _) n⟩)
          clear SC1 c9 f9 f10 c10
          go_region_held3 (fun w' => w'.cell? ⟨B, 0, none⟩ = some (.string s.self.name) ∧ w'.cell? ⟨B, 1, none⟩ = some (.int .i64 s.self.gen) ∧ w'.cell? ⟨B, 6, none⟩ = some (.int .u64 s.chal) ∧ Below W1.heap.size W1 w')
            (first | exact HS0.out 1 | (obtain ⟨s1, s2, s3, s4⟩ := (‹_ ∧ _ ∧ _ ∧ Below W1.heap.size W1 _›); exact ⟨cell_keep (by assumption) s1, cell_keep (by assumption) s2, cell_keep (by assumption) s3, s4.trans (Below.mono (by assumption) s4.size)⟩))
            (first
              | (go_at_call 34; refine (C1.out _).mono ?_; rintro e w2 ⟨rfl, b2⟩)
              | (go_at_call 37; refine (C2.out _).mono ?_; rintro e w3 ⟨rfl, b3⟩))
          all_goals
            have hbe := (‹_ ∧ _ ∧ _ ∧ Below W1.heap.size W1 _›).2.2.2
            go_wp2
            go_ret2
            rw [hA.out]
            exact ⟨rfl, X1'.out.below hbe X1'.out.lt, O1'.out.trans (Only.of_below [B] hbe (Nat.le_refl _))⟩
        · have hA := Lib.hid (answerF_refuse s how (by rintro (q | q | q); exact q h2; exact hl q; exact hu q) h1)
          have hn1 : (how != 1) = true := by rw [bne_iff_ne]; exact h1
          have hw : IntKind.u64.wrap how = (how.toNat : Int) := by rw [IntKind.wrap_u64]; omega
          have C2 : Hid (∀ W, Calls Tryd.prog 37 #[.int .u64 (how.toNat : Int), .int .i64 1] W fun e w' => e = .returned (.string (numF how.toNat 1)) ∧ Below W.heap.size W w') := Lib.hid (fun W => bytes_any how.toNat 1 (by omega) W)
          have z2 := numF_size how.toNat 1
          obtain ⟨q2, hq2⟩ : ∃ q, q = numF how.toNat 1 := ⟨_, rfl⟩
          obtain ⟨k, hk⟩ : ∃ k, k = how.toNat := ⟨_, rfl⟩
          rw [← hq2] at hA C2 z2
          rw [← hk] at hw C2
          have s2 : ¬ 9223372036854775807 < 1 + q2.size := by omega
          have X1 := Lib.hid (hB.set_ 10 (.int .i64 4))
          have O1 : Hid (Only [B] w (w.setCell ⟨B, 10, none⟩ (.int .i64 4))) := Lib.hid (Only.setCell _ _ _ (by simp))
          have f10 := hB.frozen 10
          clear hq2 hk z2 hB h0 SC hs h2 h1
          go_enter Tryd.func15, Tryd.ntmps15
          go_wp2_with fail
          refine (C2.out _).mono ?_
          rintro e w2 ⟨rfl, b2⟩
          have X2 := Lib.hid (X1.out.below b2 X1.out.lt)
          have O2 := Lib.hid (O1.out.trans (Only.of_below [B] b2 (Nat.le_refl _)))
          clear b2
          go_wp2
          go_ret2
          rw [hA.out]
          exact ⟨rfl, X2.out, O2.out⟩
  · have hA := Lib.hid (answerF_no s how (.inl h2))
    have hs2 : ((s.state : Int) != 2) = true := by rw [bne_iff_ne]; omega
    clear hB h0 SC hs h2
    go_enter Tryd.func15, Tryd.ntmps15
    go_wp2
    go_ret2
    rw [hA.out]
    exact ⟨rfl, HB.out, Only.refl _ _⟩

set_option maxRecDepth 100000 in
set_option maxHeartbeats 1000000 in
theorem ranswer_any (s : Sd) (hs : SdOk s) (how : Int) (B : Nat) (w : World) (hB : Blk w B 83 (sdC s)) :
    Calls Tryd.prog 28 #[.pointer (some ⟨B, 0, none⟩), .int .i64 how] w (Fin 83 B (answerF s how) w) := by
  have SC := sd_cells hB
  have c10 := SC.c10
  have HB := Lib.hid hB
  have LTB := Lib.hid hB.lt
  by_cases h2 : s.state = 2
  · have hs2 : ((s.state : Int) != 2) = false := by rw [bne_eq_false_iff_eq]; omega
    by_cases hl : how < 1
    · have hA := Lib.hid (answerF_no s how (.inr (.inl hl)))
      clear hB SC hs h2
      go_enter Tryd.func28, Tryd.ntmps28
      go_wp2
      go_ret2
      rw [hA.out]
      exact ⟨rfl, HB.out, Only.refl _ _⟩
    · by_cases hu : 3 < how
      · have hA := Lib.hid (answerF_no s how (.inr (.inr hu)))
        clear hB SC hs h2
        go_enter Tryd.func28, Tryd.ntmps28
        go_wp2
        go_ret2
        rw [hA.out]
        exact ⟨rfl, HB.out, Only.refl _ _⟩
      · by_cases h1 : how = 1
        · subst h1
          have hA := Lib.hid (answerF_accept s (by simp [h2]))
          have C1 : Hid (∀ W, Calls Tryd.prog 39 #[.agg #[.string s.self.name, .int .i64 s.self.gen]] W fun e w' => e = .returned (.string (encF s.self)) ∧ Below W.heap.size W w') := Lib.hid (fun W => peer_any s.self.name s.self.gen (by have := (nameF_size _ hs.self.1).2; omega) hs.self.2 W)
          have C2 : Hid (∀ W, Calls Tryd.prog 40 #[.int .u64 (s.chal : Int), .int .i64 8] W fun e w' => e = .returned (.string (numF s.chal 8)) ∧ Below W.heap.size W w') := Lib.hid (fun W => number_any 8 s.chal W (by omega) hs.chal)
          have z1 := encF_size s.self
          have z1' := (nameF_size _ hs.self.1).2
          have z2 := numF_size s.chal 8
          obtain ⟨q1, hq1⟩ : ∃ q, q = encF s.self := ⟨_, rfl⟩
          obtain ⟨q2, hq2⟩ : ∃ q, q = numF s.chal 8 := ⟨_, rfl⟩
          rw [← hq1] at hA C1 z1
          rw [← hq2] at hA C2 z2
          have s1 : ¬ 9223372036854775807 < 2 + q1.size := by omega
          have s2 : ¬ 9223372036854775807 < 2 + q1.size + q2.size := by omega
          have X1 : Blk ((w.setCell ⟨B, 10, none⟩ (.int .i64 1)).setCell ⟨B, 9, none⟩ (.bool true)) B 83 (sdC { s with state := 1, sent := true }) := (hB.set_ 10 (.int .i64 1)).set_ 9 (.bool true)
          have O1 : Only [B] w ((w.setCell ⟨B, 10, none⟩ (.int .i64 1)).setCell ⟨B, 9, none⟩ (.bool true)) := (Only.setCell _ _ _ (by simp)).trans (Only.setCell _ _ _ (by simp))
          have c9 := SC.c9
          have f9 := hB.frozen 9
          have f10 := hB.frozen 10
          have X1' := Lib.hid X1
          have O1' := Lib.hid O1
          clear hq1 hq2 z1 z1' z2 hB SC hs h2 X1 O1 hl hu
          go_enter Tryd.func28, Tryd.ntmps28
          go_wp2_with fail
          generalize (w.setCell ⟨B, 10, none⟩ (.int .i64 1)).setCell ⟨B, 9, none⟩ (.bool true) = W1 at X1' O1' ⊢
          have SC1 := sd_cells X1'.out
          have HS0 : Hid (∀ n, (W1.drewN n).cell? ⟨B, 0, none⟩ = some (.string s.self.name) ∧ (W1.drewN n).cell? ⟨B, 1, none⟩ = some (.int .i64 s.self.gen) ∧ (W1.drewN n).cell? ⟨B, 6, none⟩ = some (.int .u64 s.chal) ∧ Below W1.heap.size W1 (W1.drewN n)) := Lib.hid (fun n => ⟨SC1.c0, SC1.c1, SC1.c6, below_drewN (Below.refl _ _) n⟩)
          clear SC1 c9 f9 f10 c10
          go_region_held3 (fun w' => w'.cell? ⟨B, 0, none⟩ = some (.string s.self.name) ∧ w'.cell? ⟨B, 1, none⟩ = some (.int .i64 s.self.gen) ∧ w'.cell? ⟨B, 6, none⟩ = some (.int .u64 s.chal) ∧ Below W1.heap.size W1 w')
            (first | exact HS0.out 1 | (obtain ⟨s1, s2, s3, s4⟩ := (‹_ ∧ _ ∧ _ ∧ Below W1.heap.size W1 _›); exact ⟨cell_keep (by assumption) s1, cell_keep (by assumption) s2, cell_keep (by assumption) s3, s4.trans (Below.mono (by assumption) s4.size)⟩))
            (first
              | (go_at_call 39; refine (C1.out _).mono ?_; rintro e w2 ⟨rfl, b2⟩)
              | (go_at_call 40; refine (C2.out _).mono ?_; rintro e w3 ⟨rfl, b3⟩))
          all_goals
            have hbe := (‹_ ∧ _ ∧ _ ∧ Below W1.heap.size W1 _›).2.2.2
            go_wp2
            go_ret2
            rw [hA.out]
            exact ⟨rfl, X1'.out.below hbe X1'.out.lt, O1'.out.trans (Only.of_below [B] hbe (Nat.le_refl _))⟩
        · have hA := Lib.hid (answerF_refuse s how (by rintro (q | q | q); exact q h2; exact hl q; exact hu q) h1)
          have hn1 : (how != 1) = true := by rw [bne_iff_ne]; exact h1
          have hw : IntKind.u64.wrap how = (how.toNat : Int) := by rw [IntKind.wrap_u64]; omega
          have C2 : Hid (∀ W, Calls Tryd.prog 40 #[.int .u64 (how.toNat : Int), .int .i64 1] W fun e w' => e = .returned (.string (numF how.toNat 1)) ∧ Below W.heap.size W w') := Lib.hid (fun W => number_any 1 how.toNat W (by omega) (by omega))
          have z2 := numF_size how.toNat 1
          obtain ⟨q2, hq2⟩ : ∃ q, q = numF how.toNat 1 := ⟨_, rfl⟩
          obtain ⟨k, hk⟩ : ∃ k, k = how.toNat := ⟨_, rfl⟩
          rw [← hq2] at hA C2 z2
          rw [← hk] at hw C2
          have s2 : ¬ 9223372036854775807 < 1 + q2.size := by omega
          have X1 := Lib.hid (hB.set_ 10 (.int .i64 4))
          have O1 : Hid (Only [B] w (w.setCell ⟨B, 10, none⟩ (.int .i64 4))) := Lib.hid (Only.setCell _ _ _ (by simp))
          have f10 := hB.frozen 10
          clear hq2 hk z2 hB SC hs h2 h1
          go_enter Tryd.func28, Tryd.ntmps28
          go_wp2_with fail
          refine (C2.out _).mono ?_
          rintro e w2 ⟨rfl, b2⟩
          have X2 := Lib.hid (X1.out.below b2 X1.out.lt)
          have O2 := Lib.hid (O1.out.trans (Only.of_below [B] b2 (Nat.le_refl _)))
          clear b2
          go_wp2
          go_ret2
          rw [hA.out]
          exact ⟨rfl, X2.out, O2.out⟩
  · have hA := Lib.hid (answerF_no s how (.inl h2))
    have hs2 : ((s.state : Int) != 2) = true := by rw [bne_iff_ne]; omega
    clear hB SC hs h2
    go_enter Tryd.func28, Tryd.ntmps28
    go_wp2
    go_ret2
    rw [hA.out]
    exact ⟨rfl, HB.out, Only.refl _ _⟩

set_option maxHeartbeats 1000000 in
theorem answer_nil (how : Int) (w : World) :
    Calls Tryd.prog 15 #[.pointer none, .int .i64 how] w fun e w' => e = .returned (.tuple #[.string ⟨#[]⟩, .int .i64 1]) ∧ w = w' := by
  go_enter Tryd.func15, Tryd.ntmps15
  go_wp2
  go_ret2
  exact ⟨rfl, rfl⟩
set_option maxHeartbeats 1000000 in
theorem answer_zero (s : Sd) (h : s.state = 0) (how : Int) (B : Nat) (w : World) (hB : Blk w B 46 (sdC s)) :
    Calls Tryd.prog 15 #[.pointer (some ⟨B, 0, none⟩), .int .i64 how] w fun e w' => e = .returned (.tuple #[.string ⟨#[]⟩, .int .i64 1]) ∧ w = w' := by
  have c10 := (sd_cells hB).c10
  rw [h] at c10
  have c10' : w.cell? ⟨B, 10, none⟩ = some (.int .i64 0) := c10
  clear c10 hB
  go_enter Tryd.func15, Tryd.ntmps15
  go_wp2
  go_ret2
  exact ⟨rfl, rfl⟩
set_option maxHeartbeats 1000000 in
theorem state_any (s : Sd) (B : Nat) (w : World) (hB : Blk w B 46 (sdC s)) :
    Calls Tryd.prog 16 #[.pointer (some ⟨B, 0, none⟩)] w fun e w' => e = .returned (.int .i64 s.state) ∧ w = w' := by
  have c10 := (sd_cells hB).c10
  clear hB
  go_enter Tryd.func16, Tryd.ntmps16
  go_wp2
  go_ret
  exact ⟨rfl, rfl⟩
set_option maxHeartbeats 1000000 in
theorem state_nil (w : World) :
    Calls Tryd.prog 16 #[.pointer none] w fun e w' => e = .returned (.int .i64 0) ∧ w = w' := by
  go_enter Tryd.func16, Tryd.ntmps16
  go_wp2
  go_ret
  exact ⟨rfl, rfl⟩
set_option maxHeartbeats 1000000 in
theorem peerP_any (s : Sd) (B : Nat) (w : World) (hB : Blk w B 46 (sdC s)) :
    Calls Tryd.prog 17 #[.pointer (some ⟨B, 0, none⟩)] w fun e w' => e = .returned (.agg #[.string s.other.name, .int .i64 s.other.gen]) ∧ Below w.heap.size w w' := by
  have SC := sd_cells hB
  have c2 := SC.c2
  have c3 := SC.c3
  have lt := hB.lt
  have ne : ¬ B = w.heap.size := by omega
  have ne2 : ¬ w.heap.size = B := by omega
  clear SC hB
  go_enter Tryd.func17, Tryd.ntmps17
  go_wp2
  exact bodyPost_ret (v := .agg #[.string s.other.name, .int .i64 s.other.gen]) (by simp [results, Tryd.results17, go_sem]) rfl ⟨rfl, (Below.refl _ _).alloc (Nat.le_refl _) _⟩
end Go.Proofs.YtnkkbkceapcahaaDoor
