/- offered of the program. -/
import Derived.Test.YtnkkbkceapcahaaDoorGreet
namespace Go.Proofs.YtnkkbkceapcahaaDoor
open Go.RowKit Go.Rt Go.Rw

theorem busy_eq : ByteArray.mk #[2] ++ numF 2 1 = busyC := ByteArray.ext (by simp [ByteArray.data_append, numF, numL, busyC])
theorem stale_eq : ByteArray.mk #[2] ++ numF 3 1 = staleC := ByteArray.ext (by simp [ByteArray.data_append, numF, numL, staleC])
theorem pre2_no (b : ByteArray) (c : ByteArray) (hc : c.size = 2) (h : ¬ preF b c = true) : b.size < 2 ∨ seqB (b.extract 0 2) c = false := by
  unfold preF at h
  rw [hc, Bool.and_eq_true, decide_eq_true_eq] at h
  by_cases hz : b.size < 2
  · exact .inl hz
  · refine .inr ?_
    cases hh : seqB (b.extract 0 2) c with
    | false => rfl
    | true => exact absurd ⟨by omega, hh⟩ h
theorem pre2_yes (b : ByteArray) (c : ByteArray) (hc : c.size = 2) (h : preF b c = true) : ¬ (b.size < 2 ∨ seqB (b.extract 0 2) c = false) := by
  unfold preF at h
  rw [hc, Bool.and_eq_true, decide_eq_true_eq] at h
  rintro (q | q)
  · omega
  · have : seqB (b.extract 0 2) c = true := h.2
    rw [this] at q; cases q
/-- The cases of offered, beside the two refusals. -/
theorem offerF_refused (s : Sd) (b : ByteArray) (h : seqB b busyC = true ∨ seqB b staleC = true) : offerF s b = failS s 351 := by unfold offerF; rw [if_pos h]
theorem offerF_form (s : Sd) (b : ByteArray) (h : ¬ (seqB b busyC = true ∨ seqB b staleC = true)) (h2 : b.size < 2 ∨ seqB (b.extract 0 2) offerC = false) : offerF s b = failS s 6 := by unfold offerF; rw [if_neg h, if_pos h2]
theorem offerF_none (s : Sd) (b : ByteArray) (h : ¬ (seqB b busyC = true ∨ seqB b staleC = true)) (h2 : ¬ (b.size < 2 ∨ seqB (b.extract 0 2) offerC = false)) (h3 : readPF (b.extract 2 b.size) = none) : offerF s b = failS s 6 := by
  unfold offerF; rw [if_neg h, if_neg h2, h3]
theorem offerF_some (s : Sd) (b r : ByteArray) (p : Pr) (h : ¬ (seqB b busyC = true ∨ seqB b staleC = true)) (h2 : ¬ (b.size < 2 ∨ seqB (b.extract 0 2) offerC = false)) (h3 : readPF (b.extract 2 b.size) = some (p, r)) :
    offerF s b = if r.size ≠ 8 then failS s 6 else if seqB p.name s.want = false then failS s 351 else ({ s with other := p, their := valF r 8, sent := true }, replyC ++ numF s.chal 8 ++ proofF letD s.self p s.cookie (valF r 8) s.chal, 0) := by
  unfold offerF; rw [if_neg h, if_neg h2, h3]
theorem readPF_valid {b r : ByteArray} {p : Pr} (h : readPF b = some (p, r)) : nameF p.name = true ∧ p.gen ≤ 2147483647 := by
  unfold readPF at h
  split at h
  · cases h
  · simp only at h
    split at h
    · rename_i hv
      simp only [Option.some.injEq, Prod.mk.injEq] at h
      rw [← h.1]
      unfold validF genB at hv
      simp only [Bool.and_eq_true, decide_eq_true_eq] at hv
      exact ⟨hv.1, hv.2.2⟩
    · cases h

set_option maxRecDepth 100000 in
set_option maxHeartbeats 2000000 in
theorem offer_any (s : Sd) (hs : SdOk s) (b : ByteArray) (hb : b.size ≤ 100000) (B : Nat) (w : World) (hB : Blk w B 46 (sdC s)) (ht : Tabs w) :
    Calls Tryd.prog 49 #[.pointer (some ⟨B, 0, none⟩), .string b] w (Mid 46 B (offerF s b) w) := by
  have HB := Lib.hid hB
  have LTB := Lib.hid hB.lt
  have HT := Lib.hid ht
  have HOK := Lib.hid hs
  obtain ⟨nB0, nB1⟩ := Tabs.ne ht hB
  have HTO : Hid (∀ W, Only [B] w W → Tabs W) := Lib.hid (fun W h => ht.only h (by simp; omega) (by simp; omega))
  have z2 := numF_size 2 1
  have z3 := numF_size 3 1
  have HE2 := Lib.hid busy_eq
  have HE3 := Lib.hid stale_eq
  have C1 : Hid (∀ W, Calls Tryd.prog 37 #[.int .u64 2, .int .i64 1] W fun e w' => e = .returned (.string (numF 2 1)) ∧ Below W.heap.size W w') := Lib.hid (fun W => bytes_any 2 1 (by omega) W)
  have C2 : Hid (∀ W, Calls Tryd.prog 37 #[.int .u64 3, .int .i64 1] W fun e w' => e = .returned (.string (numF 3 1)) ∧ Below W.heap.size W w') := Lib.hid (fun W => bytes_any 3 1 (by omega) W)
  obtain ⟨q2, hq2⟩ : ∃ q, q = numF 2 1 := ⟨_, rfl⟩
  obtain ⟨q3, hq3⟩ : ∃ q, q = numF 3 1 := ⟨_, rfl⟩
  rw [← hq2] at z2 C1 HE2
  rw [← hq3] at z3 C2 HE3
  have z2' : q2.size ≤ 1 := by omega
  have z3' : q3.size ≤ 1 := by omega
  have sz2 : ¬ 9223372036854775807 < 1 + q2.size := by omega
  have sz3 : ¬ 9223372036854775807 < 1 + q3.size := by omega
  clear z2 z3 hq2 hq3 hs ht hB nB0 nB1
  cases x1 : (b.toList == (ByteArray.mk #[2] ++ q2).toList) with
  | true =>
    have hA : Hid (offerF s b = failS s 351) := Lib.hid (offerF_refused s b (.inl (by unfold seqB; rw [← HE2.out]; exact x1)))
    go_enter Tryd.func49, Tryd.ntmps49
    go_wp2_with fail
    refine (C1.out _).mono ?_
    rintro e w1 ⟨rfl, b1⟩
    have B1 := Lib.hid b1
    clear b1
    go_wp2
    go_ret2
    exact ⟨s, ⟨#[]⟩, 351, rfl, HB.out.below B1.out LTB.out, Only.of_below [B] B1.out (Nat.le_refl _), by rw [hA.out]; rfl⟩
  | false =>
    cases x2 : (b.toList == (ByteArray.mk #[2] ++ q3).toList) with
    | true =>
      have hA : Hid (offerF s b = failS s 351) := Lib.hid (offerF_refused s b (.inr (by unfold seqB; rw [← HE3.out]; exact x2)))
      go_enter Tryd.func49, Tryd.ntmps49
      go_wp2_with fail
      refine (C1.out _).mono ?_
      rintro e w1 ⟨rfl, b1⟩
      have B1 := Lib.hid b1
      clear b1
      go_wp2_with fail
      refine (C2.out _).mono ?_
      rintro e w2 ⟨rfl, b2⟩
      have B2 := Lib.hid (B1.out.trans (b2.mono B1.out.size))
      clear b2
      go_wp2
      go_ret2
      exact ⟨s, ⟨#[]⟩, 351, rfl, HB.out.below B2.out LTB.out, Only.of_below [B] B2.out (Nat.le_refl _), by rw [hA.out]; rfl⟩
    | false =>
      have hNR : Hid (¬ (seqB b busyC = true ∨ seqB b staleC = true)) := by
        refine Lib.hid ?_
        rintro (h | h)
        · rw [← HE2.out] at h
          unfold seqB at h
          rw [x1] at h; cases h
        · rw [← HE3.out] at h
          unfold seqB at h
          rw [x2] at h; cases h
      by_cases hp : preF b ⟨#[2, 1]⟩ = true
      · have hP2 := Lib.hid (pre2_yes b ⟨#[2, 1]⟩ rfl hp)
        have CC : Hid (∀ W, Calls Tryd.prog 56 #[.string b, .string ⟨#[2, 1]⟩] W fun e w' => e = .returned (.tuple #[.string (b.extract 2 b.size), .bool true]) ∧ W = w') := Lib.hid (fun W => cutq_yes b ⟨#[2, 1]⟩ hp W)
        have hRz : (b.extract 2 b.size).size = b.size - 2 := ext_size _ _ _ (Nat.le_refl _)
        have CP := Lib.hid (fun W => cutP_any (b.extract 2 b.size) (by omega) W)
        have HN := Lib.hid (fun h => offerF_none s b hNR.out hP2.out h)
        have HG := Lib.hid (fun r p h => offerF_some s b r p hNR.out hP2.out h)
        obtain ⟨R, hR⟩ : ∃ R, R = b.extract 2 b.size := ⟨_, rfl⟩
        rw [← hR] at hRz CC CP HN HG
        have hRle : R.size ≤ 100000 := by omega
        clear hp hR hRz hb hNR hP2 HE2 HE3
        go_enter Tryd.func49, Tryd.ntmps49
        go_wp2_with fail
        refine (C1.out _).mono ?_
        rintro e w1 ⟨rfl, b1⟩
        have B1 := Lib.hid b1
        clear b1
        go_wp2_with fail
        refine (C2.out _).mono ?_
        rintro e w2 ⟨rfl, b2⟩
        have B2 := Lib.hid (B1.out.trans (b2.mono B1.out.size))
        clear b2
        go_wp2_with fail
        refine (CC.out _).mono ?_
        rintro e w2' ⟨rfl, rfl⟩
        go_wp2_with fail
        refine (CP.out _).mono ?_
        rintro e w3 ⟨⟨nm, g, r, ok, rfl, hrd⟩, b3⟩
        have HRD := Lib.hid hrd
        have B3 := Lib.hid (B2.out.trans (b3.mono B2.out.size))
        have B4 := Lib.hid (B3.out.alloc B3.out.size (.cells #[.string nm, .int .i64 (g : Int)] 23))
        clear hrd b3
        cases ok with
        | false =>
          have hA := Lib.hid (HN.out HRD.out)
          go_wp2
          go_ret2
          exact ⟨s, ⟨#[]⟩, 6, rfl, HB.out.below B4.out LTB.out, Only.of_below [B] B4.out (Nat.le_refl _), by rw [hA.out]; rfl⟩
        | true =>
          have HRD2 : Hid (readPF R = some (⟨nm, g⟩, r)) := Lib.hid HRD.out
          have hrz := readPF_le HRD2.out
          have hrz2 : r.size ≤ 100000 := by omega
          have hrv := Lib.hid (readPF_valid HRD2.out)
          have HA := Lib.hid (HG.out r ⟨nm, g⟩ HRD2.out)
          clear HRD hrz HN HG HRD2
          by_cases h8 : r.size = 8
          · have h8' : ((r.size : Int) != 8) = false := by rw [bne_eq_false_iff_eq]; omega
            have HA2 : Hid (offerF s b = if seqB nm s.want = false then failS s 351 else ({ s with other := ⟨nm, g⟩, their := valF r 8, sent := true }, replyC ++ numF s.chal 8 ++ proofF letD s.self ⟨nm, g⟩ s.cookie (valF r 8) s.chal, 0)) := by
              refine Lib.hid ?_
              rw [HA.out, if_neg (by simp [h8])]
            have CV : Hid (∀ W, Calls Tryd.prog 59 #[.string r] W fun e w' => e = .returned (.int .u64 (valF r 8)) ∧ W = w') := by
              refine Lib.hid fun W => ?_
              have := value_any r (by omega) W
              rwa [h8] at this
            have htl := valF_lt r 8
            obtain ⟨t, htt⟩ : ∃ t, t = valF r 8 := ⟨_, rfl⟩
            rw [← htt] at HA2 CV htl
            have HTL : Hid (t ≤ 18446744073709551615) := by
              refine Lib.hid ?_
              have : (256 : Nat) ^ 8 = 18446744073709551616 := by decide
              omega
            clear HA h8 htl htt
            have lx := B3.out.size
            have k0 : (w3.alloc (.cells #[.string nm, .int .i64 (g : Int)] 23)).cell? ⟨w3.heap.size, 0, none⟩ = some (.string nm) := by simp
            have k1 : (w3.alloc (.cells #[.string nm, .int .i64 (g : Int)] 23)).cell? ⟨w3.heap.size, 1, none⟩ = some (.int .i64 (g : Int)) := by simp
            have hB4 := HB.out.below B4.out LTB.out
            have neX : ¬ w3.heap.size = B := by have := LTB.out; omega
            have neX2 : ¬ B = w3.heap.size := by omega
            have LX : Hid (w.heap.size ≤ w3.heap.size) := Lib.hid lx
            have SC4 := sd_cells hB4
            have s4 := SC4.c4
            have s2 := SC4.c2
            have s3 := SC4.c3
            have s7 := SC4.c7
            have s9 := SC4.c9
            have fr := fun j => hB4.frozen j
            have HB4 := Lib.hid hB4
            have T4 := Lib.hid (HT.out.below B4.out HT.out.two)
            clear hB4 SC4
            go_wp2_with fail
            generalize w3.heap.size = X at neX neX2 LX k0 k1 lx ⊢
            generalize w3.alloc (.cells #[.string nm, .int .i64 (g : Int)] 23) = W4 at k0 k1 s4 s2 s3 s7 s9 fr HB4 T4 B4 ⊢
            cases x3 : (nm.toList == s.want.toList) with
            | false =>
              have hA : Hid (offerF s b = failS s 351) := Lib.hid (by rw [HA2.out, if_pos (show seqB nm s.want = false from x3)])
              go_quiet (fail)
              go_wp2
              go_ret2
              exact ⟨s, ⟨#[]⟩, 351, rfl, HB4.out.drewN _, Only.of_below [B] (below_drewN B4.out _) (Nat.le_refl _), by rw [hA.out]; rfl⟩
            | true =>
              have hA : Hid (offerF s b = ({ s with other := ⟨nm, g⟩, their := t, sent := true }, replyC ++ numF s.chal 8 ++ proofF letD s.self ⟨nm, g⟩ s.cookie t s.chal, 0)) := by
                refine Lib.hid ?_
                rw [HA2.out, if_neg]
                rw [show seqB nm s.want = true from x3]
                decide
              go_quiet (fail)
              have B5 := Lib.hid (below_drewN B4.out nq)
              have HB5 := Lib.hid (HB4.out.drewN nq)
              have T5 := Lib.hid (T4.out.below (below_drewN (Below.refl W4.heap.size W4) nq) T4.out.two)
              have j0 : (W4.drewN nq).cell? ⟨X, 0, none⟩ = some (.string nm) := k0
              have j1 : (W4.drewN nq).cell? ⟨X, 1, none⟩ = some (.int .i64 (g : Int)) := k1
              have SC5 := sd_cells HB5.out
              have r2 := SC5.c2
              have r3 := SC5.c3
              have r7 := SC5.c7
              have r9 := SC5.c9
              have fr5 := fun j => HB5.out.frozen j
              clear k0 k1 s4 s2 s3 s7 s9 fr SC5 HA2
              go_wp2_with fail
              generalize W4.drewN nq = W5 at j0 j1 r2 r3 r7 r9 fr5 HB5 T5 B5 ⊢
              go_region_held3 (fun w' => w'.cell? ⟨X, 0, none⟩ = some (.string nm) ∧ w'.cell? ⟨X, 1, none⟩ = some (.int .i64 (g : Int))) (((try dsimp only); refine ⟨?_, ?_⟩ <;> first | (go_keep; done) | (simp [*]; done)))
                ((go_at_call 59; refine (CV.out _).mono ?_; rintro e w6 ⟨rfl, rfl⟩))

              have hX := (‹_ ∧ _› : ((((W5.setCell ⟨B, 2, none⟩ (.string nm)).setCell ⟨B, 3, none⟩ (.int .i64 (g : Int))).setCell ⟨B, 7, none⟩ (.int .u64 (t : Int))).setCell ⟨B, 9, none⟩ (.bool true)).drew.cell? ⟨X, 0, none⟩ = some (.string nm) ∧ ((((W5.setCell ⟨B, 2, none⟩ (.string nm)).setCell ⟨B, 3, none⟩ (.int .i64 (g : Int))).setCell ⟨B, 7, none⟩ (.int .u64 (t : Int))).setCell ⟨B, 9, none⟩ (.bool true)).drew.cell? ⟨X, 1, none⟩ = some (.int .i64 (g : Int)))
              have X6 : Blk ((((W5.setCell ⟨B, 2, none⟩ (.string nm)).setCell ⟨B, 3, none⟩ (.int .i64 (g : Int))).setCell ⟨B, 7, none⟩ (.int .u64 (t : Int))).setCell ⟨B, 9, none⟩ (.bool true)).drew B 46 (sdC { s with other := ⟨nm, g⟩, their := t, sent := true }) := ((((HB5.out.set_ 2 (.string nm)).set_ 3 (.int .i64 (g : Int))).set_ 7 (.int .u64 (t : Int))).set_ 9 (.bool true)).drew
              have O6 : Only [B] w ((((W5.setCell ⟨B, 2, none⟩ (.string nm)).setCell ⟨B, 3, none⟩ (.int .i64 (g : Int))).setCell ⟨B, 7, none⟩ (.int .u64 (t : Int))).setCell ⟨B, 9, none⟩ (.bool true)).drew :=
                (((((Only.of_below [B] B5.out (Nat.le_refl _)).trans (Only.setCell _ _ _ (by simp))).trans (Only.setCell _ _ _ (by simp))).trans (Only.setCell _ _ _ (by simp))).trans (Only.setCell _ _ _ (by simp))).trans (Only.drew _ _)
              have T6 := HTO.out _ O6
              clear r2 r3 r7 r9 fr5 j0 j1
              go_wp2_with fail
              generalize ((((W5.setCell ⟨B, 2, none⟩ (.string nm)).setCell ⟨B, 3, none⟩ (.int .i64 (g : Int))).setCell ⟨B, 7, none⟩ (.int .u64 (t : Int))).setCell ⟨B, 9, none⟩ (.bool true)).drew = W6 at hX X6 O6 T6 ⊢
              have O6' := Lib.hid O6
              have X6' := Lib.hid X6
              have SC6 := sd_cells X6
              have HS5 : Hid (∀ n, (W6.drewN n).cell? ⟨B, 0, none⟩ = some (.string s.self.name) ∧ (W6.drewN n).cell? ⟨B, 1, none⟩ = some (.int .i64 s.self.gen) ∧ (W6.drewN n).cell? ⟨X, 0, none⟩ = some (.string nm) ∧ (W6.drewN n).cell? ⟨X, 1, none⟩ = some (.int .i64 (g : Int)) ∧ (W6.drewN n).cell? ⟨B, 5, none⟩ = some (.string s.cookie) ∧ (W6.drewN n).cell? ⟨B, 6, none⟩ = some (.int .u64 s.chal) ∧ (W6.drewN n).cell? ⟨B, 7, none⟩ = some (.int .u64 t) ∧ (W6.drewN n).cell? ⟨B, 4, none⟩ = some (.string s.want) ∧ St W6 (W6.drewN n)) :=
                Lib.hid (fun n => ⟨SC6.c0, SC6.c1, hX.1, hX.2, SC6.c5, SC6.c6, SC6.c7, SC6.c4, (St.refl T6).drewN n⟩)
              have C8 : Hid (∀ W, Calls Tryd.prog 37 #[.int .u64 (s.chal : Int), .int .i64 8] W fun e w' => e = .returned (.string (numF s.chal 8)) ∧ Below W.heap.size W w') := Lib.hid (fun W => bytes_any s.chal 8 (by omega) W)
              have z8 := numF_size s.chal 8
              have CQ := Lib.hid (fun W hW => proof_any letD s.self ⟨nm, g⟩ s.cookie t s.chal (by decide) (nameF_size _ HOK.out.self.1).2 (nameF_size _ hrv.out.1).2 HOK.out.self.2 hrv.out.2 HOK.out.cookie W hW)
              have hQz : (proofF letD s.self ⟨nm, g⟩ s.cookie t s.chal).size = 32 := macS_size _ _
              obtain ⟨Q, hQ⟩ : ∃ Q, Q = proofF letD s.self ⟨nm, g⟩ s.cookie t s.chal := ⟨_, rfl⟩
              obtain ⟨q8, hq8⟩ : ∃ q, q = numF s.chal 8 := ⟨_, rfl⟩
              rw [← hQ] at hA CQ hQz
              rw [← hq8] at hA C8 z8
              have CQ2 : Hid (∀ W, Tabs W → Calls Tryd.prog 60 #[.string ⟨#[68]⟩, .agg #[.string s.self.name, .int .i64 s.self.gen], .agg #[.string nm, .int .i64 (g : Int)], .string s.cookie, .int .u64 (t : Int), .int .u64 s.chal] W fun e w' => e = .returned (.string Q) ∧ Below W.heap.size W w') := CQ
              have hQs : ¬ 9223372036854775807 < 1 + q8.size := by omega
              have hQs2 : ¬ 9223372036854775807 < 1 + q8.size + Q.size := by omega
              clear CQ hQ hq8 hX SC6 X6 O6 T6
              go_region_held3 (fun w' => w'.cell? ⟨B, 0, none⟩ = some (.string s.self.name) ∧ w'.cell? ⟨B, 1, none⟩ = some (.int .i64 s.self.gen) ∧ w'.cell? ⟨X, 0, none⟩ = some (.string nm) ∧ w'.cell? ⟨X, 1, none⟩ = some (.int .i64 (g : Int)) ∧ w'.cell? ⟨B, 5, none⟩ = some (.string s.cookie) ∧ w'.cell? ⟨B, 6, none⟩ = some (.int .u64 s.chal) ∧ w'.cell? ⟨B, 7, none⟩ = some (.int .u64 t) ∧ w'.cell? ⟨B, 4, none⟩ = some (.string s.want) ∧ St W6 w')
                (first | exact HS5.out 1 | (obtain ⟨s1, s2, s3, s4, s5, s6, s7, s8, s9⟩ := (‹_ ∧ _ ∧ _ ∧ _ ∧ _ ∧ _ ∧ _ ∧ _ ∧ St _ _›); exact ⟨cell_keep (by assumption) s1, cell_keep (by assumption) s2, cell_keep (by assumption) s3, cell_keep (by assumption) s4, cell_keep (by assumption) s5, cell_keep (by assumption) s6, cell_keep (by assumption) s7, cell_keep (by assumption) s8, s9.keep (by assumption)⟩))
                (first
                  | (go_at_call 37; refine (C8.out _).mono ?_; rintro e w7 ⟨rfl, b7⟩)
                  | (go_at_call 60; refine (CQ2.out _ ((‹_ ∧ _ ∧ _ ∧ _ ∧ _ ∧ _ ∧ _ ∧ _ ∧ St _ _›).2.2.2.2.2.2.2.2).tabs).mono ?_; rintro e w8 ⟨rfl, b8⟩))
              all_goals
                have hSt := (‹_ ∧ _ ∧ _ ∧ _ ∧ _ ∧ _ ∧ _ ∧ _ ∧ St _ _›).2.2.2.2.2.2.2.2
                go_wp2
                go_ret2
                exact ⟨{ s with other := ⟨nm, g⟩, their := t, sent := true }, replyC ++ q8 ++ Q, 0, rfl, X6'.out.below hSt.bel X6'.out.lt, O6'.out.trans (Only.of_below [B] hSt.bel (Nat.le_refl _)), by rw [hA.out]; rfl⟩
          · have h8' : ((r.size : Int) != 8) = true := by rw [bne_iff_ne]; omega
            have hA : Hid (offerF s b = failS s 6) := Lib.hid (by rw [HA.out, if_pos h8])
            clear h8
            go_wp2
            go_ret2
            exact ⟨s, ⟨#[]⟩, 6, rfl, HB.out.below B4.out LTB.out, Only.of_below [B] B4.out (Nat.le_refl _), by rw [hA.out]; rfl⟩
      · have hA : Hid (offerF s b = failS s 6) := Lib.hid (offerF_form s b hNR.out (pre2_no b ⟨#[2, 1]⟩ rfl hp))
        have CC := Lib.hid (fun W => cutq_no b ⟨#[2, 1]⟩ (by simpa using hp) W)
        clear hp hb hNR HE2 HE3
        go_enter Tryd.func49, Tryd.ntmps49
        go_wp2_with fail
        refine (C1.out _).mono ?_
        rintro e w1 ⟨rfl, b1⟩
        have B1 := Lib.hid b1
        clear b1
        go_wp2_with fail
        refine (C2.out _).mono ?_
        rintro e w2 ⟨rfl, b2⟩
        have B2 := Lib.hid (B1.out.trans (b2.mono B1.out.size))
        clear b2
        go_wp2_with fail
        refine (CC.out _).mono ?_
        rintro e w2' ⟨rfl, rfl⟩
        go_wp2
        go_ret2
        exact ⟨s, ⟨#[]⟩, 6, rfl, HB.out.below B2.out LTB.out, Only.of_below [B] B2.out (Nat.le_refl _), by rw [hA.out]; rfl⟩
end Go.Proofs.YtnkkbkceapcahaaDoor
