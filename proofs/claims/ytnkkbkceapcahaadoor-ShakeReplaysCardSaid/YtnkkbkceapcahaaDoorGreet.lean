/- greeted of the program. -/
import Derived.Test.YtnkkbkceapcahaaDoorReply1
namespace Go.Proofs.YtnkkbkceapcahaaDoor
open Go.RowKit Go.Rt Go.Rw

theorem greetF_none (s : Sd) (b : ByteArray) (h : readHF b = none) : greetF s b = failS s 6 := by unfold greetF; rw [h]
theorem greetF_some (s : Sd) (b want : ByteArray) (p : Pr) (h : readHF b = some (p, want)) :
    greetF s b = if seqB want s.self.name = false ∨ seqB p.name s.self.name = true then failS s 351 else ({ s with other := p, state := 2 }, ⟨#[]⟩, 0) := by
  unfold greetF; rw [h]
theorem toList_nil {b : ByteArray} : b.toList = [] ↔ b.size = 0 := by
  rw [ByteArray.toList_eq]
  constructor
  · intro h
    have : b.data.toList.length = 0 := by rw [h]; rfl
    simpa using this
  · intro h
    apply List.eq_nil_of_length_eq_zero
    simpa using h
theorem nil_facts {b : ByteArray} (h : b.size = 0) : b.toList = [] ∧ b.toList.isEmpty = true := by
  have := toList_nil.2 h
  exact ⟨this, by rw [this]; rfl⟩
theorem cons_facts {b : ByteArray} (h : b.size ≠ 0) : (¬ b.toList = []) ∧ b.toList.isEmpty = false := by
  have : ¬ b.toList = [] := fun e => h (toList_nil.1 e)
  exact ⟨this, by rw [List.isEmpty_eq_false_iff]; exact this⟩

set_option maxRecDepth 100000 in
set_option maxHeartbeats 2000000 in
theorem greet_any (s : Sd) (_hs : SdOk s) (b : ByteArray) (hb : b.size ≤ 100000) (B : Nat) (w : World) (hB : Blk w B 46 (sdC s)) :
    Calls Tryd.prog 48 #[.pointer (some ⟨B, 0, none⟩), .string b] w (Mid 46 B (greetF s b) w) := by
  have HB := Lib.hid hB
  have e2 : (ByteArray.mk #[1, 1]).size = 2 := rfl
  by_cases hp : preF b ⟨#[1, 1]⟩ = true
  · have hp1 := hp
    unfold preF at hp1
    rw [e2, Bool.and_eq_true, decide_eq_true_eq] at hp1
    have h0 : ¬ (b.size < 2 ∨ seqB (b.extract 0 2) helloC = false) := by
      rintro (h | h)
      · omega
      · have : seqB (b.extract 0 2) helloC = true := hp1.2
        rw [this] at h; cases h
    have C2 : Hid (∀ W, Calls Tryd.prog 56 #[.string b, .string ⟨#[1, 1]⟩] W fun e w' => e = .returned (.tuple #[.string (b.extract 2 b.size), .bool true]) ∧ W = w') := Lib.hid (fun W => cutq_yes b ⟨#[1, 1]⟩ hp W)
    have hRz : (b.extract 2 b.size).size = b.size - 2 := ext_size _ _ _ (Nat.le_refl _)
    have CP := Lib.hid (fun W => cutP_any (b.extract 2 b.size) (by omega) W)
    have HN := Lib.hid (fun h => greetF_none s b (readHF_none b h))
    have HBd := Lib.hid (fun r p h hr => greetF_none s b (readHF_bad b r p h hr))
    have HG := Lib.hid (fun r p h hr => greetF_some s b _ p (readHF_good b r p h0 h hr))
    obtain ⟨R, hR⟩ : ∃ R, R = b.extract 2 b.size := ⟨_, rfl⟩
    rw [← hR] at hRz C2 CP HN HBd HG
    have hRle : R.size ≤ 100000 := by omega
    have SCW := Lib.hid (sd_cells hB)
    have HFR := Lib.hid (fun j => hB.frozen j)
    have LTB := Lib.hid hB.lt
    clear hp hp1 h0 hR hRz hB e2 _hs hb
    go_enter Tryd.func48, Tryd.ntmps48
    go_wp2_with fail
    refine (C2.out _).mono ?_
    rintro e w0 ⟨rfl, rfl⟩
    go_wp2_with fail
    refine (CP.out _).mono ?_
    rintro e w1 ⟨⟨nm, g, r, ok, rfl, hrd⟩, b1⟩
    have HRD := Lib.hid hrd
    have B1 := Lib.hid b1
    clear hrd b1
    cases ok with
    | false =>
      have hA := Lib.hid (HN.out HRD.out)
      have B2 := Lib.hid (B1.out.alloc B1.out.size (.cells #[.string nm, .int .i64 (g : Int)] 23))
      go_wp2
      go_ret2
      exact ⟨s, ⟨#[]⟩, 6, rfl, HB.out.below B2.out LTB.out, Only.of_below [B] B2.out (Nat.le_refl _), by rw [hA.out]; rfl⟩
    | true =>
      have HRD2 : Hid (readPF R = some (⟨nm, g⟩, r)) := Lib.hid HRD.out
      have hrz := readPF_le HRD2.out
      have hrz2 : r.size ≤ 100000 := by omega
      have B2 := Lib.hid (B1.out.alloc B1.out.size (.cells #[.string nm, .int .i64 (g : Int)] 23))
      have k0 : (w1.alloc (.cells #[.string nm, .int .i64 (g : Int)] 23)).cell? ⟨w1.heap.size, 0, none⟩ = some (.string nm) := by simp
      have k1 : (w1.alloc (.cells #[.string nm, .int .i64 (g : Int)] 23)).cell? ⟨w1.heap.size, 1, none⟩ = some (.int .i64 (g : Int)) := by simp
      have K0 := Lib.hid k0
      have K1 := Lib.hid k1
      have Z1 := Lib.hid B1.out.size
      clear HRD hrz B1 HN k0 k1
      by_cases hr0 : r.size = 0 ∨ r.size < 1 + atB r 0
      · have C : Hid (∀ W, Calls Tryd.prog 58 #[.string r] W fun e w' => e = .returned (.tuple #[.string ⟨#[]⟩, .string ⟨#[]⟩, .bool false]) ∧ W = w') := by
          refine Lib.hid fun W => ?_
          rcases hr0 with h0 | h0
          · exact cut_none r h0 W
          · rcases Nat.eq_zero_or_pos r.size with hq | hq
            · exact cut_none r hq W
            · exact cut_short r hq (by rw [← atB_get r 0 hq]; exact h0) W
        have hA := Lib.hid (HBd.out r _ HRD2.out (by rcases hr0 with h | h; exact .inl h; exact .inr (.inl (by omega))))
        clear hr0
        go_wp2_with fail
        refine (C.out _).mono ?_
        rintro e w2 ⟨rfl, rfl⟩
        go_wp2
        go_ret2
        exact ⟨s, ⟨#[]⟩, 6, rfl, HB.out.below B2.out LTB.out, Only.of_below [B] B2.out (Nat.le_refl _), by rw [hA.out]; rfl⟩
      · have hrp : 0 < r.size := by omega
        have hrl : 1 + atB r 0 ≤ r.size := by omega
        have C := Lib.hid (fun W => cut_any' r hrp hrl (by omega) W)
        have hTz : (r.extract (1 + atB r 0) r.size).size = r.size - (1 + atB r 0) := ext_size _ _ _ (Nat.le_refl _)
        by_cases hr1 : r.size = 1 + atB r 0
        · have hW : r.extract 1 (1 + atB r 0) = r.extract 1 r.size := by rw [← hr1]
          rw [hW] at C
          obtain ⟨t1, t2⟩ := nil_facts (b := r.extract (1 + atB r 0) r.size) (by omega)
          have HG1 := Lib.hid (HG.out r ⟨nm, g⟩ HRD2.out)
          have HB1 := Lib.hid (HBd.out r ⟨nm, g⟩ HRD2.out)
          obtain ⟨tl, htl⟩ : ∃ tl, tl = r.extract (1 + atB r 0) r.size := ⟨_, rfl⟩
          obtain ⟨want, hwant⟩ : ∃ want, want = r.extract 1 r.size := ⟨_, rfl⟩
          rw [← htl] at C t1 t2
          rw [← hwant] at C HG1 HB1
          have CN := Lib.hid (fun W => nameV_any want W)
          have T1 := Lib.hid t1
          clear hTz htl hwant hW HBd HG t1
          cases hn : nameF want with
          | false =>
            rw [hn] at CN
            have hA := Lib.hid (HB1.out (.inr (.inr hn)))
            clear HG1 HB1 hr0 hrl hr1 hn
            have t1 := T1.out
            go_wp2_with fail
            refine (C.out _).mono ?_
            rintro e w2 ⟨rfl, b2⟩
            have B3 := Lib.hid (B2.out.trans (b2.mono B2.out.size))
            clear b2
            go_wp2_with fail
            refine (CN.out _).mono ?_
            rintro e w3 ⟨rfl, b3⟩
            have B4 := Lib.hid (B3.out.trans (b3.mono B3.out.size))
            clear b3
            go_wp2
            go_ret2
            exact ⟨s, ⟨#[]⟩, 6, rfl, HB.out.below B4.out LTB.out, Only.of_below [B] B4.out (Nat.le_refl _), by rw [hA.out]; rfl⟩
          | true =>
            rw [hn] at CN
            have hA := Lib.hid (HG1.out (by rintro (h | h | h); exact hr0 (.inl h); exact h hr1; rw [hn] at h; cases h))
            clear HG1 HB1 hr0 hrl hr1 hn
            have t1 := T1.out
            go_wp2_with fail
            refine (C.out _).mono ?_
            rintro e w2 ⟨rfl, b2⟩
            have B3 := Lib.hid (B2.out.trans (b2.mono B2.out.size))
            have K0a := Lib.hid (cell_keep b2 K0.out)
            have K1a := Lib.hid (cell_keep b2 K1.out)
            clear b2
            go_wp2_with fail
            refine (CN.out _).mono ?_
            rintro e w3 ⟨rfl, b3⟩
            have B4 := Lib.hid (B3.out.trans (b3.mono B3.out.size))
            have k0 := cell_keep b3 K0a.out
            have k1 := cell_keep b3 K1a.out
            have hB4 := HB.out.below B4.out LTB.out
            have s0 := (sd_cells hB4).c0
            have s2 := (sd_cells hB4).c2
            have s3 := (sd_cells hB4).c3
            have s10 := (sd_cells hB4).c10
            have fr := fun j => hB4.frozen j
            have HB4 := Lib.hid hB4
            clear b3 hB4
            cases x1 : (want.toList == s.self.name.toList) with
            | false =>
              have hE : Hid (greetF s b = failS s 351) := Lib.hid (by rw [hA.out, if_pos (.inl x1)])
              go_wp2_with fail
              go_quiet (fail)
              go_wp2
              go_ret2
              exact ⟨s, ⟨#[]⟩, 351, rfl, HB4.out.drewN _, Only.of_below [B] (below_drewN B4.out _) (Nat.le_refl _), by rw [hE.out]; rfl⟩
            | true =>
              cases x2 : (nm.toList == s.self.name.toList) with
              | true =>
                have hE : Hid (greetF s b = failS s 351) := Lib.hid (by rw [hA.out, if_pos (.inr x2)])
                go_wp2_with fail
                go_quiet (fail)
                go_wp2
                go_ret2
                exact ⟨s, ⟨#[]⟩, 351, rfl, HB4.out.drewN _, Only.of_below [B] (below_drewN B4.out _) (Nat.le_refl _), by rw [hE.out]; rfl⟩
              | false =>
                have hE : Hid (greetF s b = ({ s with other := ⟨nm, g⟩, state := 2 }, ⟨#[]⟩, 0)) := by
                  refine Lib.hid ?_
                  rw [hA.out, if_neg]
                  rintro (h | h)
                  · have : seqB want s.self.name = true := x1
                    rw [this] at h; cases h
                  · have : seqB nm s.self.name = false := x2
                    rw [this] at h; cases h
                go_wp2_with fail
                go_quiet (fail)
                go_wp2
                go_ret2
                have O1 := Only.of_below [B] B4.out (Nat.le_refl _)
                have X := ((HB4.out.set_ 2 (.string nm)).set_ 3 (.int .i64 (g : Int))).set_ 10 (.int .i64 2)
                have O := ((O1.trans (Only.setCell w3 ⟨B, 2, none⟩ (.string nm) (by simp))).trans (Only.setCell _ ⟨B, 3, none⟩ (.int .i64 (g : Int)) (by simp))).trans (Only.setCell _ ⟨B, 10, none⟩ (.int .i64 2) (by simp))
                exact ⟨{ s with other := ⟨nm, g⟩, state := 2 }, ⟨#[]⟩, 0, rfl, X.drewN nq, ⟨O.os, O.tape, O.output, O.size, O.block⟩, by rw [hE.out]; rfl⟩
        · have hA := Lib.hid (HBd.out r _ HRD2.out (.inr (.inl hr1)))
          obtain ⟨t1, t2⟩ := cons_facts (b := r.extract (1 + atB r 0) r.size) (by omega)
          obtain ⟨tl, htl⟩ : ∃ tl, tl = r.extract (1 + atB r 0) r.size := ⟨_, rfl⟩
          rw [← htl] at C t1 t2
          clear hTz htl hr0 hr1 hrl HBd HG
          go_wp2_with fail
          refine (C.out _).mono ?_
          rintro e w2 ⟨rfl, b2⟩
          have B3 := Lib.hid (B2.out.trans (b2.mono B2.out.size))
          clear b2
          go_wp2
          go_ret2
          exact ⟨s, ⟨#[]⟩, 6, rfl, HB.out.below B3.out LTB.out, Only.of_below [B] B3.out (Nat.le_refl _), by rw [hA.out]; rfl⟩
  · have hA : Hid (greetF s b = failS s 6) := by
      refine Lib.hid (greetF_none s b (readHF_short b ?_))
      unfold preF at hp
      rw [e2, Bool.and_eq_true, decide_eq_true_eq] at hp
      by_cases hz : b.size < 2
      · exact .inl hz
      · refine .inr ?_
        cases hh : seqB (b.extract 0 2) helloC with
        | false => rfl
        | true => exact absurd ⟨by omega, hh⟩ hp
    have C := Lib.hid (fun W => cutq_no b ⟨#[1, 1]⟩ (by simpa using hp) W)
    clear hp _hs hb hB e2
    go_enter Tryd.func48, Tryd.ntmps48
    go_wp2_with fail
    refine (C.out _).mono ?_
    rintro e w1 ⟨rfl, rfl⟩
    go_wp2
    go_ret2
    exact ⟨s, ⟨#[]⟩, 6, rfl, HB.out, Only.refl _ _, by rw [hA.out]; rfl⟩
end Go.Proofs.YtnkkbkceapcahaaDoor
