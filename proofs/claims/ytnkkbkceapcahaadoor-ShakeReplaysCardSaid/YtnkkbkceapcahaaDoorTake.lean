/- Take of the program. -/
import Derived.Test.YtnkkbkceapcahaaDoorSteps
import Derived.Test.YtnkkbkceapcahaaDoorRgreet
namespace Go.Proofs.YtnkkbkceapcahaaDoor
open Go.RowKit Go.Rt Go.Rw

set_option maxRecDepth 100000 in
set_option maxHeartbeats 4000000 in
theorem take_greet (s : Sd) (hs : SdOk s) (h1 : s.state = 1) (hd : s.dials = false) (he : s.sent = false) (b : ByteArray) (hb : b.size ≤ 100000) (B : Nat) (w : World) (hB : Blk w B 46 (sdC s)) (ht : Tabs w) :
    Calls Tryd.prog 14 #[.pointer (some ⟨B, 0, none⟩), .string b] w (Fin 46 B (takeF s b) w) := by
  have hT : Hid (takeF s b = greetF s b) := Lib.hid (by unfold takeF moveF; rw [if_neg (by simp [h1])]; simp [hd, he])
  rw [hT.out]
  have SC := sd_cells hB
  have c8 := SC.c8
  have c9 := SC.c9
  have c10 := SC.c10
  rw [hd] at c8
  rw [he] at c9
  rw [h1] at c10
  have c10' : w.cell? ⟨B, 10, none⟩ = some (.int .i64 1) := c10
  have HB := Lib.hid hB
  have LTB := Lib.hid hB.lt
  have HM : Hid (∀ W, Blk W B 46 (sdC s) → Tabs W → Calls Tryd.prog 48 #[.pointer (some ⟨B, 0, none⟩), .string b] W (Mid 46 B (greetF s b) W)) := Lib.hid (fun W h t => greet_any s hs b hb B W h)
  have HS := Lib.hid (fun W => steps_any W)
  have HT := Lib.hid ht
  have HBd : Hid (Blk w.drew B 46 (sdC s)) := Lib.hid hB.drew
  have HTd : Hid (Tabs w.drew) := Lib.hid (ht.below (Below.refl _ w).drew ht.two)
  obtain ⟨rr, hrr⟩ : ∃ rr, rr = greetF s b := ⟨_, rfl⟩
  rw [← hrr] at HM ⊢
  clear c10 SC hs hb hB ht h1 hd he hT hrr
  go_enter Tryd.func14, Tryd.ntmps14
  go_wp2_with fail
  go_region_with (first
      | (go_at_call 36; refine (HS.out _).mono ?_; rintro e w1 ⟨C, L, rfl, hmb, hfk, b1⟩; obtain ⟨ix, hix⟩ := hfk false false; have hl := lookup44 hmb false false ix _ hix; simp only [fnV, stepK, Bool.false_eq_true, if_false] at hl; have d8 : w1.cell? ⟨B, 8, none⟩ = some (.bool false) := cell_keep (W := w.drew) b1 c8; have d9 : w1.cell? ⟨B, 9, none⟩ = some (.bool false) := cell_keep (W := w.drew) b1 c9; clear hix hfk)
      | (go_at_call 48; refine (HM.out _ (HBd.out.below b1 LTB.out) (HTd.out.below b1 HT.out.two)).mono ?_; rintro e w2 ⟨s1, out, err, rfl, hbk, hon, hr⟩; have HR := Lib.hid hr; have HK := Lib.hid hbk; have HO := Lib.hid (((Only.drew [B] w).trans (Only.of_below [B] b1 (Nat.le_refl _))).trans hon); clear hr hbk hon b1 hmb hl))
  all_goals
    by_cases herr : err = 0
    · have he1 : ((err : Int) != 0) = false := by rw [bne_eq_false_iff_eq]; omega
      have hrr : Hid (rr = (s1, out, 0)) := Lib.hid (by rw [HR.out, if_pos herr])
      clear herr
      go_wp2
      go_ret2
      exact ⟨by rw [hrr.out]; rfl, by rw [hrr.out]; exact HK.out, HO.out⟩
    · have he1 : ((err : Int) != 0) = true := by rw [bne_iff_ne]; omega
      have hrr : Hid (rr = ({ s1 with state := 4 }, ⟨#[]⟩, err)) := Lib.hid (by rw [HR.out, if_neg herr])
      have k10 := (sd_cells HK.out).c10
      have f10 := HK.out.frozen 10
      clear herr
      go_wp2
      go_ret2
      exact ⟨by rw [hrr.out]; rfl, by rw [hrr.out]; exact HK.out.set_ 10 (.int .i64 4), HO.out.trans (Only.setCell _ _ _ (by simp))⟩

set_option maxRecDepth 100000 in
set_option maxHeartbeats 4000000 in
theorem take_offer (s : Sd) (hs : SdOk s) (h1 : s.state = 1) (hd : s.dials = true) (he : s.sent = false) (b : ByteArray) (hb : b.size ≤ 100000) (B : Nat) (w : World) (hB : Blk w B 46 (sdC s)) (ht : Tabs w) :
    Calls Tryd.prog 14 #[.pointer (some ⟨B, 0, none⟩), .string b] w (Fin 46 B (takeF s b) w) := by
  have hT : Hid (takeF s b = offerF s b) := Lib.hid (by unfold takeF moveF; rw [if_neg (by simp [h1])]; simp [hd, he])
  rw [hT.out]
  have SC := sd_cells hB
  have c8 := SC.c8
  have c9 := SC.c9
  have c10 := SC.c10
  rw [hd] at c8
  rw [he] at c9
  rw [h1] at c10
  have c10' : w.cell? ⟨B, 10, none⟩ = some (.int .i64 1) := c10
  have HB := Lib.hid hB
  have LTB := Lib.hid hB.lt
  have HM : Hid (∀ W, Blk W B 46 (sdC s) → Tabs W → Calls Tryd.prog 49 #[.pointer (some ⟨B, 0, none⟩), .string b] W (Mid 46 B (offerF s b) W)) := Lib.hid (fun W h t => offer_any s hs b hb B W h t)
  have HS := Lib.hid (fun W => steps_any W)
  have HT := Lib.hid ht
  have HBd : Hid (Blk w.drew B 46 (sdC s)) := Lib.hid hB.drew
  have HTd : Hid (Tabs w.drew) := Lib.hid (ht.below (Below.refl _ w).drew ht.two)
  obtain ⟨rr, hrr⟩ : ∃ rr, rr = offerF s b := ⟨_, rfl⟩
  rw [← hrr] at HM ⊢
  clear c10 SC hs hb hB ht h1 hd he hT hrr
  go_enter Tryd.func14, Tryd.ntmps14
  go_wp2_with fail
  go_region_with (first
      | (go_at_call 36; refine (HS.out _).mono ?_; rintro e w1 ⟨C, L, rfl, hmb, hfk, b1⟩; obtain ⟨ix, hix⟩ := hfk true false; have hl := lookup44 hmb true false ix _ hix; simp only [fnV, stepK, Bool.false_eq_true, if_false, if_true] at hl; have d8 : w1.cell? ⟨B, 8, none⟩ = some (.bool true) := cell_keep (W := w.drew) b1 c8; have d9 : w1.cell? ⟨B, 9, none⟩ = some (.bool false) := cell_keep (W := w.drew) b1 c9; clear hix hfk)
      | (go_at_call 49; refine (HM.out _ (HBd.out.below b1 LTB.out) (HTd.out.below b1 HT.out.two)).mono ?_; rintro e w2 ⟨s1, out, err, rfl, hbk, hon, hr⟩; have HR := Lib.hid hr; have HK := Lib.hid hbk; have HO := Lib.hid (((Only.drew [B] w).trans (Only.of_below [B] b1 (Nat.le_refl _))).trans hon); clear hr hbk hon b1 hmb hl))
  all_goals
    by_cases herr : err = 0
    · have he1 : ((err : Int) != 0) = false := by rw [bne_eq_false_iff_eq]; omega
      have hrr : Hid (rr = (s1, out, 0)) := Lib.hid (by rw [HR.out, if_pos herr])
      clear herr
      go_wp2
      go_ret2
      exact ⟨by rw [hrr.out]; rfl, by rw [hrr.out]; exact HK.out, HO.out⟩
    · have he1 : ((err : Int) != 0) = true := by rw [bne_iff_ne]; omega
      have hrr : Hid (rr = ({ s1 with state := 4 }, ⟨#[]⟩, err)) := Lib.hid (by rw [HR.out, if_neg herr])
      have k10 := (sd_cells HK.out).c10
      have f10 := HK.out.frozen 10
      clear herr
      go_wp2
      go_ret2
      exact ⟨by rw [hrr.out]; rfl, by rw [hrr.out]; exact HK.out.set_ 10 (.int .i64 4), HO.out.trans (Only.setCell _ _ _ (by simp))⟩

set_option maxRecDepth 100000 in
set_option maxHeartbeats 4000000 in
theorem take_reply (s : Sd) (hs : SdOk s) (h1 : s.state = 1) (hd : s.dials = false) (he : s.sent = true) (b : ByteArray) (hb : b.size ≤ 100000) (B : Nat) (w : World) (hB : Blk w B 46 (sdC s)) (ht : Tabs w) :
    Calls Tryd.prog 14 #[.pointer (some ⟨B, 0, none⟩), .string b] w (Fin 46 B (takeF s b) w) := by
  have hT : Hid (takeF s b = replyF s b) := Lib.hid (by unfold takeF moveF; rw [if_neg (by simp [h1])]; simp [hd, he])
  rw [hT.out]
  have SC := sd_cells hB
  have c8 := SC.c8
  have c9 := SC.c9
  have c10 := SC.c10
  rw [hd] at c8
  rw [he] at c9
  rw [h1] at c10
  have c10' : w.cell? ⟨B, 10, none⟩ = some (.int .i64 1) := c10
  have HB := Lib.hid hB
  have LTB := Lib.hid hB.lt
  have HM : Hid (∀ W, Blk W B 46 (sdC s) → Tabs W → Calls Tryd.prog 50 #[.pointer (some ⟨B, 0, none⟩), .string b] W (Mid 46 B (replyF s b) W)) := Lib.hid (fun W h t => reply_any s hs b hb B W h t)
  have HS := Lib.hid (fun W => steps_any W)
  have HT := Lib.hid ht
  have HBd : Hid (Blk w.drew B 46 (sdC s)) := Lib.hid hB.drew
  have HTd : Hid (Tabs w.drew) := Lib.hid (ht.below (Below.refl _ w).drew ht.two)
  obtain ⟨rr, hrr⟩ : ∃ rr, rr = replyF s b := ⟨_, rfl⟩
  rw [← hrr] at HM ⊢
  clear c10 SC hs hb hB ht h1 hd he hT hrr
  go_enter Tryd.func14, Tryd.ntmps14
  go_wp2_with fail
  go_region_with (first
      | (go_at_call 36; refine (HS.out _).mono ?_; rintro e w1 ⟨C, L, rfl, hmb, hfk, b1⟩; obtain ⟨ix, hix⟩ := hfk false true; have hl := lookup44 hmb false true ix _ hix; simp only [fnV, stepK, Bool.false_eq_true, if_false, if_true] at hl; have d8 : w1.cell? ⟨B, 8, none⟩ = some (.bool false) := cell_keep (W := w.drew) b1 c8; have d9 : w1.cell? ⟨B, 9, none⟩ = some (.bool true) := cell_keep (W := w.drew) b1 c9; clear hix hfk)
      | (go_at_call 50; refine (HM.out _ (HBd.out.below b1 LTB.out) (HTd.out.below b1 HT.out.two)).mono ?_; rintro e w2 ⟨s1, out, err, rfl, hbk, hon, hr⟩; have HR := Lib.hid hr; have HK := Lib.hid hbk; have HO := Lib.hid (((Only.drew [B] w).trans (Only.of_below [B] b1 (Nat.le_refl _))).trans hon); clear hr hbk hon b1 hmb hl))
  all_goals
    by_cases herr : err = 0
    · have he1 : ((err : Int) != 0) = false := by rw [bne_eq_false_iff_eq]; omega
      have hrr : Hid (rr = (s1, out, 0)) := Lib.hid (by rw [HR.out, if_pos herr])
      clear herr
      go_wp2
      go_ret2
      exact ⟨by rw [hrr.out]; rfl, by rw [hrr.out]; exact HK.out, HO.out⟩
    · have he1 : ((err : Int) != 0) = true := by rw [bne_iff_ne]; omega
      have hrr : Hid (rr = ({ s1 with state := 4 }, ⟨#[]⟩, err)) := Lib.hid (by rw [HR.out, if_neg herr])
      have k10 := (sd_cells HK.out).c10
      have f10 := HK.out.frozen 10
      clear herr
      go_wp2
      go_ret2
      exact ⟨by rw [hrr.out]; rfl, by rw [hrr.out]; exact HK.out.set_ 10 (.int .i64 4), HO.out.trans (Only.setCell _ _ _ (by simp))⟩

set_option maxRecDepth 100000 in
set_option maxHeartbeats 4000000 in
theorem take_ack (s : Sd) (hs : SdOk s) (h1 : s.state = 1) (hd : s.dials = true) (he : s.sent = true) (b : ByteArray) (hb : b.size ≤ 100000) (B : Nat) (w : World) (hB : Blk w B 46 (sdC s)) (ht : Tabs w) :
    Calls Tryd.prog 14 #[.pointer (some ⟨B, 0, none⟩), .string b] w (Fin 46 B (takeF s b) w) := by
  have hT : Hid (takeF s b = ackF s b) := Lib.hid (by unfold takeF moveF; rw [if_neg (by simp [h1])]; simp [hd, he])
  rw [hT.out]
  have SC := sd_cells hB
  have c8 := SC.c8
  have c9 := SC.c9
  have c10 := SC.c10
  rw [hd] at c8
  rw [he] at c9
  rw [h1] at c10
  have c10' : w.cell? ⟨B, 10, none⟩ = some (.int .i64 1) := c10
  have HB := Lib.hid hB
  have LTB := Lib.hid hB.lt
  have HM : Hid (∀ W, Blk W B 46 (sdC s) → Tabs W → Calls Tryd.prog 51 #[.pointer (some ⟨B, 0, none⟩), .string b] W (Mid 46 B (ackF s b) W)) := Lib.hid (fun W h t => ack_any s hs b hb B W h t)
  have HS := Lib.hid (fun W => steps_any W)
  have HT := Lib.hid ht
  have HBd : Hid (Blk w.drew B 46 (sdC s)) := Lib.hid hB.drew
  have HTd : Hid (Tabs w.drew) := Lib.hid (ht.below (Below.refl _ w).drew ht.two)
  obtain ⟨rr, hrr⟩ : ∃ rr, rr = ackF s b := ⟨_, rfl⟩
  rw [← hrr] at HM ⊢
  clear c10 SC hs hb hB ht h1 hd he hT hrr
  go_enter Tryd.func14, Tryd.ntmps14
  go_wp2_with fail
  go_region_with (first
      | (go_at_call 36; refine (HS.out _).mono ?_; rintro e w1 ⟨C, L, rfl, hmb, hfk, b1⟩; obtain ⟨ix, hix⟩ := hfk true true; have hl := lookup44 hmb true true ix _ hix; simp only [fnV, stepK, if_true] at hl; have d8 : w1.cell? ⟨B, 8, none⟩ = some (.bool true) := cell_keep (W := w.drew) b1 c8; have d9 : w1.cell? ⟨B, 9, none⟩ = some (.bool true) := cell_keep (W := w.drew) b1 c9; clear hix hfk)
      | (go_at_call 51; refine (HM.out _ (HBd.out.below b1 LTB.out) (HTd.out.below b1 HT.out.two)).mono ?_; rintro e w2 ⟨s1, out, err, rfl, hbk, hon, hr⟩; have HR := Lib.hid hr; have HK := Lib.hid hbk; have HO := Lib.hid (((Only.drew [B] w).trans (Only.of_below [B] b1 (Nat.le_refl _))).trans hon); clear hr hbk hon b1 hmb hl))
  all_goals
    by_cases herr : err = 0
    · have he1 : ((err : Int) != 0) = false := by rw [bne_eq_false_iff_eq]; omega
      have hrr : Hid (rr = (s1, out, 0)) := Lib.hid (by rw [HR.out, if_pos herr])
      clear herr
      go_wp2
      go_ret2
      exact ⟨by rw [hrr.out]; rfl, by rw [hrr.out]; exact HK.out, HO.out⟩
    · have he1 : ((err : Int) != 0) = true := by rw [bne_iff_ne]; omega
      have hrr : Hid (rr = ({ s1 with state := 4 }, ⟨#[]⟩, err)) := Lib.hid (by rw [HR.out, if_neg herr])
      have k10 := (sd_cells HK.out).c10
      have f10 := HK.out.frozen 10
      clear herr
      go_wp2
      go_ret2
      exact ⟨by rw [hrr.out]; rfl, by rw [hrr.out]; exact HK.out.set_ 10 (.int .i64 4), HO.out.trans (Only.setCell _ _ _ (by simp))⟩

set_option maxRecDepth 100000 in
set_option maxHeartbeats 1000000 in
theorem take_off (s : Sd) (h : s.state ≠ 1) (h0 : s.state ≠ 0) (b : ByteArray) (B : Nat) (w : World) (hB : Blk w B 46 (sdC s)) :
    Calls Tryd.prog 14 #[.pointer (some ⟨B, 0, none⟩), .string b] w (Fin 46 B (takeF s b) w) := by
  have c10 := (sd_cells hB).c10
  have hA : Hid (takeF s b = (s, ⟨#[]⟩, 2)) := Lib.hid (by unfold takeF; rw [if_pos h])
  have hs : ((s.state : Int) != 1) = true := by rw [bne_iff_ne]; omega
  have hs0 : ((s.state : Int) == 0) = false := by rw [beq_eq_false_iff_ne]; omega
  have HB := Lib.hid hB
  clear hB h h0
  go_enter Tryd.func14, Tryd.ntmps14
  go_wp2
  go_ret2
  rw [hA.out]
  exact ⟨rfl, HB.out, Only.refl _ _⟩
/-- Take of the program. -/
theorem take_any (s : Sd) (hs : SdOk s) (h0 : s.state ≠ 0) (b : ByteArray) (hb : b.size ≤ 100000) (B : Nat) (w : World) (hB : Blk w B 46 (sdC s)) (ht : Tabs w) :
    Calls Tryd.prog 14 #[.pointer (some ⟨B, 0, none⟩), .string b] w (Fin 46 B (takeF s b) w) := by
  by_cases h1 : s.state = 1
  · cases hd : s.dials with
    | true =>
      cases he : s.sent with
      | true => exact take_ack s hs h1 hd he b hb B w hB ht
      | false => exact take_offer s hs h1 hd he b hb B w hB ht
    | false =>
      cases he : s.sent with
      | true => exact take_reply s hs h1 hd he b hb B w hB ht
      | false => exact take_greet s hs h1 hd he b hb B w hB ht
  · exact take_off s h1 h0 b B w hB
set_option maxHeartbeats 1000000 in
theorem take_nil (b : ByteArray) (w : World) :
    Calls Tryd.prog 14 #[.pointer none, .string b] w fun e w' => e = .returned (.tuple #[.string ⟨#[]⟩, .int .i64 1]) ∧ w = w' := by
  go_enter Tryd.func14, Tryd.ntmps14
  go_wp2
  go_ret2
  exact ⟨rfl, rfl⟩
end Go.Proofs.YtnkkbkceapcahaaDoor
