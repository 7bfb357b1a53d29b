/- The reference's reader: large. -/
import Derived.Test.YtemlogadbopffaaGreatRr
namespace Go.Proofs.YtemlogadbopffaaGreat
open Go.RowKit Go.Rt Go.Rw

def toI64 (x : Int) : Int := (x + 9223372036854775808) % 18446744073709551616 - 9223372036854775808
def largeT (n sg : Nat) (b : List UInt8) (s3 : Sr) : Int × Sr :=
 (toI64 (if sg = 1 then -((if (badS (decide (8 < n) || decide (1 < sg)) s3).bad then 0 else leN b : Nat) : Int) else ((if (badS (decide (8 < n) || decide (1 < sg)) s3).bad then 0 else leN b : Nat) : Int)), badS (decide (8 < n) || decide (1 < sg)) s3)
def largeS (st : Sr) : Int × Sr := largeT (numS st 1).1 (numS (numS st 1).2 1).1 (takeS (numS (numS st 1).2 1).2 (numS st 1).1).1 (takeS (numS (numS st 1).2 1).2 (numS st 1).1).2
theorem takeS_ok {st st' : Sr} {n : Nat} {a : List UInt8} (h : takeS st n = (a, st')) (hb : st'.bad = false) : a.length = n ∧ st.bad = false ∧ st.r = a ++ st'.r ∧ st'.left = st.left := by
 unfold takeS at h
 split at h
 ·
  cases h; cases hb
 ·
  rename_i hc
  cases h
  simp only [not_or, Nat.not_lt, Bool.not_eq_true] at hc
  exact ⟨by simp; omega, hc.1, by simp, rfl⟩
theorem takeS_left (st : Sr) (n : Nat) : (takeS st n).2.left = st.left := by
 unfold takeS
 split <;> rfl
theorem numS_left (st : Sr) (k : Nat) : (numS st k).2.left = st.left := takeS_left st k
theorem takeS_bad (st : Sr) (n : Nat) (h : (takeS st n).2.bad = false) : st.bad = false := (takeS_ok (a := (takeS st n).1) (st' := (takeS st n).2) rfl h).2.1
theorem numS_bad (st : Sr) (k : Nat) (h : (numS st k).2.bad = false) : st.bad = false := takeS_bad st k h
theorem badS_left (c : Bool) (st : Sr) : (badS c st).left = st.left := by unfold badS; split <;> rfl
theorem badS_bad (c : Bool) (st : Sr) (h : (badS c st).bad = false) : c = false ∧ st.bad = false := by
 cases c with
 | true => cases h
 | false => exact ⟨rfl, h⟩
theorem or_u64a (m d : Nat) (hm : m < 72057594037927936) (hd : d < 256) : IntKind.u64.wrap (256 * (m : Int) + (d : Int)) = ((d + 256 * m : Nat) : Int) := by
 rw [IntKind.wrap_u64]
 omega
set_option maxRecDepth 100000 in
set_option maxHeartbeats 2000000 in
theorem rlarge_any {s : ByteArray} {rb : Nat} {st : Sr} {w : World} (h : RS s rb st w) (hs : s.size ≤ 200000) :
  Calls Tryz.prog 110 #[.pointer (some ⟨rb, 0, none⟩)] w (SR s rb (largeS st) (fun a => .int .i64 a) w) := by
 have hl1 := numS_lt st 1
 have C1 := Lib.hid (rnumber_any h 1 (by omega) hs)
 have hle0 := h.le
 clear h
 obtain ⟨P, hP⟩ : ∃ P, P = largeS st := ⟨_, rfl⟩
 rw [← hP]
 unfold largeS at hP
 obtain ⟨q, hq⟩ : ∃ q, q = numS st 1 := ⟨_, rfl⟩
 rw [← hq] at C1 hP hl1
 clear hq hle0
 obtain ⟨n, s1⟩ := q
 dsimp only at hP hl1
 have HP := Lib.hid hP
 clear hP
 have hn9 : n ≤ 255 := by omega
 clear hl1
 go_enter Tryz.func110, Tryz.ntmps110
 go_wp2_with fail
 refine C1.out.mono ?_
 rintro e w1 ⟨o1, rfl, r1⟩
 have O1 := Lib.hid o1
 have R1 := Lib.hid r1
 dsimp only at R1 ⊢
 clear o1 r1 C1
 have hl2 := numS_lt s1 1
 have C2 := rnumber_any R1.out 1 (by omega) hs
 have hP2 := HP.out
 obtain ⟨q, hq⟩ : ∃ q, q = numS s1 1 := ⟨_, rfl⟩
 rw [← hq] at C2 hP2 hl2
 obtain ⟨sg, s2⟩ := q
 dsimp only at hP2 hl2
 have HC2 := Lib.hid C2
 have HP2 := Lib.hid hP2
 have hg9 : sg ≤ 255 := by omega
 clear C2 hP2 HP hq hl2
 go_wp2_with fail
 refine HC2.out.mono ?_
 rintro e w2 ⟨o2, rfl, r2⟩
 have O2 := Lib.hid (O1.out.trans o2)
 have R2 := Lib.hid r2
 dsimp only at R2 ⊢
 clear o2 r2 HC2 R1 O1
 have hl3 := takeS_len s2 n
 have C3 := rtake_any R2.out n (by omega) hs
 have hP3 := HP2.out
 have hok3 := fun (st' : Sr) (a : List UInt8) (h : takeS s2 n = (a, st')) => takeS_ok h
 obtain ⟨q, hq⟩ : ∃ q, q = takeS s2 n := ⟨_, rfl⟩
 rw [← hq] at C3 hP3 hl3 hok3
 obtain ⟨b, s3⟩ := q
 have hok := hok3 s3 b rfl
 dsimp only at hP3 hl3
 have HC3 := Lib.hid C3
 have HP3 := Lib.hid hP3
 have HOK := Lib.hid hok
 have hbn : b.length ≤ n := hl3.1
 clear C3 hP3 HP2 hq hl3 hok hok3
 go_wp2_with fail
 refine HC3.out.mono ?_
 rintro e w3 ⟨o3, rfl, r3⟩
 have O3 := Lib.hid (O2.out.trans o3)
 have R3 := Lib.hid r3
 dsimp only at R3 ⊢
 clear o3 r3 HC3 R2 O2
 obtain ⟨m, hm⟩ : ∃ m, m = b.length := ⟨_, rfl⟩
 have HM := Lib.hid hm
 rw [← hm] at hbn
 have hla : (b.length : Int) = (m : Int) := by rw [hm]
 have hm9 : m ≤ 255 := by omega
 clear hm hbn
 by_cases h8 : 8 < n
 ·
  have d1 : decide ((8 : Int) < n) = true := decide_eq_true (by omega)
  have d1n : decide (8 < n) = true := decide_eq_true h8
  obtain rfl : P = (0, ⟨s3.r, s3.left, true⟩) := by
   rw [HP3.out]
   unfold largeT
   rw [show badS (decide (8 < n) || decide (1 < sg)) s3 = ⟨s3.r, s3.left, true⟩ from by rw [d1n]; rfl]
   dsimp only
   rw [if_pos rfl]
   split <;> rfl
  clear HP3 HOK HM
  clear h8
  obtain ⟨a3, _, _, hb3⟩ := R3.out
  have HB3 := Lib.hid hb3
  clear hb3
  go_wp2_with (refine wpList_store_fld rfl 4 _ _ rfl rfl rb 3 _ 154 (.bool true) rfl rfl HB3.out (Nat.le_of_ble_eq_true rfl) (by kernel_rfl) rfl ?_)
  intro v ev
  have R4 := Lib.hid (show RS s rb ⟨s3.r, s3.left, true⟩ v by rw [ev]; exact R3.out.setBad)
  have O4 := Lib.hid (show Only [rb] w v by rw [ev]; exact O3.out.trans (Only.setCell w3 ⟨rb, 3, none⟩ _ (by simp)))
  clear ev HB3 R3 O3
  obtain ⟨ab, _, _, hbb⟩ := R4.out
  have cb : v.cell? ⟨rb, 3, none⟩ = some (.bool true) := hbb.cell 3
  have wm : IntKind.i64.wrap ((m : Int) - 1) = (m : Int) - 1 := by rw [IntKind.wrap_i64]; omega
  clear hbb
  by_cases hm0 : m = 0
  ·
   have dm : decide (0 ≤ (m : Int) - 1) = false := decide_eq_false (by omega)
   have dm1 : decide (1 ≤ (m : Int)) = false := decide_eq_false (by omega)
   have dm2 : decide (1 ≤ m) = false := decide_eq_false (by omega)
   go_wp2_with fail
   refine wp_loop_rounds 1 ?_
   rw [rounds_succ]
   by_cases hs1 : sg = 1
   ·
    have d5 : ((sg : Int) == 1) = true := by rw [hs1]; rfl
    clear hs1
    go_wp2_with fail
    go_ret
    exact ⟨O4.out, rfl, R4.out⟩
   ·
    have d5 : ((sg : Int) == 1) = false := by rw [beq_eq_false_iff_ne]; omega
    clear hs1
    go_wp2_with fail
    go_ret
    exact ⟨O4.out, rfl, R4.out⟩
  ·
   have dm : decide (0 ≤ (m : Int) - 1) = true := decide_eq_true (by omega)
   have dm1 : decide (1 ≤ (m : Int)) = true := decide_eq_true (by omega)
   have dm2 : decide (1 ≤ m) = true := decide_eq_true (by omega)
   go_wp2_with fail
   refine wp_loop_rounds 1 ?_
   rw [rounds_succ]
   by_cases hs1 : sg = 1
   ·
    have d5 : ((sg : Int) == 1) = true := by rw [hs1]; rfl
    clear hs1
    go_wp2_with fail
    go_ret
    exact ⟨O4.out, rfl, R4.out⟩
   ·
    have d5 : ((sg : Int) == 1) = false := by rw [beq_eq_false_iff_ne]; omega
    clear hs1
    go_wp2_with fail
    go_ret
    exact ⟨O4.out, rfl, R4.out⟩
 ·
  have d1 : decide ((8 : Int) < n) = false := decide_eq_false (by omega)
  have d1n : decide (8 < n) = false := decide_eq_false h8
  by_cases h1 : 1 < sg
  ·
   have d2 : decide ((1 : Int) < sg) = true := decide_eq_true (by omega)
   have d2n : decide (1 < sg) = true := decide_eq_true h1
   obtain rfl : P = (0, ⟨s3.r, s3.left, true⟩) := by
    rw [HP3.out]
    unfold largeT
    rw [show badS (decide (8 < n) || decide (1 < sg)) s3 = ⟨s3.r, s3.left, true⟩ from by rw [d1n, d2n]; rfl]
    dsimp only
    rw [if_pos rfl]
    split <;> rfl
   clear HP3 HOK HM
   clear h8 h1
   obtain ⟨a3, _, _, hb3⟩ := R3.out
   have HB3 := Lib.hid hb3
   clear hb3
   go_wp2_with (refine wpList_store_fld rfl 4 _ _ rfl rfl rb 3 _ 154 (.bool true) rfl rfl HB3.out (Nat.le_of_ble_eq_true rfl) (by kernel_rfl) rfl ?_)
   intro v ev
   have R4 := Lib.hid (show RS s rb ⟨s3.r, s3.left, true⟩ v by rw [ev]; exact R3.out.setBad)
   have O4 := Lib.hid (show Only [rb] w v by rw [ev]; exact O3.out.trans (Only.setCell w3 ⟨rb, 3, none⟩ _ (by simp)))
   clear ev HB3 R3 O3
   obtain ⟨ab, _, _, hbb⟩ := R4.out
   have cb : v.cell? ⟨rb, 3, none⟩ = some (.bool true) := hbb.cell 3
   have wm : IntKind.i64.wrap ((m : Int) - 1) = (m : Int) - 1 := by rw [IntKind.wrap_i64]; omega
   clear hbb
   by_cases hm0 : m = 0
   ·
    have dm : decide (0 ≤ (m : Int) - 1) = false := decide_eq_false (by omega)
    have dm1 : decide (1 ≤ (m : Int)) = false := decide_eq_false (by omega)
    have dm2 : decide (1 ≤ m) = false := decide_eq_false (by omega)
    go_wp2_with fail
    refine wp_loop_rounds 1 ?_
    rw [rounds_succ]
    by_cases hs1 : sg = 1
    ·
     have d5 : ((sg : Int) == 1) = true := by rw [hs1]; rfl
     clear hs1
     go_wp2_with fail
     go_ret
     exact ⟨O4.out, rfl, R4.out⟩
    ·
     have d5 : ((sg : Int) == 1) = false := by rw [beq_eq_false_iff_ne]; omega
     clear hs1
     go_wp2_with fail
     go_ret
     exact ⟨O4.out, rfl, R4.out⟩
   ·
    have dm : decide (0 ≤ (m : Int) - 1) = true := decide_eq_true (by omega)
    have dm1 : decide (1 ≤ (m : Int)) = true := decide_eq_true (by omega)
    have dm2 : decide (1 ≤ m) = true := decide_eq_true (by omega)
    go_wp2_with fail
    refine wp_loop_rounds 1 ?_
    rw [rounds_succ]
    by_cases hs1 : sg = 1
    ·
     have d5 : ((sg : Int) == 1) = true := by rw [hs1]; rfl
     clear hs1
     go_wp2_with fail
     go_ret
     exact ⟨O4.out, rfl, R4.out⟩
    ·
     have d5 : ((sg : Int) == 1) = false := by rw [beq_eq_false_iff_ne]; omega
     clear hs1
     go_wp2_with fail
     go_ret
     exact ⟨O4.out, rfl, R4.out⟩
  ·
   have d2 : decide ((1 : Int) < sg) = false := decide_eq_false (by omega)
   have d2n : decide (1 < sg) = false := decide_eq_false h1
   have HBS : Hid (badS (decide (8 < n) || decide (1 < sg)) s3 = s3) := Lib.hid (by rw [d1n, d2n]; rfl)
   obtain ⟨r3, l3, b3⟩ := s3
   cases b3 with
   | true =>
    obtain rfl : P = (0, ⟨r3, l3, true⟩) := by
     rw [HP3.out]
     unfold largeT
     rw [HBS.out]
     dsimp only
     rw [if_pos rfl]
     split <;> rfl
    clear HP3 HOK HM h8 h1 HBS
    obtain ⟨ab, _, _, hbb⟩ := R3.out
    have cb : w3.cell? ⟨rb, 3, none⟩ = some (.bool true) := hbb.cell 3
    have wm : IntKind.i64.wrap ((m : Int) - 1) = (m : Int) - 1 := by rw [IntKind.wrap_i64]; omega
    clear hbb
    by_cases hm0 : m = 0
    ·
     have dm : decide (0 ≤ (m : Int) - 1) = false := decide_eq_false (by omega)
     have dm1 : decide (1 ≤ (m : Int)) = false := decide_eq_false (by omega)
     have dm2 : decide (1 ≤ m) = false := decide_eq_false (by omega)
     go_wp2_with fail
     refine wp_loop_rounds 1 ?_
     rw [rounds_succ]
     by_cases hs1 : sg = 1
     ·
      have d5 : ((sg : Int) == 1) = true := by rw [hs1]; rfl
      clear hs1
      go_wp2_with fail
      go_ret
      exact ⟨O3.out, rfl, R3.out⟩
     ·
      have d5 : ((sg : Int) == 1) = false := by rw [beq_eq_false_iff_ne]; omega
      clear hs1
      go_wp2_with fail
      go_ret
      exact ⟨O3.out, rfl, R3.out⟩
    ·
     have dm : decide (0 ≤ (m : Int) - 1) = true := decide_eq_true (by omega)
     have dm1 : decide (1 ≤ (m : Int)) = true := decide_eq_true (by omega)
     have dm2 : decide (1 ≤ m) = true := decide_eq_true (by omega)
     go_wp2_with fail
     refine wp_loop_rounds 1 ?_
     rw [rounds_succ]
     by_cases hs1 : sg = 1
     ·
      have d5 : ((sg : Int) == 1) = true := by rw [hs1]; rfl
      clear hs1
      go_wp2_with fail
      go_ret
      exact ⟨O3.out, rfl, R3.out⟩
     ·
      have d5 : ((sg : Int) == 1) = false := by rw [beq_eq_false_iff_ne]; omega
      clear hs1
      go_wp2_with fail
      go_ret
      exact ⟨O3.out, rfl, R3.out⟩
   | false =>
    have hbl := (HOK.out rfl).1
    have hn8 : n ≤ 8 := by omega
    have hmn : m = n := by rw [HM.out]; exact hbl
    have hm8 : m ≤ 8 := by omega
    clear hbl hmn hm9
    obtain ⟨a3, _, _, hb3⟩ := R3.out
    have HB3 := Lib.hid hb3
    clear hb3
    have wm : IntKind.i64.wrap ((m : Int) - 1) = (m : Int) - 1 := by rw [IntKind.wrap_i64]; omega
    have HPE : Hid (P = (toI64 (if sg = 1 then -(leN b : Int) else (leN b : Int)), ⟨r3, l3, false⟩)) := Lib.hid (by
     rw [HP3.out]
     unfold largeT
     rw [HBS.out]
     rfl)
    clear HP3 HBS HOK
    go_wp2_with fail
    go_loopw [6, 7] (fun u i wr => ∃ c : Nat, c ≤ m ∧ i = .int .i64 ((c : Int) - 1) ∧ u = .int .u64 (leN (b.drop c) : Nat) ∧ w3 = wr) (fun _ i _ => (intOf i + 1).toNat)
    case atStart => exact ⟨m, Nat.le_refl _, rfl, by rw [List.drop_eq_nil_of_le (by have := HM.out; omega)]; rfl, rfl⟩
    case round =>
     obtain ⟨c, hc, rfl, rfl, rfl⟩ := hrel
     have cb : w3.cell? ⟨rb, 3, none⟩ = some (.bool false) := HB3.out.cell 3
     by_cases hc0 : 0 < c
     ·
      obtain ⟨j, rfl⟩ : ∃ j, c = j + 1 := ⟨c - 1, by omega⟩
      have hji : (((j + 1 : Nat) : Int) - 1) = (j : Int) := by omega
      rw [hji]
      have hjb : j < b.length := by have := HM.out; omega
      have hx := fun W => index_byte b j hjb W
      have hdr : b.drop j = (b[j]'hjb) :: b.drop (j + 1) := List.drop_eq_getElem_cons hjb
      have hle : leN (b.drop j) = (b[j]'hjb).toNat + 256 * leN (b.drop (j + 1)) := by rw [hdr]; rfl
      have hll := leN_lt (b.drop (j + 1))
      have hl7 : (b.drop (j + 1)).length ≤ 7 := by rw [List.length_drop]; have := HM.out; omega
      have hm7 : leN (b.drop (j + 1)) < 72057594037927936 := Nat.lt_of_lt_of_le hll (Nat.pow_le_pow_right (by omega) hl7)
      have hdj := UInt8.toNat_lt (b[j]'hjb)
      have HLE := Lib.hid hle
      generalize leN (b.drop (j + 1)) = p at HLE hm7 ⊢
      generalize (b[j]'hjb).toNat = dj at hx HLE hdj
      have hor := or_u64a p dj hm7 hdj
      have hw5 : IntKind.u64.wrap (256 * (p : Int)) = 256 * (p : Int) := by rw [IntKind.wrap_u64]; omega
      clear hdr hle hll hl7 hjb
      go_wp2_with fail
      go_roundw
      case rel => exact ⟨j, by omega, rfl, by rw [HLE.out]; exact congrArg _ (by omega), trivial⟩
      case measure => simp [intOf]
     ·
      obtain rfl : c = 0 := by omega
      rw [List.drop_zero]
      have hb8 : b.length ≤ 8 := by have := HM.out; omega
      have hU9 : leN b < 256 ^ 8 := Nat.lt_of_lt_of_le (leN_lt b) (Nat.pow_le_pow_right (by omega) hb8)
      have hU8 : leN b < 18446744073709551616 := by omega
      clear hb8 hU9
      obtain ⟨U, hUe⟩ : ∃ U, U = leN b := ⟨_, rfl⟩
      have HUE := Lib.hid hUe
      rw [← hUe] at hU8 ⊢
      clear hUe
      by_cases hs1 : sg = 1
      ·
       have d5 : ((sg : Int) == 1) = true := by rw [hs1]; rfl
       obtain rfl : P = (toI64 (-(U : Int)), ⟨r3, l3, false⟩) := by rw [HPE.out, if_pos hs1, ← HUE.out]
       obtain ⟨V, hV⟩ : ∃ V, V = IntKind.u64.wrap (-(U : Int)) := ⟨_, rfl⟩
       obtain ⟨TT, hTT⟩ : ∃ TT, TT = toI64 (-(U : Int)) := ⟨_, rfl⟩
       have hVV : IntKind.i64.wrap V = TT := by rw [hTT, hV, IntKind.wrap_u64, IntKind.wrap_i64]; unfold toI64; omega
       have hV2 := hV.symm
       have HT := Lib.hid hTT
       clear hTT
       clear hs1 HPE hV HUE
       go_wp2_with fail
       go_ret
       exact ⟨O3.out, by rw [← HT.out]; rfl, R3.out⟩
      ·
       have d5 : ((sg : Int) == 1) = false := by rw [beq_eq_false_iff_ne]; omega
       obtain rfl : P = (toI64 (U : Int), ⟨r3, l3, false⟩) := by rw [HPE.out, if_neg hs1, ← HUE.out]
       have hVV : IntKind.i64.wrap (U : Int) = toI64 (U : Int) := by rw [IntKind.wrap_i64]; unfold toI64; omega
       clear hs1 HPE HUE
       go_wp2_with fail
       go_ret
       exact ⟨O3.out, rfl, R3.out⟩
end Go.Proofs.YtemlogadbopffaaGreat
