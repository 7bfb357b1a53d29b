/- (*reader).large. -/
import Derived.Test.YtoaimoemaoinhaaGreatDoorParse
namespace Go.Proofs.YtoaimoemaoinhaaGreatDoor
open Go.RowKit Go.Rt Go.Rw

theorem takeL_len {r a r1 : List UInt8} {n : Nat} (h : takeL r n = some (a, r1)) : a.length = n ∧ r = a ++ r1 := by
  unfold takeL at h
  split at h
  · cases h
    exact ⟨by rw [List.length_take]; omega, (List.take_append_drop n r).symm⟩
  · cases h
theorem lastZ_eq (b : List UInt8) (n : Nat) (h : b.length = n) (hn : 0 < n) : lastZ b = decide ((b[n - 1]'(by omega)).toNat = 0) := by
  subst h
  unfold lastZ
  rw [List.getD_eq_getElem?_getD, List.getElem?_eq_getElem (by omega)]
  rfl
set_option maxRecDepth 100000 in
set_option maxHeartbeats 2000000 in
theorem large_any {s : ByteArray} {rb p : Nat} {r0 : List UInt8} {w : World} (h : Rd s rb r0 p w) (hs : s.size ≤ 200000) :
    Calls Tryz.prog 157 #[.pointer (some ⟨rb, 0, none⟩)] w (RdR s rb p (largeP r0) (fun a => .int .i64 a) w) := by
  have R0 := Lib.hid h
  have O0 := Lib.hid (Only.refl [rb] w)
  obtain ⟨P, hP⟩ : ∃ P, P = largeP r0 := ⟨_, rfl⟩
  rw [← hP]
  have HP := Lib.hid hP
  clear h hP
  go_enter Tryz.func157, Tryz.ntmps157
  cases hq0 : numP r0 1 with
  | none =>
    have HC := Lib.hid (byte_any R0.out hs)
    rw [hq0] at HC
    have E0 := Lib.hid hq0
    clear hq0
    obtain rfl : P = none := by
        rw [HP.out]
        unfold largeP
        rw [E0.out]
    clear HP
    go_wp2_with fail
    refine HC.out.mono ?_
    rintro e vx ⟨ox, rfl⟩
    have OX := Lib.hid (O0.out.trans ox)
    clear ox
    go_wp2_with fail
    exact ⟨rfl, OX.out, rfl⟩
  | some q =>
    obtain ⟨n0, r1⟩ := q
    have hn0 := numP_lt hq0
    have HC := Lib.hid (byte_any R0.out hs)
    rw [hq0] at HC
    have E0 := Lib.hid hq0
    clear hq0
    go_wp2_with fail
    refine HC.out.mono ?_
    rintro e v1 ⟨ox, rfl, rx⟩
    have O1 := Lib.hid (O0.out.trans ox)
    have R1 := Lib.hid rx
    clear ox rx HC R0
    cases hq1 : numP r1 1 with
    | none =>
      have HC := Lib.hid (byte_any R1.out hs)
      rw [hq1] at HC
      have E1 := Lib.hid hq1
      clear hq1
      obtain rfl : P = none := by
          rw [HP.out]
          unfold largeP
          rw [E0.out]
          dsimp only
          rw [E1.out]
      clear HP
      go_wp2_with fail
      refine HC.out.mono ?_
      rintro e vx ⟨ox, rfl⟩
      have OX := Lib.hid (O1.out.trans ox)
      clear ox
      go_wp2_with fail
      exact ⟨rfl, OX.out, rfl⟩
    | some q =>
      obtain ⟨n1, r2⟩ := q
      have hn1 := numP_lt hq1
      have HC := Lib.hid (byte_any R1.out hs)
      rw [hq1] at HC
      have E1 := Lib.hid hq1
      clear hq1
      go_wp2_with fail
      refine HC.out.mono ?_
      rintro e v2 ⟨ox, rfl, rx⟩
      have O2 := Lib.hid (O1.out.trans ox)
      have R2 := Lib.hid rx
      clear ox rx HC R1
      by_cases hc : 4 ≤ n0 ∧ n0 ≤ 8 ∧ n1 ≤ 1
      · have C2 := Lib.hid hc
        obtain ⟨h4, h8, h9⟩ := hc
        have hc8 : n0 ≤ 8 := h8
        have d1 : decide (4 ≤ n0) = true := decide_eq_true h4
        have d1i : decide ((4 : Int) ≤ n0) = true := decide_eq_true (by omega)
        have d2 : decide (n0 ≤ 8) = true := decide_eq_true h8
        have d2i : decide ((n0 : Int) ≤ 8) = true := decide_eq_true (by omega)
        have d3 : decide ((n1 : Int) ≤ 1) = true := decide_eq_true (by omega)
        go_wp2_with fail
        refine (demand_any _ true _).mono ?_
        rintro e vy ⟨rfl, rfl⟩
        cases hq2 : takeL r2 n0 with
        | none =>
          have HC := Lib.hid (take_any R2.out n0 (by omega) hs)
          rw [hq2] at HC
          have E2 := Lib.hid hq2
          clear hq2
          obtain rfl : P = none := by
              rw [HP.out]
              unfold largeP
              rw [E0.out]
              dsimp only
              rw [E1.out]
              dsimp only
              rw [if_pos C2.out]
              rw [E2.out]
          clear HP
          go_wp2_with fail
          refine HC.out.mono ?_
          rintro e vx ⟨ox, rfl⟩
          have OX := Lib.hid (O2.out.trans ox)
          clear ox
          go_wp2_with fail
          exact ⟨rfl, OX.out, rfl⟩
        | some q =>
          obtain ⟨a2, r3⟩ := q
          have hl2 := takeL_len hq2
          have HC := Lib.hid (take_any R2.out n0 (by omega) hs)
          rw [hq2] at HC
          have E2 := Lib.hid hq2
          clear hq2
          go_wp2_with fail
          refine HC.out.mono ?_
          rintro e v3 ⟨ox, rfl, rx⟩
          have O3 := Lib.hid (O2.out.trans ox)
          have R3 := Lib.hid rx
          clear ox rx HC R2
          obtain ⟨hln, _⟩ := hl2
          have e1 : IntKind.i64.wrap ((n0 : Int) - 1) = ((n0 - 1 : Nat) : Int) := by rw [IntKind.wrap_i64]; omega
          have hx := fun W => index_byte a2 (n0 - 1) (by omega) W
          have hz : lastZ a2 = decide ((a2[n0 - 1]'(by omega)).toNat = 0) := by
            exact lastZ_eq a2 n0 hln (by omega)
          have HZ := Lib.hid hz
          have hd3 := UInt8.toNat_lt (a2[n0 - 1]'(by omega))
          generalize (a2[n0 - 1]'(by omega)).toNat = d at hx HZ hd3
          clear hz
          by_cases hd : d = 0
          · subst hd
            obtain rfl : P = none := by
                rw [HP.out]
                unfold largeP
                rw [E0.out]
                dsimp only
                rw [E1.out]
                dsimp only
                rw [if_pos C2.out]
                rw [E2.out]
                dsimp only
                rw [HZ.out]
                rfl
            clear HP
            go_wp2_with fail
            refine (demand_any _ false _).mono ?_
            rintro e vy ⟨rfl, rfl⟩
            go_wp2_with fail
            exact ⟨rfl, O3.out, rfl⟩
          · have HZ2 : Hid (lastZ a2 = false) := Lib.hid (by rw [HZ.out]; exact decide_eq_false hd)
            have hne : ((d : Int) != 0) = true := by rw [bne_iff_ne]; omega
            clear HZ
            go_wp2_with fail
            refine (demand_any _ true _).mono ?_
            rintro e vy ⟨rfl, rfl⟩
            clear hx
            go_wp2_with fail
            go_loopw [6, 7] (fun u i wr => ∃ c : Nat, c ≤ n0 ∧ i = .int .i64 ((c : Int) - 1) ∧ u = .int .u64 (leN (a2.drop c) : Nat) ∧ v3 = wr) (fun _ i _ => (intOf i + 1).toNat)
            case atStart => exact ⟨n0, Nat.le_refl _, by congr 1; omega, by rw [List.drop_eq_nil_of_le (by omega)]; rfl, rfl⟩
            case round =>
              obtain ⟨c, hc, rfl, rfl, rfl⟩ := hrel
              by_cases hc0 : 0 < c
              · obtain ⟨j, rfl⟩ : ∃ j, c = j + 1 := ⟨c - 1, by omega⟩
                have hji : (((j + 1 : Nat) : Int) - 1) = (j : Int) := by omega
                rw [hji]
                have hx := fun W => index_byte a2 j (by omega) W
                have hdr : a2.drop j = (a2[j]'(by omega)) :: a2.drop (j + 1) := List.drop_eq_getElem_cons (by omega)
                have hle : leN (a2.drop j) = (a2[j]'(by omega)).toNat + 256 * leN (a2.drop (j + 1)) := by rw [hdr]; rfl
                have hll := leN_lt (a2.drop (j + 1))
                have hl7 : (a2.drop (j + 1)).length ≤ 7 := by rw [List.length_drop]; omega
                have hm7 : leN (a2.drop (j + 1)) < 72057594037927936 := Nat.lt_of_lt_of_le hll (Nat.pow_le_pow_right (by omega) hl7)
                have hdj := UInt8.toNat_lt (a2[j]'(by omega))
                have HLE := Lib.hid hle
                generalize leN (a2.drop (j + 1)) = m at HLE hm7 ⊢
                generalize (a2[j]'(by omega)).toNat = dj at hx HLE hdj
                have hor := or_u64 m dj hm7 hdj
                clear hdr hle hll hl7
                go_wp2_with fail
                go_roundw
                case rel => exact ⟨j, by omega, rfl, by rw [HLE.out]; exact congrArg _ (by omega), trivial⟩
                case measure => simp [intOf]
              · obtain rfl : c = 0 := by omega
                rw [List.drop_zero]
                have HU := Lib.hid (leN_lt a2)
                have hU8 : leN a2 < 18446744073709551616 := Nat.lt_of_lt_of_le (leN_lt a2) (by rw [hln]; exact Nat.pow_le_pow_right (by omega) hc8)
                obtain ⟨U, hUe⟩ : ∃ U, U = leN a2 := ⟨_, rfl⟩
                have HUE := Lib.hid hUe
                rw [← hUe] at hU8 ⊢
                clear hUe HU
                by_cases hs1 : n1 = 1
                · subst hs1
                  by_cases ha : U ≤ 9223372036854775808
                  · by_cases hb : 2147483648 < U
                    · obtain rfl : P = some (-(U : Int), r3) := by
                          rw [HP.out]
                          unfold largeP
                          rw [E0.out]
                          dsimp only
                          rw [E1.out]
                          dsimp only
                          rw [if_pos C2.out]
                          rw [E2.out]
                          dsimp only
                          rw [HZ2.out, if_neg (by decide), if_pos rfl, ← HUE.out, if_pos ⟨ha, hb⟩]
                      clear HP
                      have d1 : decide (U ≤ 9223372036854775808) = true := decide_eq_true ha
                      have d1i : decide ((U : Int) ≤ 9223372036854775808) = true := decide_eq_true (by omega)
                      have d2 : decide (2147483648 < U) = true := decide_eq_true hb
                      have d2i : decide (2147483648 < (U : Int)) = true := decide_eq_true (by omega)
                      have hng : IntKind.u64.wrap (-(U : Int)) = 18446744073709551616 - (U : Int) := by rw [IntKind.wrap_u64]; omega
                      have hng2 : IntKind.i64.wrap (18446744073709551616 - (U : Int)) = -(U : Int) := by rw [IntKind.wrap_i64]; omega
                      go_wp2_with fail
                      refine (demand_any _ true _).mono ?_
                      rintro e vy ⟨rfl, rfl⟩
                      go_wp2_with fail
                      go_ret
                      exact ⟨O3.out, rfl, R3.out⟩
                    · obtain rfl : P = none := by
                          rw [HP.out]
                          unfold largeP
                          rw [E0.out]
                          dsimp only
                          rw [E1.out]
                          dsimp only
                          rw [if_pos C2.out]
                          rw [E2.out]
                          dsimp only
                          rw [HZ2.out, if_neg (by decide), if_pos rfl, ← HUE.out, if_neg (by omega)]
                      clear HP
                      have d1 : decide (U ≤ 9223372036854775808) = true := decide_eq_true ha
                      have d1i : decide ((U : Int) ≤ 9223372036854775808) = true := decide_eq_true (by omega)
                      have d2 : decide (2147483648 < U) = false := decide_eq_false hb
                      have d2i : decide (2147483648 < (U : Int)) = false := decide_eq_false (by omega)
                      go_wp2_with fail
                      refine (demand_any _ false _).mono ?_
                      rintro e vy ⟨rfl, rfl⟩
                      go_wp2_with fail
                      exact ⟨rfl, O3.out, rfl⟩
                  · obtain rfl : P = none := by
                        rw [HP.out]
                        unfold largeP
                        rw [E0.out]
                        dsimp only
                        rw [E1.out]
                        dsimp only
                        rw [if_pos C2.out]
                        rw [E2.out]
                        dsimp only
                        rw [HZ2.out, if_neg (by decide), if_pos rfl, ← HUE.out, if_neg (by omega)]
                    clear HP
                    have d1 : decide (U ≤ 9223372036854775808) = false := decide_eq_false ha
                    have d1i : decide ((U : Int) ≤ 9223372036854775808) = false := decide_eq_false (by omega)
                    go_wp2_with fail
                    refine (demand_any _ false _).mono ?_
                    rintro e vy ⟨rfl, rfl⟩
                    go_wp2_with fail
                    exact ⟨rfl, O3.out, rfl⟩
                · obtain rfl : n1 = 0 := by omega
                  clear hs1
                  by_cases ha : U < 9223372036854775808
                  · by_cases hb : 2147483648 ≤ U
                    · obtain rfl : P = some ((U : Int), r3) := by
                          rw [HP.out]
                          unfold largeP
                          rw [E0.out]
                          dsimp only
                          rw [E1.out]
                          dsimp only
                          rw [if_pos C2.out]
                          rw [E2.out]
                          dsimp only
                          rw [HZ2.out, if_neg (by decide), if_neg (by decide), ← HUE.out, if_pos ⟨ha, hb⟩]
                      clear HP
                      have d1 : decide (U < 9223372036854775808) = true := decide_eq_true ha
                      have d1i : decide ((U : Int) < 9223372036854775808) = true := decide_eq_true (by omega)
                      have d2 : decide (2147483648 ≤ U) = true := decide_eq_true hb
                      have d2i : decide (2147483648 ≤ (U : Int)) = true := decide_eq_true (by omega)
                      go_wp2_with fail
                      refine (demand_any _ true _).mono ?_
                      rintro e vy ⟨rfl, rfl⟩
                      go_wp2_with fail
                      go_ret
                      exact ⟨O3.out, rfl, R3.out⟩
                    · obtain rfl : P = none := by
                          rw [HP.out]
                          unfold largeP
                          rw [E0.out]
                          dsimp only
                          rw [E1.out]
                          dsimp only
                          rw [if_pos C2.out]
                          rw [E2.out]
                          dsimp only
                          rw [HZ2.out, if_neg (by decide), if_neg (by decide), ← HUE.out, if_neg (by omega)]
                      clear HP
                      have d1 : decide (U < 9223372036854775808) = true := decide_eq_true ha
                      have d1i : decide ((U : Int) < 9223372036854775808) = true := decide_eq_true (by omega)
                      have d2 : decide (2147483648 ≤ U) = false := decide_eq_false hb
                      have d2i : decide (2147483648 ≤ (U : Int)) = false := decide_eq_false (by omega)
                      go_wp2_with fail
                      refine (demand_any _ false _).mono ?_
                      rintro e vy ⟨rfl, rfl⟩
                      go_wp2_with fail
                      exact ⟨rfl, O3.out, rfl⟩
                  · obtain rfl : P = none := by
                        rw [HP.out]
                        unfold largeP
                        rw [E0.out]
                        dsimp only
                        rw [E1.out]
                        dsimp only
                        rw [if_pos C2.out]
                        rw [E2.out]
                        dsimp only
                        rw [HZ2.out, if_neg (by decide), if_neg (by decide), ← HUE.out, if_neg (by omega)]
                    clear HP
                    have d1 : decide (U < 9223372036854775808) = false := decide_eq_false ha
                    have d1i : decide ((U : Int) < 9223372036854775808) = false := decide_eq_false (by omega)
                    go_wp2_with fail
                    refine (demand_any _ false _).mono ?_
                    rintro e vy ⟨rfl, rfl⟩
                    go_wp2_with fail
                    exact ⟨rfl, O3.out, rfl⟩
      · have C2 := Lib.hid hc
        obtain rfl : P = none := by
            rw [HP.out]
            unfold largeP
            rw [E0.out]
            dsimp only
            rw [E1.out]
            dsimp only
            rw [if_neg C2.out]
        clear HP
        by_cases h4 : 4 ≤ n0
        · by_cases h8 : n0 ≤ 8
          · have h9 : ¬ n1 ≤ 1 := fun h => hc ⟨h4, h8, h⟩
            have d1 : decide (4 ≤ n0) = true := decide_eq_true h4
            have d1i : decide ((4 : Int) ≤ n0) = true := decide_eq_true (by omega)
            have d2 : decide (n0 ≤ 8) = true := decide_eq_true h8
            have d2i : decide ((n0 : Int) ≤ 8) = true := decide_eq_true (by omega)
            have d3 : decide ((n1 : Int) ≤ 1) = false := decide_eq_false (by omega)
            clear hc
            go_wp2_with fail
            refine (demand_any _ false _).mono ?_
            rintro e vy ⟨rfl, rfl⟩
            go_wp2_with fail
            exact ⟨rfl, O2.out, rfl⟩
          · have d1 : decide (4 ≤ n0) = true := decide_eq_true h4
            have d1i : decide ((4 : Int) ≤ n0) = true := decide_eq_true (by omega)
            have d2 : decide (n0 ≤ 8) = false := decide_eq_false h8
            have d2i : decide ((n0 : Int) ≤ 8) = false := decide_eq_false (by omega)
            clear hc
            go_wp2_with fail
            refine (demand_any _ false _).mono ?_
            rintro e vy ⟨rfl, rfl⟩
            go_wp2_with fail
            exact ⟨rfl, O2.out, rfl⟩
        · have d1 : decide (4 ≤ n0) = false := decide_eq_false h4
          have d1i : decide ((4 : Int) ≤ n0) = false := decide_eq_false (by omega)
          clear hc
          go_wp2_with fail
          refine (demand_any _ false _).mono ?_
          rintro e vy ⟨rfl, rfl⟩
          go_wp2_with fail
          exact ⟨rfl, O2.out, rfl⟩
end Go.Proofs.YtoaimoemaoinhaaGreatDoor
