/- The walk of FragsWhole. -/
import Derived.Test.YtbddggdbhfmlnaaPieceP
import Derived.IntWalk
namespace Go.Proofs.Ytbddggdbhfmlnaa
open Go.RowKit Go.Rt Go.Rw

theorem whole_no (id most : Int) (data : ByteArray) (w : World) (hs : data.size ≤ 9223372036854775807) (h : 262144 < data.size ∨ cutBad id most = true) :
    Calls Try.prog 4 #[.int .i64 id, .string data, .int .i64 most] w fun e w' => e = .returned (.bool true) ∧ Below w.heap.size w w' := by
  by_cases h0 : 262144 < data.size
  · have h0' : (262144 : Int) < data.size := by omega
    clear h
    go_enter Try.func4, Try.ntmps4
    go_wp2_with fail
    refine (awake_any _).mono ?_
    rintro e w1 ⟨rfl, b1⟩
    have B1 := Lib.hid b1
    clear b1
    go_wp2
    go_ret
    exact ⟨rfl, B1.out⟩
  · have h0' : ¬ (262144 : Int) < data.size := by omega
    have hb : cutBad id most = true := h.resolve_left h0
    by_cases h1 : id < 1
    · clear h hb
      go_enter Try.func4, Try.ntmps4
      go_wp2_with fail
      refine (awake_any _).mono ?_
      rintro e w1 ⟨rfl, b1⟩
      have B1 := Lib.hid b1
      clear b1
      go_wp2
      go_ret
      exact ⟨rfl, B1.out⟩
    · by_cases h2 : 2147483647 < id
      · clear h hb
        go_enter Try.func4, Try.ntmps4
        go_wp2_with fail
        refine (awake_any _).mono ?_
        rintro e w1 ⟨rfl, b1⟩
        have B1 := Lib.hid b1
        clear b1
        go_wp2
        go_ret
        exact ⟨rfl, B1.out⟩
      · by_cases h3 : most < 1
        · clear h hb
          go_enter Try.func4, Try.ntmps4
          go_wp2_with fail
          refine (awake_any _).mono ?_
          rintro e w1 ⟨rfl, b1⟩
          have B1 := Lib.hid b1
          clear b1
          go_wp2
          go_ret
          exact ⟨rfl, B1.out⟩
        · have h4 := cut_bad_of hb h1 h2 h3
          clear h hb
          go_enter Try.func4, Try.ntmps4
          go_wp2_with fail
          refine (awake_any _).mono ?_
          rintro e w1 ⟨rfl, b1⟩
          have B1 := Lib.hid b1
          clear b1
          go_wp2
          go_ret
          exact ⟨rfl, B1.out⟩

set_option maxRecDepth 100000 in
set_option maxHeartbeats 4000000 in
theorem whole_yes (id : Int) (most : Nat) (data : ByteArray) (w : World) (hi1 : 1 ≤ id) (hi2 : id ≤ 2147483647) (hm : 1 ≤ most) (hm2 : most ≤ 4096) (hd : data.size ≤ 262144) :
    Calls Try.prog 4 #[.int .i64 id, .string data, .int .i64 most] w fun e w' => e = .returned (.bool true) ∧ Below w.heap.size w w' := by
  have d1 : ¬ id < 1 := by omega
  have d2 : ¬ 2147483647 < id := by omega
  have d3 : ¬ (most : Int) < 1 := by omega
  have d4 : ¬ 4096 < (most : Int) := by omega
  have d5 : ¬ 262144 < (data.size : Int) := by omega
  have HC := Lib.hid (cut_ok id data most)
  have hml := many_le data most hm
  have hmp := many_pos data most
  have HE := Lib.hid (at_end data most hm)
  have HLP := Lib.hid (last_pos data most hm)
  have HIN := Lib.hid (fun k => at_inner data most k hm)
  have HG := Lib.hid (cutL_get id data most)
  have HLN := Lib.hid (cutL_len id data most)
  obtain ⟨N, hNe⟩ : ∃ N, N = manyK data most := ⟨_, rfl⟩
  rw [← hNe] at hml hmp HE HLP HIN HG HLN
  clear hNe
  have e1 : (id != id) = false := by simp
  go_enter Try.func4, Try.ntmps4
  go_wp2_with fail
  refine (HC.out w hi1 hi2 hm hm2 hd).mono ?_
  rintro e w1 ⟨v, rfl, s1, b1⟩
  obtain ⟨g, cap, rfl⟩ : ∃ g cap, v = .slice (some ⟨g, 0, none⟩) N cap := by
    rcases s1.form with ⟨_, h0⟩ | ⟨g0, cap0, e, _⟩
    · have := HLN.out; rw [h0] at this; simp at this; omega
    · rw [HLN.out] at e; exact ⟨_, _, e⟩
  have S1 := Lib.hid s1
  have B1 := Lib.hid b1
  have hN0 : ((N : Int) == 0) = false := by simp; omega
  clear s1 b1
  go_wp2
  go_loopw [9, 10] (fun a i wr => ∃ k n : Nat, k ≤ N ∧ i = .int .i64 k ∧ a = .int .i64 (atK data most k) ∧ wr = w1.drewN n) (fun _ i _ => N - (intOf i).toNat)
  case atStart => exact ⟨0, 0, Nat.zero_le _, rfl, by simp [atK], rfl⟩
  case round =>
    obtain ⟨k, n, hk, rfl, rfl, rfl⟩ := hrel
    by_cases hlt : k < N
    · have hkl : k < (cutL id data most).length := by rw [HLN.out]; exact hlt
      have c0 := S1.out.cell fc_len k 0 hkl (by omega)
      have c1 := S1.out.cell fc_len k 1 hkl (by omega)
      have c2 := S1.out.cell fc_len k 2 hkl (by omega)
      have c3 := S1.out.cell fc_len k 3 hkl (by omega)
      rw [HG.out k hkl] at c0 c1 c2 c3
      simp only [fc, List.getElem?_cons_zero, List.getElem?_cons_succ, Nat.add_zero] at c0 c1 c2 c3
      have hps := part_size data most k
      have hpe := part_eq data most k
      obtain ⟨m1, m2, m3⟩ := at_mono data most k
      have hin := HIN.out k
      obtain ⟨p, hp⟩ : ∃ p, p = partK data most k := ⟨_, rfl⟩
      obtain ⟨a, ha⟩ : ∃ a, a = atK data most k := ⟨_, rfl⟩
      obtain ⟨b, hb⟩ : ∃ b, b = atK data most (k + 1) := ⟨_, rfl⟩
      rw [← hp] at c3 hps hpe
      rw [← ha] at hps hpe m1 m3 hin ⊢
      rw [← hb] at hps hpe m1 m2 m3 hin
      have hab : (a : Int) + p.size = b := by omega
      have HAB : Hid ((a : Int) + p.size = (atK data most (k + 1) : Nat)) := by rw [← hb]; exact hab
      have hk1 : ((k : Int) == 0) = decide (k = 0) := by
        rw [Bool.eq_iff_iff]; simp
      have hle : ((N : Int) - k != (N : Int) - k) = false := by simp
      have hn1 : decide ((most : Int) < p.size) = false := by simp; omega
      have hn1' : decide (most < p.size) = false := by simp; omega
      have hn2 : decide ((data.size : Int) - a < p.size) = false := by simp; omega
      have hstr : (p.toList == (data.extract a (a + p.size)).toList) = true := by
        rw [show a + p.size = b by omega, ← hpe]; simp
      have hps1 : a + p.size ≤ data.size := by omega
      have HPS : Hid (k + 1 < N → p.size = most) := by intro h; have := hin h; omega
      clear hps hpe hp ha hb hab hin m1 m2 m3
      generalize decide (k = 0) = fb at c1 hk1
      by_cases hlast : k + 1 < N
      · have hl1 : ((p.size : Int) != (most : Int)) = false := by simp [HPS.out hlast]
        have hl2 : decide ((k : Int) + 1 < N) = true := by simp; omega
        have hl3 : decide (k + 1 < N) = true := by simp; omega
        cases fb
        all_goals
          go_wp2_with fail
          have x1 : IntKind.i64.wrap ((N : Int) - k) = (N : Int) - k := IntWalk.i64_in _ (by omega)
          have x2 : IntKind.i64.wrap ((k : Int) + 1) = (k : Int) + 1 := IntWalk.i64_in _ (by omega)
          have x3 : IntKind.i64.wrap ((data.size : Int) - a) = (data.size : Int) - a := IntWalk.i64_in _ (by omega)
          have x4 : IntKind.i64.wrap ((a : Int) + p.size) = (a : Int) + p.size := IntWalk.i64_in _ (by omega)
          have x5 : ((a : Int) + p.size).toNat = a + p.size := by omega
          have x6 : (0 : Int) ≤ (a : Int) + p.size := by omega
          have x7 : (a : Int) + p.size ≤ data.size := by omega
          have x8 : (a : Int) ≤ (a : Int) + p.size := by omega
          go_quiet (fail)
          clear x1 x2 x3 x4 x5
          go_wp2
          go_roundw
          case rel => exact ⟨k + 1, _, by omega, by go_num, by rw [HAB.out], rfl⟩
          case measure => simp [intOf]; omega
      · have hl2 : decide ((k : Int) + 1 < N) = false := by simp; omega
        have hl3 : decide (k + 1 < N) = false := by simp; omega
        cases fb
        all_goals
          go_wp2_with fail
          have x1 : IntKind.i64.wrap ((N : Int) - k) = (N : Int) - k := IntWalk.i64_in _ (by omega)
          have x2 : IntKind.i64.wrap ((k : Int) + 1) = (k : Int) + 1 := IntWalk.i64_in _ (by omega)
          have x3 : IntKind.i64.wrap ((data.size : Int) - a) = (data.size : Int) - a := IntWalk.i64_in _ (by omega)
          have x4 : IntKind.i64.wrap ((a : Int) + p.size) = (a : Int) + p.size := IntWalk.i64_in _ (by omega)
          have x5 : ((a : Int) + p.size).toNat = a + p.size := by omega
          have x6 : (0 : Int) ≤ (a : Int) + p.size := by omega
          have x7 : (a : Int) + p.size ≤ data.size := by omega
          have x8 : (a : Int) ≤ (a : Int) + p.size := by omega
          go_quiet (fail)
          clear x1 x2 x3 x4 x5
          go_wp2
          go_roundw
          case rel => exact ⟨k + 1, _, by omega, by go_num, by rw [HAB.out], rfl⟩
          case measure => simp [intOf]; omega
    · obtain rfl : k = N := by omega
      rw [HE.out]
      have hq : ((data.size : Int) == data.size) = true := by simp
      have hdr : Below w.heap.size w (w1.drewN n) := ⟨B1.out.os, B1.out.tape, B1.out.output, B1.out.size, B1.out.block⟩
      have HDR := Lib.hid hdr
      clear hdr
      by_cases h1 : k = 1
      · have hk1 : ((k : Int) == 1) = true := by simp [h1]
        clear h1
        go_wp2_with fail
        refine (awake_any _).mono ?_
        rintro e w4 ⟨rfl, b4⟩
        have B4 : Hid (Below w.heap.size w w4) := Lib.hid (HDR.out.trans (b4.mono HDR.out.size))
        clear b4
        go_wp2
        go_ret
        exact ⟨rfl, B4.out⟩
      · have hk1 : ((k : Int) == 1) = false := by simp; omega
        have hkl : k - 1 < (cutL id data most).length := by rw [HLN.out]; omega
        have c3 := S1.out.cell fc_len (k - 1) 3 hkl (by omega)
        rw [HG.out _ hkl] at c3
        have hlp := HLP.out (by omega)
        simp only [fc, List.getElem?_cons_zero, List.getElem?_cons_succ] at c3
        have hlp' : (0 : Int) < (partK data most (k - 1)).size := by omega
        have hb1 : 1 ≤ k := by omega
        clear h1 hlp
        go_wp2_with fail
        refine (awake_any _).mono ?_
        rintro e w4 ⟨rfl, b4⟩
        have B4 : Hid (Below w.heap.size w w4) := Lib.hid (HDR.out.trans (b4.mono HDR.out.size))
        clear b4
        go_wp2
        go_ret
        exact ⟨rfl, B4.out⟩

theorem whole_any (id most : Int) (data : ByteArray) (w : World) (hs : data.size ≤ 9223372036854775807) :
    Calls Try.prog 4 #[.int .i64 id, .string data, .int .i64 most] w fun e w' => e = .returned (.bool true) ∧ Below w.heap.size w w' := by
  by_cases hd : 262144 < data.size
  · exact whole_no id most data w hs (.inl hd)
  · cases hb : cutBad id most
    · obtain ⟨h1, h2, h3, h4⟩ := cut_ok_of hb
      obtain ⟨k, rfl⟩ := Int.eq_ofNat_of_zero_le (show 0 ≤ most by omega)
      exact whole_yes id k data w h1 h2 (by omega) (by omega) (by omega)
    · exact whole_no id most data w hs (.inr hb)
end Go.Proofs.Ytbddggdbhfmlnaa
