/- The walk of BlobsQuiet. -/
import Derived.Test.YtfgnagnnmibmaaaZeros
namespace Go.Proofs.Ytfgnagnnmibmaaa
open Go.RowKit Go.Mp Go.Rw

theorem below_set {n : Nat} {w w' : World} {g o : Nat} {u : Value} (h : Below n w w') (hg : n ≤ g) : Below n w (w'.setCell ⟨g, o, none⟩ u) :=
  h.setCell (by simpa using hg) _

set_option maxRecDepth 100000 in
set_option maxHeartbeats 400000 in
theorem quiet_no {v : Value} {ops : List OpD} (w : World) (h : OpsAt w v ops) (hfit : OpsFit ops) (id : Int) (hsm : smallB ops = false) :
    Calls Try.prog 6 #[v, .int .i64 id] w fun e w' => e = .returned (.bool true) ∧ Below w.heap.size w w' := by
  have H1 := Lib.hid h
  have H2 := Lib.hid hfit
  clear h hfit
  go_enter Try.func6, Try.ntmps6
  go_wp2_with (first
    | (go_at_call 9; refine (large_any _ H1.out H2.out).mono ?_; rintro e w' ⟨rfl, rfl⟩)
    | (go_at_call 10; refine (awake_any _).mono ?_; rintro e w1 ⟨rfl, b1⟩; have B1 := Lib.hid b1; clear b1))
  go_ret
  exact ⟨rfl, B1.out⟩

set_option maxRecDepth 100000 in
set_option maxHeartbeats 1000000 in
theorem quiet_yes {v : Value} {ops : List OpD} (w : World) (h : OpsAt w v ops) (hfit : OpsFit ops) (id : Int) (hsm : smallB ops = true) :
    Calls Try.prog 6 #[v, .int .i64 id] w fun e w' => e = .returned (.bool true) ∧ Below w.heap.size w w' := by
  have hops : ops.length ≤ 400 := by simp [smallB] at hsm; exact hsm.1
  have H1 := Lib.hid h
  have H2 := Lib.hid hfit
  obtain ⟨sa, sn, sc, rfl⟩ : ∃ sa sn sc, v = .slice sa sn sc := by
    rcases h with ⟨_, sa, cap, rfl⟩ | ⟨b, o, cap, rfl, _⟩
    · exact ⟨_, _, _, rfl⟩
    · exact ⟨_, _, _, rfl⟩
  obtain rfl := h.len
  clear h hfit
  go_enter Try.func6, Try.ntmps6
  go_wp2_with (go_at_call 9; refine (large_any _ H1.out H2.out).mono ?_; rintro e w' ⟨rfl, rfl⟩)
  refine (new_any _).mono ?_
  rintro e w1 ⟨rfl, s1, b1⟩
  have z1 := b1.size
  have T1 : Hid (Two w.heap.size (w1.alloc (.cells #[.slice none 0 0, .int .i64 0] 32)) (w.heap.size + 2) w.heap.size (w.heap.size + 1) w.heap.size w1.heap.size [] 0 [] 0) := Lib.hid (two_start (Nat.le_refl _) s1 z1)
  have B1 : Hid (Below w.heap.size w (w1.alloc (.cells #[.slice none 0 0, .int .i64 0] 32))) := Lib.hid (b1.alloc z1 _)
  clear s1 b1
  go_wp2_with fail
  go_loopw [7] (fun i wr => RelP w (w.heap.size + 2) w.heap.size (w.heap.size + 1) w.heap.size w1.heap.size ops.length i wr) (fun i _ => ops.length - (intOf i).toNat)
  case atStart => exact ⟨0, [], 0, Nat.zero_le _, rfl, T1.out, inv_nil, B1.out⟩
  case round =>
    obtain ⟨k, L, g, hk, rfl, T, I, B⟩ := hrel
    have BB := Lib.hid B
    by_cases hlt : k < ops.length
    · obtain ⟨b, o, rfl, hlen, q0, q1, q2⟩ := H1.out.get k hlt
      have p0 := cell_keep q0 B
      have p1 := cell_keep q1 B
      have p2 := cell_keep q2 B
      clear B q0 q1 q2
      have hf := H2.out _ (List.getElem_mem hlt)
      go_wp2_with fail
      refine (done_any _ T I (by omega) _ _ _ hf.1 hf.2.1 hf.2.2).mono ?_
      rintro e w3 ⟨rfl, ⟨L', g', T3, I'⟩, F⟩
      have B3 := Lib.hid (BB.out.trans F.bel)
      have HI := Lib.hid I'
      have hLl : L'.length ≤ 401 := by have := I'.len; omega
      clear F T I I' p0 p1 p2 hf
      go_wp2_with fail
      refine (real_get _ T3.real HI.out id).mono ?_
      rintro e w4 ⟨rfl, b4⟩
      have T4 := T3.below b4
      have B4 := Lib.hid (B3.out.trans (b4.mono T3.z0))
      clear b4 T3
      go_wp2_with fail
      refine (real_count _ T4.real HI.out id).mono ?_
      rintro e w' ⟨rfl, rfl⟩
      go_wp2_with fail
      refine (real_ids _ T4.real HI.out (by omega)).mono ?_
      rintro e w5 ⟨v5, rfl, s5, b5⟩
      obtain ⟨_, sv, scap, rfl⟩ := (s5.at iv_len).len
      rw [idL_len] at s5 ⊢
      have B5 := Lib.hid b5
      have S5 := Lib.hid s5
      have hz5 := b5.size
      clear s5 b5
      go_wp2_with fail
      go_loopw [9] (fun i wr => ∃ j : Nat, j ≤ L'.length ∧ i = .int .i64 j ∧ Below w4.heap.size w4 wr ∧ ∃ vals : List Int, vals.length = L'.length ∧ Sl wr w4.heap.size 3 1 iv (.slice sv L'.length scap) vals) (fun i _ => L'.length - (intOf i).toNat)
      case atStart => exact ⟨0, Nat.zero_le _, rfl, B5.out, idL L', idL_len L', S5.out⟩
      case round =>
        obtain ⟨j, hj, rfl, b6, vals, hvl, s6⟩ := hrel
        by_cases hjl : j < L'.length
        · rcases s6.form with ⟨_, rfl⟩ | ⟨gg, cap, e, hg1, hg2, _⟩
          · simp at hvl; omega
          · simp only [Value.slice.injEq] at e
            obtain ⟨rfl, hLv, rfl⟩ := e
            have c0 := Sl.cell s6 iv_len j 0 (by omega) (by omega)
            have f0 := Sl.frozen s6 j
            rw [hLv] at s6
            have s7 := Sl.store s6 iv_len j 0 (by omega) (by omega) (.int .i64 (-5)) (-5) rfl
            simp only [iv, List.getElem?_cons_zero, Nat.mul_one, Nat.add_zero] at c0 s7
            rw [← hLv] at s7
            have HS7 := Lib.hid s7
            have HB7 : Hid (Below w4.heap.size w4 (wr.setCell ⟨gg, j, none⟩ (.int .i64 (-5)))) := Lib.hid (below_set b6 hg1)
            have HVL := Lib.hid hvl
            obtain ⟨y, c1⟩ : ∃ y : Int, wr.cell? ⟨gg, j, none⟩ = some (.int .i64 y) := ⟨_, c0⟩
            clear c0 s7 s6 b6 hvl hLv
            go_wp2
            go_roundw
            case rel => exact ⟨j + 1, by omega, by go_num, HB7.out, _, by rw [List.length_set]; exact HVL.out, HS7.out⟩
            case measure => simp [intOf]; omega
        · have T6 := T4.below b6
          have B6 := Lib.hid (B4.out.trans (b6.mono T4.z0))
          clear s6 b6 hvl
          obtain ⟨W7, hmk, hcv, b7⟩ := make_zeros wr
          have T7 := T6.below b7
          have B7 := Lib.hid (B6.out.trans (b7.mono T6.z0))
          clear b7 T6
          go_wp2_with fail
          refine (refuse_put _ T7 HI.out (by omega)).mono ?_
          rintro e w8 ⟨rfl, T8, F8⟩
          have B8 := Lib.hid (B7.out.trans F8.bel)
          clear F8 hmk hcv T7
          go_wp2_with fail
          refine (refuse_keep _ T8 HI.out (by omega) (-1) (by omega)).mono ?_
          rintro e w9 ⟨rfl, T9, F9⟩
          have B9 := Lib.hid (B8.out.trans F9.bel)
          clear F9 T8
          go_wp2_with fail
          refine (refuse_drop _ T9 HI.out (by omega) 0 (by omega)).mono ?_
          rintro e w10 ⟨rfl, T10, F10⟩
          have B10 := Lib.hid (B9.out.trans F10.bel)
          clear F10 T9
          go_wp2
          go_roundw
          case rel => exact ⟨k + 1, L', g', by omega, by go_num, T10, HI.out, B10.out⟩
          case measure => simp [intOf]; omega
    · obtain rfl : k = ops.length := by omega
      have IN : Hid (Inv L g 400) := Lib.hid (I.mono hops)
      have hLl : L.length ≤ 400 := IN.out.len
      obtain ⟨rv, hrv⟩ := T.ref
      clear I B hk hlt
      go_wp2_with fail
      refine (ref_ids _ hrv (by omega)).mono ?_
      rintro e w4 ⟨v4, rfl, s4, b4⟩
      have T4 := T.below b4
      have B4 := Lib.hid (BB.out.trans (b4.mono T.z0))
      obtain ⟨hidl, sv, scap, rfl⟩ := (s4.at iv_len).len
      have S4 := Lib.hid (s4.at iv_len)
      rw [idL_len] at S4 ⊢
      clear s4 b4 T hidl hrv
      have z4 := T4.z0
      go_wp2_with fail
      go_loopw [11] (fun i wr => ∃ j : Nat, j ≤ L.length ∧ i = .int .i64 j ∧ Two w.heap.size wr (w.heap.size + 2) w.heap.size (w.heap.size + 1) w.heap.size w1.heap.size L g L g ∧ Below w.heap.size w wr ∧ SlAt wr 1 iv (.slice sv L.length scap) (idL L)) (fun i _ => L.length - (intOf i).toNat)
      case atStart => exact ⟨0, Nat.zero_le _, rfl, T4, B4.out, S4.out⟩
      case round =>
        obtain ⟨j, hj, rfl, T, B, S⟩ := hrel
        have BB := Lib.hid B
        have SS := Lib.hid S
        clear B S
        by_cases hjl : j < L.length
        · obtain ⟨b, o, rfl, _, q⟩ := SS.out.get (by rw [idL_len]; omega)
          have p0 := q j 0 (by rw [idL_len]; exact hjl) (by omega)
          simp only [iv, List.getElem?_cons_zero, Nat.add_zero, Nat.mul_one] at p0
          obtain ⟨x, hx⟩ : ∃ x, x = (idL L)[j]'(by rw [idL_len]; exact hjl) := ⟨_, rfl⟩
          rw [← hx] at p0
          obtain ⟨c, hc⟩ : ∃ c, c = cntF L x := ⟨_, rfl⟩
          have rc := two_count1 T IN.out x
          have fc := two_count2 T x
          rw [← hc] at rc fc
          have RC := Lib.hid rc
          have FC := Lib.hid fc
          have HT := Lib.hid T
          have hcc : (c != c) = false := by simp
          clear q rc fc hc hx T
          go_wp2_with fail
          go_quiet (first
            | (go_at_call 15; exact Calls.quiet_of_same (RC.out _))
            | (go_at_call 24; exact Calls.quiet_of_same (FC.out _)))
          go_wp2
          go_roundw
          case rel => exact ⟨j + 1, by omega, by go_num, HT.out.drewN _, below_drewN BB.out _, SlAt.below SS.out (below_drewN (Below.refl _ _) _)⟩
          case measure => simp [intOf]; omega
        · go_wp2_with fail
          refine (real_ids _ T.real IN.out (by omega)).mono ?_
          rintro e w5 ⟨v5, rfl, s5, b5⟩
          have T5 := T.below b5
          have B5 := Lib.hid (BB.out.trans (b5.mono T.z0))
          have S5 := Lib.hid (s5.at iv_len)
          have S45 := Lib.hid (SlAt.below SS.out b5)
          clear s5 b5 T
          go_wp2_with fail
          refine (same_any _ S5.out S45.out (by rw [idL_len]; omega)).mono ?_
          rintro e w6 ⟨rfl, b6⟩
          have T6 := T5.below b6
          have B6 := Lib.hid (B5.out.trans (b6.mono T5.z0))
          obtain ⟨rv6, hrv6⟩ := T6.ref
          clear b6 T5
          obtain ⟨t, ht⟩ : ∃ t, t = totL L := ⟨_, rfl⟩
          have rb := real_bytes _ T6.real
          have fb := ref_bytes _ hrv6 IN.out (by omega)
          rw [← ht] at rb fb
          have RB := Lib.hid rb
          have FB := Lib.hid fb
          have htt : (t == t) = true := by simp
          clear rb fb ht hrv6
          go_wp2_with fail
          refine RB.out.mono ?_
          rintro e w' ⟨rfl, rfl⟩
          go_wp2_with fail
          refine FB.out.mono ?_
          rintro e w' ⟨rfl, rfl⟩
          go_wp2_with fail
          refine (awake_any _).mono ?_
          rintro e w9 ⟨rfl, b9⟩
          have B9 := Lib.hid (B6.out.trans (b9.mono T6.z0))
          clear b9
          go_wp2
          go_ret
          exact ⟨rfl, B9.out⟩

theorem quiet_walk {v : Value} {ops : List OpD} (w : World) (h : OpsAt w v ops) (hfit : OpsFit ops) (id : Int) :
    Calls Try.prog 6 #[v, .int .i64 id] w fun e w' => e = .returned (.bool true) ∧ Below w.heap.size w w' := by
  cases hs : smallB ops
  · exact quiet_no w h hfit id hs
  · exact quiet_yes w h hfit id hs
end Go.Proofs.Ytfgnagnnmibmaaa
