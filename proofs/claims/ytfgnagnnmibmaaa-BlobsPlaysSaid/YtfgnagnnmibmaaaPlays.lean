/- The walk of BlobsPlays. -/
import Derived.Test.YtfgnagnnmibmaaaStart
namespace Go.Proofs.Ytfgnagnnmibmaaa
open Go.RowKit Go.Mp Go.Rw

set_option maxRecDepth 100000 in
set_option maxHeartbeats 400000 in
theorem plays_no {v va : Value} {ops : List OpD} {asked : List Int} (w : World) (h : OpsAt w v ops) (hfit : OpsFit ops) (ha : SlAt w 1 iv va asked) (hno : smallB ops = false ∨ 50 < asked.length) :
    Calls Try.prog 4 #[v, va] w fun e w' => e = .returned (.bool true) ∧ Below w.heap.size w w' := by
  have H1 := Lib.hid h
  have H2 := Lib.hid hfit
  obtain ⟨_, sa, cap, rfl⟩ := ha.len
  clear h hfit ha
  cases hsm : smallB ops
  · clear hno
    go_enter Try.func4, Try.ntmps4
    go_wp2_with (first
      | (go_at_call 9; refine (large_any _ H1.out H2.out).mono ?_; rintro e w' ⟨rfl, rfl⟩)
      | (go_at_call 10; refine (awake_any _).mono ?_; rintro e w1 ⟨rfl, b1⟩; have B1 := Lib.hid b1; clear b1))
    go_ret
    exact ⟨rfl, B1.out⟩
  · have hlt : 50 < asked.length := by simpa [hsm] using hno
    have hlt' : decide ((50 : Int) < asked.length) = true := by simp; omega
    clear hno hlt
    go_enter Try.func4, Try.ntmps4
    go_wp2_with (first
      | (go_at_call 9; refine (large_any _ H1.out H2.out).mono ?_; rintro e w' ⟨rfl, rfl⟩)
      | (go_at_call 10; refine (awake_any _).mono ?_; rintro e w1 ⟨rfl, b1⟩; have B1 := Lib.hid b1; clear b1))
    go_ret
    exact ⟨rfl, B1.out⟩

set_option maxRecDepth 100000 in
set_option maxHeartbeats 1000000 in
theorem plays_yes {v va : Value} {ops : List OpD} {asked : List Int} (w : World) (h : OpsAt w v ops) (hfit : OpsFit ops) (ha : SlAt w 1 iv va asked) (hsm : smallB ops = true) (has : asked.length ≤ 50) :
    Calls Try.prog 4 #[v, va] w fun e w' => e = .returned (.bool true) ∧ Below w.heap.size w w' := by
  have hops : ops.length ≤ 400 := by simp [smallB] at hsm; exact hsm.1
  have H1 := Lib.hid h
  have H2 := Lib.hid hfit
  have HA := Lib.hid ha
  obtain ⟨sa, sn, sc, rfl⟩ : ∃ sa sn sc, v = .slice sa sn sc := by
    rcases h with ⟨_, sa, cap, rfl⟩ | ⟨b, o, cap, rfl, _⟩
    · exact ⟨_, _, _, rfl⟩
    · exact ⟨_, _, _, rfl⟩
  obtain rfl := h.len
  obtain ⟨_, aa, acap, rfl⟩ := ha.len
  clear h hfit ha
  have hlt' : decide ((50 : Int) < asked.length) = false := by simp; omega
  go_enter Try.func4, Try.ntmps4
  go_wp2_with (go_at_call 9; refine (large_any _ H1.out H2.out).mono ?_; rintro e w' ⟨rfl, rfl⟩)
  refine (new_any _).mono ?_
  rintro e w1 ⟨rfl, s1, b1⟩
  have z1 := b1.size
  have T1 : Hid (Two w.heap.size (w1.alloc (.cells #[.slice none 0 0, .int .i64 0] 32)) (w.heap.size + 2) w.heap.size (w.heap.size + 1) w.heap.size w1.heap.size [] 0 [] 0) := Lib.hid (two_start (Nat.le_refl _) s1 z1)
  have B1 : Hid (Below w.heap.size w (w1.alloc (.cells #[.slice none 0 0, .int .i64 0] 32))) := Lib.hid (b1.alloc z1 _)
  clear s1 b1
  go_wp2_with fail
  go_loopw [7] (fun i wr => RelP w (w.heap.size + 2) w.heap.size (w.heap.size + 1) w.heap.size w1.heap.size ops.length i wr) (fun i _ => ops.length - (intOf i).toNat)
  case atStart => exact ⟨0, [], 0, Nat.zero_le _, rfl, T1.out, inv_nil, B1.out⟩
  case round =>
    obtain ⟨k, L, g, hk, rfl, T, I, B⟩ := hrel
    have BB := Lib.hid B
    by_cases hlt : k < ops.length
    · obtain ⟨b, o, rfl, hlen, q0, q1, q2⟩ := H1.out.get k hlt
      have Q2 := Lib.hid q2
      have p0 := cell_keep q0 B
      have p1 := cell_keep q1 B
      have p2 := cell_keep q2 B
      clear B q0 q1 q2
      have hf := H2.out _ (List.getElem_mem hlt)
      obtain ⟨id, hid⟩ : ∃ id, id = ops[k].2.2 := ⟨_, rfl⟩
      rw [← hid] at p2 Q2
      clear hid
      go_wp2_with fail
      refine (done_any _ T I (by omega) _ _ _ hf.1 hf.2.1 hf.2.2).mono ?_
      rintro e w3 ⟨rfl, ⟨L', g', T3, I'⟩, F⟩
      have B3 := Lib.hid (BB.out.trans F.bel)
      clear F T I
      go_wp2_with fail
      refine (real_ids _ T3.real I' (by omega)).mono ?_
      rintro e w4 ⟨v4, rfl, s4, b4⟩
      have T4 := T3.below b4
      have B4 := Lib.hid (B3.out.trans (b4.mono T3.z0))
      obtain ⟨rv4, hrv4⟩ := T4.ref
      have S4 := Lib.hid (s4.at iv_len)
      clear s4 b4 T3
      go_wp2_with fail
      refine (ref_ids _ hrv4 (ids_len_le I' (by omega))).mono ?_
      rintro e w5 ⟨v5, rfl, s5, b5⟩
      have T5 := T4.below b5
      have B5 := Lib.hid (B4.out.trans (b5.mono T4.z0))
      have S5 := Lib.hid (s5.at iv_len)
      have S45 := Lib.hid (SlAt.below S4.out b5)
      clear s5 b5 T4 hrv4
      go_wp2_with fail
      refine (same_any _ S45.out S5.out (by rw [idL_len]; exact ids_len_le I' (by omega))).mono ?_
      rintro e w6 ⟨rfl, b6⟩
      have T6 := T5.below b6
      have B6 := Lib.hid (B5.out.trans (b6.mono T5.z0))
      obtain ⟨rv6, hrv6⟩ := T6.ref
      clear b6 T5
      go_wp2_with fail
      refine (real_bytes _ T6.real).mono ?_
      rintro e w' ⟨rfl, rfl⟩
      go_wp2_with fail
      refine (ref_bytes _ hrv6 I' (by omega)).mono ?_
      rintro e w' ⟨rfl, rfl⟩
      have hbb : (totL L' != totL L') = false := by simp
      have r2 := cell_keep Q2.out B6.out
      go_wp2_with fail
      refine (real_get _ T6.real I' id).mono ?_
      rintro e w7 ⟨rfl, b7⟩
      have T7 := T6.below b7
      have B7 := Lib.hid (B6.out.trans (b7.mono T6.z0))
      obtain ⟨rv7, hrv7⟩ := T7.ref
      obtain ⟨⟨ga, gb⟩, hg⟩ : ∃ x, x = getF L' id := ⟨_, rfl⟩
      have rg := ref_get _ hrv7 id
      rw [← hg] at rg ⊢
      have RG := Lib.hid rg
      have t2 := cell_keep Q2.out B7.out
      have hga := seq_refl ga
      have hgb : (gb != gb) = false := by simp
      obtain ⟨c, hc⟩ : ∃ c, c = cntF L' id := ⟨_, rfl⟩
      have rc := two_count1 T7 I' id
      have fc := two_count2 T7 id
      rw [← hc] at rc fc
      have RC := Lib.hid rc
      have FC := Lib.hid fc
      have hcc : (c != c) = false := by simp
      clear b7 T6 rg hg rc fc hc r2 p0 p1 p2 hrv6 hrv7
      go_wp2_with fail
      refine RG.out.mono ?_
      rintro e w' ⟨rfl, rfl⟩
      go_wp2_with fail
      go_quiet (first
        | (go_at_call 15; exact Calls.quiet_of_same (RC.out _))
        | (go_at_call 24; exact Calls.quiet_of_same (FC.out _)))
      go_wp2
      go_roundw
      case rel => exact ⟨k + 1, L', g', by omega, by go_num, T7.drewN _, I', below_drewN B7.out _⟩
      case measure => simp [intOf]; omega
    · obtain rfl : k = ops.length := by omega
      have IN : Inv L g 400 := I.mono hops
      clear I B hk hlt
      go_wp2_with fail
      go_loopw [12] (fun i wr => ∃ k : Nat, k ≤ asked.length ∧ i = .int .i64 k ∧ Two w.heap.size wr (w.heap.size + 2) w.heap.size (w.heap.size + 1) w.heap.size w1.heap.size L g L g ∧ Below w.heap.size w wr) (fun i _ => asked.length - (intOf i).toNat)
      case atStart => exact ⟨0, Nat.zero_le _, rfl, T, BB.out⟩
      case round =>
        obtain ⟨k, hk, rfl, T, B⟩ := hrel
        have BB := Lib.hid B
        by_cases hlt : k < asked.length
        · obtain ⟨b, o, rfl, _, q⟩ := HA.out.get (by omega)
          have q0 := q k 0 hlt (by omega)
          simp only [iv, List.getElem?_cons_zero, Nat.add_zero, Nat.mul_one] at q0
          obtain ⟨id, hid⟩ : ∃ id, id = asked[k] := ⟨_, rfl⟩
          rw [← hid] at q0
          have Q0 := Lib.hid q0
          have p0 := cell_keep q0 B
          clear q hid q0 B
          obtain ⟨⟨ga, gb⟩, hg⟩ : ∃ x, x = getF L id := ⟨_, rfl⟩
          have G1 := real_get _ T.real IN id
          rw [← hg] at G1
          have HG1 := Lib.hid G1
          have HG := Lib.hid hg
          clear G1 hg
          go_wp2_with fail
          refine HG1.out.mono ?_
          rintro e w7 ⟨rfl, b7⟩
          have T7 := T.below b7
          have B7 := Lib.hid (BB.out.trans (b7.mono T.z0))
          obtain ⟨rv7, hrv7⟩ := T7.ref
          have rg := ref_get _ hrv7 id
          rw [← HG.out] at rg
          have RG := Lib.hid rg
          have t2 := cell_keep Q0.out B7.out
          have hga := seq_refl ga
          have hgb : (gb != gb) = false := by simp
          obtain ⟨c, hc⟩ : ∃ c, c = cntF L id := ⟨_, rfl⟩
          have rc := two_count1 T7 IN id
          have fc := two_count2 T7 id
          rw [← hc] at rc fc
          have RC := Lib.hid rc
          have FC := Lib.hid fc
          have hcc : (c != c) = false := by simp
          clear b7 T rg rc fc hc p0 hrv7
          go_wp2_with fail
          refine RG.out.mono ?_
          rintro e w' ⟨rfl, rfl⟩
          go_wp2_with fail
          go_quiet (first
            | (go_at_call 15; exact Calls.quiet_of_same (RC.out _))
            | (go_at_call 24; exact Calls.quiet_of_same (FC.out _)))
          go_wp2
          go_roundw
          case rel => exact ⟨k + 1, by omega, by go_num, T7.drewN _, below_drewN B7.out _⟩
          case measure => simp [intOf]; omega
        · go_wp2_with fail
          refine (awake_any _).mono ?_
          rintro e w9 ⟨rfl, b9⟩
          have B9 := Lib.hid (BB.out.trans (b9.mono T.z0))
          clear b9
          go_wp2
          go_ret
          exact ⟨rfl, B9.out⟩

theorem plays_walk {v va : Value} {ops : List OpD} {asked : List Int} (w : World) (h : OpsAt w v ops) (hfit : OpsFit ops) (ha : SlAt w 1 iv va asked) :
    Calls Try.prog 4 #[v, va] w fun e w' => e = .returned (.bool true) ∧ Below w.heap.size w w' := by
  by_cases hl : asked.length ≤ 50
  · cases hs : smallB ops
    · exact plays_no w h hfit ha (.inl hs)
    · exact plays_yes w h hfit ha hs hl
  · exact plays_no w h hfit ha (.inr (by omega))
end Go.Proofs.Ytfgnagnnmibmaaa
