/- FragsWeaves: the walk where everything is tried. -/
import Derived.Test.YtbddggdbhfmlnaaWeavesS
import Derived.Deep.RegionHeld3
import Derived.Deep.RegionWith
import Derived.Deep.DeepCutAuto
namespace Go.Proofs.Ytbddggdbhfmlnaa
open Go.RowKit Go.Rt Go.Rw Go.Mp Go.Lib

def intC (n : Int) : List Value := [.int .i64 n]
theorem intC_len (n : Int) : (intC n).length = 1 := rfl
theorem slV_mk (p : SlD) : slV p = .slice (some ⟨p.1, p.2.1, none⟩) p.2.2.1 p.2.2.2 := rfl

theorem tmod_bd' (a : Int) (n : Nat) (h : 0 < n) : -(n : Int) < a.tmod n ∧ a.tmod n < n := by
  rcases Int.le_total 0 a with h0 | h0
  · rw [Int.tmod_eq_emod_of_nonneg h0]
    have := Int.emod_nonneg a (b := n) (by omega)
    have := Int.emod_lt_of_pos a (b := n) (by omega)
    omega
  · have e : a.tmod n = -((-a) % (n : Int)) := by
      rw [← Int.tmod_eq_emod_of_nonneg (by omega), Int.neg_tmod]; omega
    rw [e]
    have := Int.emod_nonneg (-a) (b := n) (by omega)
    have := Int.emod_lt_of_pos (-a) (b := n) (by omega)
    omega
set_option maxRecDepth 100000 in
set_option maxHeartbeats 16000000 in
theorem weaves_yes (vT vO : Value) (Ts : List ByteArray) (Os : List Int) (most : Nat) (w : World) (hT : SlAt w 1 textC vT Ts) (hO : SlAt w 1 intC vO Os) (hn60 : Ts.length ≤ 60) (hm : 1 ≤ most) (hm2 : most ≤ 4096) (ho2 : Os.length ≤ 2000)
    (hsz : ∀ t ∈ Ts, t.size ≤ 9223372036854775807) (hob : ∀ o ∈ Os, -9223372036854775808 ≤ o ∧ o ≤ 9223372036854775807) :
    Calls Try.prog 5 #[.agg #[vT, .int .i64 most, vO]] w fun e w' => e = .returned (.bool true) ∧ Below w.heap.size w w' := by
  have HAW := Lib.hid awake_any
  have HSZ := Lib.hid hsz
  have HOB := Lib.hid hob
  obtain ⟨_, sT, cT, rfl⟩ := hT.len
  obtain ⟨_, sO, cO, rfl⟩ := hO.len
  have HT := Lib.hid hT
  have HO := Lib.hid hO
  have HCUT : Hid (∀ (id : Int) (t : ByteArray) (W : World), 1 ≤ id → id ≤ 60 → t.size ≤ 3000 → Calls Try.prog 12 #[.int .i64 id, .string t, .int .i64 most] W fun e W' => ∃ g cap, e = .returned (.tuple #[.slice (some ⟨g, 0, none⟩) (manyK t most) cap, .int .i64 0]) ∧ PieceAt W' most (g, 0, manyK t most, cap) (id, t, 0) ∧ Below W.heap.size W W') := by
    refine Lib.hid fun id t W h1 h2 h3 => (cut_ok id t most W h1 (by omega) hm hm2 (by omega)).mono ?_
    rintro e W' ⟨v, rfl, s, b⟩
    obtain ⟨⟨g, o, l, cap⟩, rfl, hp⟩ := PieceAt.of_cut s
    have h1 := hp.1 (many_pos t most)
    have h2 := hp.2.1
    simp only [Nat.zero_mul, Nat.sub_zero] at h1 h2
    subst h1 h2
    exact ⟨g, cap, rfl, hp, b⟩
  have d1 : ¬ (60 : Int) < (Ts.length : Int) := by omega
  have d2 : ¬ (most : Int) < 1 := by omega
  have d3 : ¬ (4096 : Int) < (most : Int) := by omega
  have d4 : ¬ (2000 : Int) < (Os.length : Int) := by omega
  clear hT hO hsz hob
  go_enter Try.func5, Try.ntmps5
  go_wp2_with fail
  obtain ⟨w1, hw1⟩ : ∃ w1, w1 = w.alloc (.cells #[.slice sT Ts.length cT, .int .i64 most, .slice sO Os.length cO] 34) := ⟨_, rfl⟩
  rw [← hw1]
  have B1 : Below w.heap.size w w1 := by rw [hw1]; exact (Below.refl _ w).alloc (Nat.le_refl _) _
  have hz1 : w1.heap.size = w.heap.size + 1 := by rw [hw1]; simp
  have hbx : w1.heap[w.heap.size]? = some (.cells #[.slice sT Ts.length cT, .int .i64 most, .slice sO Os.length cO] 34 (0, 0)) := by rw [hw1]; exact World.alloc_heap_new w _
  have HBX : Hid (∀ W, Below w1.heap.size w1 W → Below w.heap.size w W ∧ W.cell? ⟨w.heap.size, 0, none⟩ = some (.slice sT Ts.length cT) ∧ W.cell? ⟨w.heap.size, 1, none⟩ = some (.int .i64 most) ∧ W.cell? ⟨w.heap.size, 2, none⟩ = some (.slice sO Os.length cO)) := by
    refine Lib.hid fun W hW => ⟨B1.trans (hW.mono B1.size), ?_, ?_, ?_⟩
    all_goals
      rw [hW.cell (by simp only; omega), cell_at hbx]
      rfl
  clear hw1 B1 hbx
  go_loopw [3, 4, 5] (fun s3 s4 s5 wr => ∃ k : Nat, k ≤ Ts.length ∧ s5 = .int .i64 k ∧ Hid (∀ j (h : j < Ts.length), j < k → Ts[j].size ≤ 3000) ∧ Hid (Rows2 w1 wr most s3 s4 (wayF Ts k) (Ts.take k))) (fun _ _ s _ => Ts.length - (intOf s).toNat)
  case atStart => exact ⟨0, Nat.zero_le _, rfl, Lib.hid (fun j h q => by omega), Lib.hid ⟨Below.refl _ _, ⟨[], Sl.nil _ _ _ _ _, rfl, fun j h => by simp [wayF] at h⟩, Sl.nil _ _ _ _ _⟩⟩
  case round =>
    obtain ⟨k, hk, rfl, HSM, R1⟩ := hrel
    obtain ⟨hbw, x0, x1, x2⟩ := HBX.out wr R1.out.bel
    have HBW := Lib.hid hbw
    obtain ⟨⟨sl3, cl3, rfl⟩, ⟨sl4, cl4, rfl⟩⟩ : (∃ sl3 cl3, u3 = .slice sl3 k cl3) ∧ (∃ sl4 cl4, u4 = .slice sl4 k cl4) := by
      constructor
      · obtain ⟨Vs, s1, s2, _⟩ := R1.out.ll
        obtain ⟨_, a, b, e⟩ := (s1.at sc_len).len
        rw [s2, wayF_len] at e
        exact ⟨a, b, e⟩
      · obtain ⟨_, a, b, e⟩ := (R1.out.tt.at textC_len).len
        rw [List.length_take, Nat.min_eq_left hk] at e
        exact ⟨a, b, e⟩
    clear hbw
    by_cases hlt : k < Ts.length
    · obtain ⟨bT, oT, rfl, hbT, hcT⟩ := HT.out.get (by omega)
      have t0 := (HBW.out.cell (p := ⟨bT, oT + k * 1 + 0, none⟩) hbT).trans (hcT k 0 hlt (by omega))
      simp only [textC, List.getElem?_cons_zero, Nat.add_zero, Nat.mul_one] at t0
      have hts := HSZ.out _ (List.getElem_mem hlt)
      have HTK : Hid (Ts.take (k + 1) = Ts.take k ++ [Ts[k]]) := Lib.hid (List.take_succ_eq_append_getElem hlt)
      have HWN := Lib.hid (wayF_next Ts k hlt)
      have HSM2 : Hid (Ts[k].size ≤ 3000 → ∀ j (h : j < Ts.length), j < k + 1 → Ts[j].size ≤ 3000) := Lib.hid fun h1 j h h2 => by
        rcases Nat.lt_or_ge j k with q | q
        · exact HSM.out j h q
        · obtain rfl : j = k := by omega
          exact h1
      obtain ⟨t, ht⟩ : ∃ t, t = Ts[k] := ⟨_, rfl⟩
      rw [← ht] at t0 hts HTK HWN HSM2
      clear ht hcT
      by_cases hbig : 3000 < t.size
      · have hbig' : (3000 : Int) < (t.size : Int) := by omega
        go_wp2_with fail
        refine (HAW.out _).mono ?_
        rintro e w2 ⟨rfl, b2⟩
        have B2 := Lib.hid (HBW.out.trans (b2.mono HBW.out.size))
        clear b2
        go_wp2_with fail
        go_ret
        exact ⟨rfl, B2.out⟩
      · have hbig' : ¬ (3000 : Int) < (t.size : Int) := by omega
        have hmp := many_pos t most
        obtain ⟨N, hN⟩ : ∃ N, N = manyK t most := ⟨_, rfl⟩
        have HC := Lib.hid (fun W => HCUT.out ((k : Int) + 1) t W (by omega) (by omega) (by omega))
        have hN0 : ((manyK t most : Int) == 0) = false := by simp; omega
        rw [← hN] at HC hmp hN0
        have HNN := Lib.hid hN
        clear hN
        have k1 : (k : Int) < Ts.length := by omega
        have q1 : IntKind.i64.wrap ((k : Int) + 1) = (k : Int) + 1 := IntWalk.i64_in _ (by omega)
        go_upto_region 10 with fail
        go_cut [6, 7] (fun s6 s7 wx => ∃ g cap, s6 = .slice (some ⟨g, 0, none⟩) N cap ∧ s7 = .int .i64 0 ∧ PieceAt wx most (g, 0, N, cap) ((k : Int) + 1, t, 0) ∧ Below wr.heap.size wr wx)
        case first =>
          go_region_with (go_at_call 12; refine (HC.out _).mono ?_; rintro e w2 ⟨g, cap, rfl, s2, b2⟩)
          all_goals (go_wp2_with fail; go_meet; exact ⟨g, cap, rfl, rfl, s2.cells (fun _ h => h), ⟨b2.os, b2.tape, b2.output, b2.size, b2.block⟩⟩)
        case rest =>
          obtain ⟨g, cap, rfl, rfl, hp, bc⟩ := hcut
          have R2 := R1.out.call bc
          obtain ⟨g3, c3, W2, hr2, R3, K3, hz3⟩ := R2.pushL (g, 0, N, cap) _ hp (by rw [wayF_len]; omega) 35
          rw [wayF_len] at hr2 R3
          obtain ⟨g4, c4, W4, hr4, R4, K4, hz4⟩ := R3.pushT t (by rw [List.length_take]; omega) 31
          rw [List.length_take, Nat.min_eq_left (by omega)] at hr4 R4
          rw [← HWN.out, ← HTK.out] at R4
          obtain ⟨_, y0, y1, y2⟩ := HBX.out wc R2.bel
          obtain ⟨hbw3, z0, z1, z2⟩ := HBX.out W2 R3.bel
          have t3 := (hbw3.cell (p := ⟨bT, oT + k, none⟩) hbT).trans ((HBW.out.cell (p := ⟨bT, oT + k, none⟩) hbT).symm.trans t0)
          simp only [slV] at hr2
          have HR2 := Lib.hid hr2
          have HR4 := Lib.hid hr4
          have RR4 := Lib.hid R4
          clear hr2 hr4 R4 R3 R2 hp bc x0 x1 x2 t0 K3 K4 hbw3 R1
          go_wp2_with (at_builtin; first | (refine wpList_append_run rfl _ _ 35 35 rfl rfl rfl HR2.out ?_) | (refine wpList_append_run rfl _ _ 31 31 rfl rfl rfl HR4.out ?_))
          go_roundw
          case rel => exact ⟨k + 1, by omega, by go_num, Lib.hid (HSM2.out (by omega)), RR4⟩
          case measure => simp [intOf]; omega
    · obtain hkn : k = Ts.length := by omega
      subst hkn
      have W0 : ∃ TOT A0, TOT ≤ 200000 ∧ A0.length = Ts.length ∧ Hid (∀ (wx : World) (vl vt : Value) (bg G m : Nat), Rows2 w1 wx most vl vt A0 (A0.map (·.2.1)) → GA wx bg G m [] → w1.heap.size ≤ bg → WS w1 wx most bg G m TOT vl vt A0 0) ∧ wayF Ts Ts.length = A0 := by
        have hA : ∀ a ∈ wayF Ts Ts.length, 1 ≤ a.1 ∧ a.1 ≤ 60 ∧ a.2.1.size ≤ 3000 ∧ a.2.2 < manyK a.2.1 most := by
          intro a ha
          obtain ⟨h1, h2, h3⟩ := wayF_mem Ts _ a ha
          have h4 := many_pos a.2.1 most
          refine ⟨h1, by omega, ?_, by omega⟩
          obtain ⟨j, hj, rfl⟩ := List.mem_map.1 ha
          have hj' := List.mem_range.1 hj
          simp only [List.getD_eq_getElem?_getD, List.getElem?_eq_getElem hj', Option.getD_some]
          exact HSM.out j hj' hj'
        have hb := left_bd most (wayF Ts Ts.length) (fun a ha => by have := (hA a ha).2.2.1; have := many_le a.2.1 most hm; omega)
        rw [wayF_len] at hb
        refine ⟨leftA most (wayF Ts Ts.length), wayF Ts Ts.length, by omega, wayF_len _ _, Lib.hid fun wx vl vt bg G m hr hg hle => ⟨hr, ⟨[], hg, by rw [wayF_open]; exact List.Perm.refl _⟩, wayF_keys _ _, by rw [wayF_len]; exact hn60, hA, by omega, hle⟩, rfl⟩
      obtain ⟨TOT, A0, hTOT, hA0, HWS, hAA⟩ := W0
      have hR1 := R1.out
      rw [List.take_length] at hR1
      have htx := wayF_texts Ts
      rw [hAA] at hR1 htx
      have HR1 := Lib.hid hR1
      have HTX := Lib.hid htx
      clear hR1 R1 htx hAA HSM hlt HCUT HSZ HT d1 d4 hk
      go_wp2_with fail
      refine (new_any _).mono ?_
      rintro e w2 ⟨rfl, g2, b2⟩
      have S2 : Hid (WS w1 w2 most wr.heap.size (wr.heap.size + 1) wr.heap.size TOT (.slice sl3 Ts.length cl3) (.slice sl4 Ts.length cl4) A0 0) := by
        refine Lib.hid (HWS.out _ _ _ _ _ _ ?_ g2 HR1.out.bel.size)
        rw [HTX.out]
        exact HR1.out.call b2
      clear g2 b2 HR1 HTX HWS
      obtain ⟨bg, hbg⟩ : ∃ bg, bg = wr.heap.size := ⟨_, rfl⟩
      rw [← hbg] at S2
      rw [← hbg]
      clear hbg x0 x1 x2 HBW
      go_wp2_with fail
      go_loopw [3, 4, 9] (fun s3 s4 s9 wq => ∃ (A : List Way) (τ : Nat), s9 = .int .i64 τ ∧ Hid (WS w1 wq most bg (bg + 1) bg TOT s3 s4 A τ)) (fun _ _ s _ => TOT - (intOf s).toNat)
      case atStart => exact ⟨A0, 0, rfl, S2⟩
      case round =>
        obtain ⟨A, τ, rfl, RS⟩ := hrel
        obtain ⟨⟨sl, cl, rfl⟩, ⟨st, ct, rfl⟩⟩ := RS.out.forms
        have hlen := RS.out.len
        have htot := RS.out.tot
        by_cases hne : 0 < A.length
        · have hlp := left_pos most (fun a ha => (RS.out.each a ha).2.2.2) hne
          have hτ : τ < TOT := by omega
          obtain ⟨hbw, x0, x1, x2⟩ := HBX.out wr RS.out.rows.bel
          have HBW := Lib.hid hbw
          obtain ⟨n, hn⟩ : ∃ n, n = A.length := ⟨_, rfl⟩
          rw [← hn] at hne hlen RS ⊢
          have HN := Lib.hid hn
          have hne' : (0 : Int) < (n : Int) := by omega
          have hn0 : ((n : Int) == 0) = false := by simp; omega
          clear hbw hn hlp
          go_upto_if 93 with fail
          go_cut [10] (fun s10 wx => ∃ k : Nat, k < n ∧ s10 = .int .i64 k ∧ wr = wx)
          case first =>
            as_aux_lemma =>
              by_cases hto : τ < Os.length
              · have hto' : (τ : Int) < (Os.length : Int) := by omega
                obtain ⟨bO, oO, rfl, hbO, hcO⟩ := HO.out.get (by omega)
                have o0 := (HBW.out.cell (p := ⟨bO, oO + τ * 1 + 0, none⟩) hbO).trans (hcO τ 0 hto (by omega))
                simp only [intC, List.getElem?_cons_zero, Nat.add_zero, Nat.mul_one] at o0
                obtain ⟨ob1, ob2⟩ := HOB.out _ (List.getElem_mem hto)
                obtain ⟨ov, hov⟩ : ∃ x, x = Os[τ] := ⟨_, rfl⟩
                rw [← hov] at o0 ob1 ob2
                have hr := tmod_bd' ov n (by omega)
                obtain ⟨hr1, hr2⟩ := hr
                clear hov hcO
                go_wp2_with fail
                · have hn : ov.tmod n < 0 := by assumption
                  go_meet
                  exact ⟨(ov.tmod n + n).toNat, by omega, by rw [Int.toNat_of_nonneg (by omega)], rfl⟩
                · have hn : 0 ≤ ov.tmod n := by assumption
                  go_meet
                  exact ⟨(ov.tmod n).toNat, by omega, by rw [Int.toNat_of_nonneg (by omega)], rfl⟩
              · have hto' : ¬ (τ : Int) < (Os.length : Int) := by omega
                go_wp2_with fail
                go_meet
                exact ⟨0, by omega, rfl, rfl⟩
          case rest =>
            obtain ⟨k, hk, rfl, rfl⟩ := hcut
            have hkA : k < A.length := by rw [← HN.out]; exact hk
            obtain ⟨gl, rfl⟩ : ∃ gl, sl = some ⟨gl, 0, none⟩ := by
              obtain ⟨Vs, s1, s2, _⟩ := RS.out.rows.ll
              rcases s1.form with ⟨e, h0⟩ | ⟨g0, cap0, e, _⟩
              · rw [h0] at s2; simp at s2; omega
              · simp at e; exact ⟨g0, e.1⟩
            obtain ⟨gt, rfl⟩ : ∃ gt, st = some ⟨gt, 0, none⟩ := by
              rcases RS.out.rows.tt.form with ⟨e, h0⟩ | ⟨g0, cap0, e, _⟩
              · have := congrArg List.length h0; simp at this; simp [this] at hkA
              · simp at e; exact ⟨g0, e.1⟩
            obtain ⟨_, _, hts, hi⟩ := RS.out.each _ (List.getElem_mem hkA)
            obtain ⟨p, hp, c0, _, _⟩ := RS.out.rows.step hkA hi HN.out
            have e0 := hp.head hi 0 (by omega)
            have e1 := hp.head hi 1 (by omega)
            have e2 := hp.head hi 2 (by omega)
            have e3 := hp.head hi 3 (by omega)
            have hpl := hp.2.1
            have hpc := hp.2.2.1
            have HFD := Lib.hid (RS.out.feed hkA hm hm2)
            have HNXT := Lib.hid (fun (W' : World) (vl' vt' : Value) => RS.out.next (W' := W') (vl' := vl') (vt' := vt') hkA)
            have HSTEP := Lib.hid (fun (W : World) (h : Rows2 w1 W most (.slice (some ⟨gl, 0, none⟩) n cl) (.slice (some ⟨gt, 0, none⟩) n ct) A (A.map (·.2.1))) => h.step hkA hi HN.out)
            have HTXT : Hid (∀ (W : World), Rows2 w1 W most (.slice (some ⟨gl, 0, none⟩) n cl) (.slice (some ⟨gt, 0, none⟩) n ct) A (A.map (·.2.1)) → W.cell? ⟨gt, k, none⟩ = some (.string A[k].2.1)) := by
              refine Lib.hid fun W h => ?_
              have := h.tt.cell textC_len k 0 (by rw [List.length_map]; exact hkA) (by omega)
              rw [Nat.mul_one, Nat.add_zero, List.getElem_map] at this
              exact this
            have HSETT := Lib.hid (set_texts A k hkA)
            obtain ⟨⟨id, t, i⟩, ha⟩ : ∃ a, a = A[k] := ⟨_, rfl⟩
            have HNA : Hid (nextA most A k hkA = if i + 1 = manyK t most then A.eraseIdx k else A.set k (id, t, i + 1)) := by
              refine Lib.hid ?_
              unfold nextA
              rw [← ha]
            rw [← ha] at hts hi e0 e1 e2 e3 hpl HFD HSTEP HTXT HSETT
            simp only at hts hi e0 e1 e2 e3 hpl HFD HSTEP HTXT HSETT
            clear hp ha RS x0 x1 x2
            obtain ⟨g, o, l, cp⟩ := p
            simp only [slV, fc, List.getElem?_cons_zero, List.getElem?_cons_succ, Nat.add_zero] at c0 e0 e1 e2 e3 hpl hpc
            obtain ⟨N, hN⟩ : ∃ N, N = manyK t most := ⟨_, rfl⟩
            obtain ⟨pt, hpt⟩ : ∃ x, x = partK t most i := ⟨_, rfl⟩
            obtain ⟨fb, hfb⟩ : ∃ x, x = decide (i = 0) := ⟨_, rfl⟩
            rw [← hpt] at e3 HFD
            rw [← hfb] at e1 HFD
            rw [← hN] at hi e2 hpl HFD HNA
            have HMN := Lib.hid hN
            clear hpt hfb hN
            have k0 : (k : Int) < (n : Int) := by omega
            have l0 : 0 < l := by omega
            have l0' : (0 : Int) < (l : Int) := by omega
            have l1 : (1 : Int) ≤ (l : Int) := by omega
            go_wp2_with fail
            refine (HFD.out).mono ?_
            rintro e w3 ⟨rfl, R3, G3⟩
            obtain ⟨⟨g5, o5, l5, cp5⟩, hp5, c5, f5, hn5⟩ := HSTEP.out w3 R3
            have tx := HTXT.out w3 R3
            have hp5l := hp5.2.1
            have hp5c := hp5.2.2.1
            simp only at hp5l hp5c
            rw [← HMN.out] at hp5l
            simp only [slV] at c5 hn5
            have HN5 := Lib.hid hn5
            have GG3 := Lib.hid G3
            clear hn5 G3 R3 hp5 HSTEP HTXT HFD c0 e0 e1 e2 e3 hpl hpc
            have l5a : (1 : Int) ≤ (l5 : Int) := by omega
            have l5b : (l5 : Int) ≤ (cp5 : Int) := by omega
            have tt : (t.toList == t.toList) = true := by simp
            by_cases hlast : i + 1 = N
            · have hN1 : l5 = 1 := by omega
              have y1 : ((l5 : Int) == 1) = true := by simp [hN1]
              have z1 : decide (i + 1 = N) = true := by simp [hlast]
              rw [if_pos hlast] at HNA
              simp only [z1, if_pos hlast]
              have hX : ∃ o', (cp5 ≠ 1 → o' = o5 + 4) ∧ (if cp5 = 1 then some (⟨g5, o5, none⟩ : Addr) else some ⟨g5, o5 + 4, none⟩) = some ⟨g5, o', none⟩ := by
                by_cases q : cp5 = 1
                · exact ⟨o5, fun h => absurd q h, by rw [if_pos q]⟩
                · exact ⟨o5 + 4, fun _ => rfl, by rw [if_neg q]⟩
              obtain ⟨o', ho', hX⟩ := hX
              obtain ⟨R5, K5⟩ := HN5.out o' ho'
              have RR5 := Lib.hid R5
              have KK5 := Lib.hid K5
              have HX := Lib.hid hX
              clear z1 hlast hN1 hp5l R5 K5 HN5 ho' hX
              go_upto_region 30 with fail
              rw [HX.out]
              obtain ⟨w4, hw4⟩ : ∃ W, W = w3.setCell ⟨gl, k, none⟩ (.slice (some ⟨g5, o', none⟩) (l5 - 1) (cp5 - 1)) := ⟨_, rfl⟩
              rw [← hw4] at RR5 KK5
              rw [← hw4]
              have hz4 : w4.heap.size = w3.heap.size := by rw [hw4]; simp [World.setCell]
              have GG4 : Hid (∃ O, GA w4 bg (bg + 1) bg O ∧ (O.map ab).Perm (openA most (nextA most A k hkA))) := by
                obtain ⟨O, ga, gp⟩ := GG3.out
                exact Lib.hid ⟨O, ga.keeps KK5.out (by omega), gp⟩
              clear hw4 GG3 KK5 tx c5 f5 hz4
              obtain ⟨Vs, s1, s2, s3⟩ := RR5.out.ll
              have hcl : n ≤ cl := by
                rcases s1.form with ⟨e, _⟩ | ⟨g0, cap0, e, _, _, q, _⟩
                · cases e
                · cases e; exact q
              have hct : n ≤ ct := by
                rcases RR5.out.tt.form with ⟨e, _⟩ | ⟨g0, cap0, e, _, _, q, _⟩
                · cases e
                · cases e; exact q
              rw [List.length_set, ← HN.out] at s2
              have hgl := s1.lt gl rfl
              have hm1 : (Vs.take k).length = k := by rw [List.length_take]; omega
              have hm3 : (Vs.drop (k + 1)).length = n - (k + 1) := by rw [List.length_drop]; omega
              have hsr1 : ∀ (W : World), Below w4.heap.size w4 W → ∀ j (hj : j < (Vs.take k).length), W.cell? ⟨gl, 0 + j, none⟩ = (sc (Vs.take k)[j])[0]? := by
                intro W hW j hj
                have hjv : j < Vs.length := by omega
                have := s1.cell sc_len j 0 hjv (by omega)
                rw [Nat.mul_one, Nat.add_zero] at this
                rw [Nat.zero_add, hW.cell (by simp only; exact hgl.2), this, List.getElem_take]
              have hsr2 : ∀ (W : World), Below w4.heap.size w4 W → ∀ j (hj : j < (Vs.drop (k + 1)).length), W.cell? ⟨gl, k + 1 + j, none⟩ = (sc (Vs.drop (k + 1))[j])[0]? := by
                intro W hW j hj
                have hjv : k + 1 + j < Vs.length := by omega
                have := s1.cell sc_len (k + 1 + j) 0 hjv (by omega)
                rw [Nat.mul_one, Nat.add_zero] at this
                rw [hW.cell (by simp only; exact hgl.2), this, List.getElem_drop]
              have HS0 := Lib.hid (Sl.lit (e := 23) (base := w4.heap.size) w4 ([] : List SlD) sc_len (Nat.le_refl _) (by decide))
              have HSR1 := Lib.hid hsr1
              have HSR2 := Lib.hid hsr2
              have HV2 := Lib.hid s2
              have HV3 := Lib.hid s3
              have BA : ∀ o, Below w4.heap.size w4 (w4.alloc o) := fun o => (Below.refl _ w4).alloc (Nat.le_refl _) o
              have HBA := Lib.hid BA
              clear s1 s2 s3 hsr1 hsr2 BA
              have q0 : (0 : Int) ≤ (k : Int) := by omega
              have q1 : IntKind.i64.wrap ((k : Int) + 1) = (k : Int) + 1 := IntWalk.i64_in _ (by omega)
              have q2 : ((k : Int) + 1).toNat = k + 1 := by omega
              have q3 : (0 : Int) ≤ (k : Int) + 1 := by omega
              have q4 : (k : Int) + 1 ≤ (n : Int) := by omega
              have q5 : (n : Int) ≤ (cl : Int) := by omega
              have q6 : (k : Int) ≤ (cl : Int) := by omega
              have q7 : (n : Int) ≤ (ct : Int) := by omega
              have q8 : (k : Int) ≤ (ct : Int) := by omega
              go_cut [3] (fun s3 wx => ∃ g7 l7 c7 : Nat, s3 = .slice (some ⟨g7, 0, none⟩) l7 c7 ∧ Sl wx w4.heap.size 23 1 sc (.slice (some ⟨g7, 0, none⟩) l7 c7) (Vs.take k ++ Vs.drop (k + 1)) ∧ Below w4.heap.size w4 wx)
              case first =>
                as_aux_lemma =>
                  by_cases hc2 : cl = k + 1
                  · obtain hnk : n = k + 1 := by omega
                    have hm4 : (Vs.drop (k + 1)).length = 0 := by omega
                    have hsrc4 : ∀ (W : World), ∀ j (hj : j < (Vs.drop (k + 1)).length), W.cell? ⟨gl, 0 + j, none⟩ = (sc (Vs.drop (k + 1))[j])[0]? := fun W j hj => by omega
                    have HSR4 := Lib.hid hsrc4
                    clear hm3 hsrc4
                    subst hc2
                    subst hnk
                    have q9 : (k : Int) ≤ (k : Int) + 1 := by omega
                    have q10 : ¬ (k : Int) + 1 < (k : Int) := by omega
                    go_region_held3 (fun _ => True) (trivial) (first | (refine step_append_sls (α := SlD) (w0 := w4.alloc (.cells #[] 23)) (base := w4.heap.size) (M := Vs.take k) (c := sc) (n := 0) (m := k) (b := gl) (off := 0) 35 (by rfl) _ _ (by rfl) (by rfl) (by rfl) HS0.out und35 info23 rfl sc_len sc_one hm1 rfl (HSR1.out _ (HBA.out _)) (by rfl) (by rfl) (by rfl) (by rfl) (by omega) (by omega) (by simp) ?_; intro g6 c6 w6 s6 o6 e6) | (refine step_append_sls (α := SlD) (w0 := w6) (base := w4.heap.size) (M := Vs.drop (k + 1)) (c := sc) (n := 0 + k) (m := 0) (b := gl) (off := 0) 35 (by rfl) _ _ (by rfl) (by rfl) (by rfl) s6 und35 info23 rfl sc_len sc_one hm4 (by rw [List.nil_append, hm1, Nat.zero_add]) (HSR4.out _) (by rfl) (by rfl) (by rfl) (by rfl) (by omega) (by omega) (by have := o6.size; simp at this; omega) ?_; intro g7 c7 w7 s7 o7 e7))
                    all_goals
                      go_wp2_with fail
                      go_meet
                      have hb6 : Below w4.heap.size w4 w6 := (HBA.out (.cells #[] 23)).trans (o6.below (by simp) (by simp))
                      exact ⟨g7, _, c7, rfl, by rw [List.nil_append, Nat.zero_add, Nat.add_zero] at s7; exact s7, hb6.trans (o7.below (by intro r hr; simp only [List.mem_singleton] at hr; subst hr; rcases e6 with q | q <;> rw [q] <;> simp) hb6.size)⟩
                  · have hc3 : ¬ k + 1 = cl := fun h => hc2 h.symm
                    have hc4 : ¬ cl - (k + 1) = 0 := by omega
                    go_region_held3 (fun _ => True) (trivial) (first | (refine step_append_sls (α := SlD) (w0 := w4.alloc (.cells #[] 23)) (base := w4.heap.size) (M := Vs.take k) (c := sc) (n := 0) (m := k) (b := gl) (off := 0) 35 (by rfl) _ _ (by rfl) (by rfl) (by rfl) HS0.out und35 info23 rfl sc_len sc_one hm1 rfl (HSR1.out _ (HBA.out _)) (by rfl) (by rfl) (by rfl) (by rfl) (by omega) (by omega) (by simp) ?_; intro g6 c6 w6 s6 o6 e6) | (refine step_append_sls (α := SlD) (w0 := w6) (base := w4.heap.size) (M := Vs.drop (k + 1)) (c := sc) (n := 0 + k) (m := n - (k + 1)) (b := gl) (off := k + 1) 35 (by rfl) _ _ (by rfl) (by rfl) (by rfl) s6 und35 info23 rfl sc_len sc_one hm3 (by rw [List.nil_append, hm1, Nat.zero_add]) (HSR2.out _ ((HBA.out (.cells #[] 23)).trans (o6.below (by simp) (by simp)))) (by rfl) (by rfl) (by rfl) (by rfl) (by omega) (by omega) (by have := o6.size; simp at this; omega) ?_; intro g7 c7 w7 s7 o7 e7))
                    all_goals
                      go_wp2_with fail
                      go_meet
                      have hb6 : Below w4.heap.size w4 w6 := (HBA.out (.cells #[] 23)).trans (o6.below (by simp) (by simp))
                      exact ⟨g7, _, c7, rfl, by rw [List.nil_append, Nat.zero_add] at s7; exact s7, hb6.trans (o7.below (by intro r hr; simp only [List.mem_singleton] at hr; subst hr; rcases e6 with q | q <;> rw [q] <;> simp) hb6.size)⟩
              case rest =>
                obtain ⟨g7, l7, c7, rfl, s7, b7⟩ := hcut
                obtain ⟨w8, hw8⟩ : ∃ W, W = wc := ⟨_, rfl⟩
                rw [← hw8] at s7 b7
                rw [← hw8]
                have R8 := RR5.out.eraseL (by rw [HV2.out, List.length_set, ← HN.out]) HV3.out b7 s7
                rw [erase_set] at R8
                have GG8 : Hid (∃ O, GA w8 bg (bg + 1) bg O ∧ (O.map ab).Perm (openA most (nextA most A k hkA))) := by
                  obtain ⟨O, ga, gp⟩ := GG4.out
                  exact Lib.hid ⟨O, ga.keeps (.of_below b7) b7.size, gp⟩
                have HR8 := Lib.hid R8
                clear hw8 s7 b7 R8 GG4 RR5 HS0 HSR1 HSR2 HV2 HV3 HBA hm1 hm3 hgl
                obtain ⟨Bs, hBs⟩ : ∃ B, B = A.map (·.2.1) := ⟨_, rfl⟩
                have hbl : Bs.length = n := by rw [hBs, List.length_map, HN.out]
                rw [← hBs] at HR8
                have HBs := Lib.hid hBs
                have s1 := HR8.out.tt
                have hgl := s1.lt gt rfl
                have hm1 : (Bs.take k).length = k := by rw [List.length_take]; omega
                have hm3 : (Bs.drop (k + 1)).length = n - (k + 1) := by rw [List.length_drop]; omega
                have hsr1 : ∀ (W : World), Below w8.heap.size w8 W → ∀ j (hj : j < (Bs.take k).length), W.cell? ⟨gt, 0 + j, none⟩ = (textC (Bs.take k)[j])[0]? := by
                  intro W hW j hj
                  have hjv : j < Bs.length := by omega
                  have := s1.cell textC_len j 0 hjv (by omega)
                  rw [Nat.mul_one, Nat.add_zero] at this
                  rw [Nat.zero_add, hW.cell (by simp only; exact hgl.2), this, List.getElem_take]
                have hsr2 : ∀ (W : World), Below w8.heap.size w8 W → ∀ j (hj : j < (Bs.drop (k + 1)).length), W.cell? ⟨gt, k + 1 + j, none⟩ = (textC (Bs.drop (k + 1))[j])[0]? := by
                  intro W hW j hj
                  have hjv : k + 1 + j < Bs.length := by omega
                  have := s1.cell textC_len (k + 1 + j) 0 hjv (by omega)
                  rw [Nat.mul_one, Nat.add_zero] at this
                  rw [hW.cell (by simp only; exact hgl.2), this, List.getElem_drop]
                have HS0 := Lib.hid (Sl.lit (e := 9) (base := w8.heap.size) w8 ([] : List ByteArray) textC_len (Nat.le_refl _) (by decide))
                have HSR1 := Lib.hid hsr1
                have HSR2 := Lib.hid hsr2
                have BA : ∀ o, Below w8.heap.size w8 (w8.alloc o) := fun o => (Below.refl _ w8).alloc (Nat.le_refl _) o
                have HBA := Lib.hid BA
                clear s1 hsr1 hsr2 BA hBs
                go_upto_region 31 with fail
                by_cases hc2 : ct = k + 1
                · obtain hnk : n = k + 1 := by omega
                  have hm4 : (Bs.drop (k + 1)).length = 0 := by omega
                  have hsrc4 : ∀ (W : World), ∀ j (hj : j < (Bs.drop (k + 1)).length), W.cell? ⟨gt, 0 + j, none⟩ = (textC (Bs.drop (k + 1))[j])[0]? := fun W j hj => by omega
                  have HSR4 := Lib.hid hsrc4
                  clear hm3 hsrc4
                  subst hc2
                  subst hnk
                  have q9 : (k : Int) ≤ (k : Int) + 1 := by omega
                  have q10 : ¬ (k : Int) + 1 < (k : Int) := by omega
                  go_region_held3 (fun _ => True) (trivial) (first | (refine step_append_sls (α := ByteArray) (w0 := w8.alloc (.cells #[] 9)) (base := w8.heap.size) (M := Bs.take k) (c := textC) (n := 0) (m := k) (b := gt) (off := 0) 31 (by rfl) _ _ (by rfl) (by rfl) (by rfl) HS0.out und31 info9 rfl textC_len textC_one hm1 rfl (HSR1.out _ (HBA.out _)) (by rfl) (by rfl) (by rfl) (by rfl) (by omega) (by omega) (by simp) ?_; intro g6 c6 w6 s6 o6 e6) | (refine step_append_sls (α := ByteArray) (w0 := w6) (base := w8.heap.size) (M := Bs.drop (k + 1)) (c := textC) (n := 0 + k) (m := 0) (b := gt) (off := 0) 31 (by rfl) _ _ (by rfl) (by rfl) (by rfl) s6 und31 info9 rfl textC_len textC_one hm4 (by rw [List.nil_append, hm1, Nat.zero_add]) (HSR4.out _) (by rfl) (by rfl) (by rfl) (by rfl) (by omega) (by omega) (by have := o6.size; simp at this; omega) ?_; intro g7 c7 w7 s7 o7 e7))
                  all_goals
                    have hb6 : Below w8.heap.size w8 w6 := (HBA.out (.cells #[] 9)).trans (o6.below (by simp) (by simp))
                    have b9 : Below w8.heap.size w8 w7 := hb6.trans (o7.below (by intro r hr; simp only [List.mem_singleton] at hr; subst hr; rcases e6 with q | q <;> rw [q] <;> simp) hb6.size)
                    rw [List.nil_append, Nat.zero_add, Nat.add_zero] at s7
                    have R9 := HR8.out.eraseT b9 s7
                    have GG9 : Hid (∃ O, GA w7 bg (bg + 1) bg O ∧ (O.map ab).Perm (openA most (nextA most A k hkA))) := by
                      obtain ⟨O, ga, gp⟩ := GG8.out
                      exact Lib.hid ⟨O, ga.keeps (.of_below b9) b9.size, gp⟩
                    have HR9 := Lib.hid R9
                    clear s6 o6 e6 s7 o7 e7 hb6 b9 R9
                    go_wp2_with fail
                    go_roundw
                    case rel =>
                      refine ⟨nextA most A k hkA, τ + 1, by go_num, Lib.hid (HNXT.out _ _ _ ?_ GG9.out)⟩
                      rw [HNA.out, erase_texts, ← HBs.out]
                      exact HR9.out
                    case measure => simp [intOf]; omega
                · have hc3 : ¬ k + 1 = ct := fun h => hc2 h.symm
                  have hc4 : ¬ ct - (k + 1) = 0 := by omega
                  go_region_held3 (fun _ => True) (trivial) (first | (refine step_append_sls (α := ByteArray) (w0 := w8.alloc (.cells #[] 9)) (base := w8.heap.size) (M := Bs.take k) (c := textC) (n := 0) (m := k) (b := gt) (off := 0) 31 (by rfl) _ _ (by rfl) (by rfl) (by rfl) HS0.out und31 info9 rfl textC_len textC_one hm1 rfl (HSR1.out _ (HBA.out _)) (by rfl) (by rfl) (by rfl) (by rfl) (by omega) (by omega) (by simp) ?_; intro g6 c6 w6 s6 o6 e6) | (refine step_append_sls (α := ByteArray) (w0 := w6) (base := w8.heap.size) (M := Bs.drop (k + 1)) (c := textC) (n := 0 + k) (m := n - (k + 1)) (b := gt) (off := k + 1) 31 (by rfl) _ _ (by rfl) (by rfl) (by rfl) s6 und31 info9 rfl textC_len textC_one hm3 (by rw [List.nil_append, hm1, Nat.zero_add]) (HSR2.out _ ((HBA.out (.cells #[] 9)).trans (o6.below (by simp) (by simp)))) (by rfl) (by rfl) (by rfl) (by rfl) (by omega) (by omega) (by have := o6.size; simp at this; omega) ?_; intro g7 c7 w7 s7 o7 e7))
                  all_goals
                    have hb6 : Below w8.heap.size w8 w6 := (HBA.out (.cells #[] 9)).trans (o6.below (by simp) (by simp))
                    have b9 : Below w8.heap.size w8 w7 := hb6.trans (o7.below (by intro r hr; simp only [List.mem_singleton] at hr; subst hr; rcases e6 with q | q <;> rw [q] <;> simp) hb6.size)
                    rw [List.nil_append, Nat.zero_add] at s7
                    have R9 := HR8.out.eraseT b9 s7
                    have GG9 : Hid (∃ O, GA w7 bg (bg + 1) bg O ∧ (O.map ab).Perm (openA most (nextA most A k hkA))) := by
                      obtain ⟨O, ga, gp⟩ := GG8.out
                      exact Lib.hid ⟨O, ga.keeps (.of_below b9) b9.size, gp⟩
                    have HR9 := Lib.hid R9
                    clear s6 o6 e6 s7 o7 e7 hb6 b9 R9
                    go_wp2_with fail
                    go_roundw
                    case rel =>
                      refine ⟨nextA most A k hkA, τ + 1, by go_num, Lib.hid (HNXT.out _ _ _ ?_ GG9.out)⟩
                      rw [HNA.out, erase_texts, ← HBs.out]
                      exact HR9.out
                    case measure => simp [intOf]; omega
            · have y1 : ((l5 : Int) == 1) = false := by simp; omega
              have z1 : decide (i + 1 = N) = false := by simp [hlast]
              rw [if_neg hlast] at HNA
              simp only [z1, if_neg hlast]
              have hc1 : ¬ cp5 = 1 := by omega
              obtain ⟨R5, K5⟩ := HN5.out (o5 + 4) (fun _ => rfl)
              have RR5 := Lib.hid R5
              have KK5 := Lib.hid K5
              clear z1 hlast hp5l R5 K5 HN5
              go_wp2_with fail
              go_roundw
              case rel =>
                refine ⟨nextA most A k hkA, τ + 1, by go_num, Lib.hid (HNXT.out _ _ _ ?_ ?_)⟩
                · rw [HNA.out, HSETT.out]
                  exact RR5.out
                · obtain ⟨O, ga, gp⟩ := GG3.out
                  exact ⟨O, ga.keeps KK5.out (by simp [World.setCell]), gp⟩
              case measure => simp [intOf]; omega
        · obtain rfl : A = [] := List.eq_nil_of_length_eq_zero (by omega)
          simp only [List.length_nil]
          go_wp2_with fail
          refine (RS.out.open).mono ?_
          rintro e w3 ⟨rfl, rfl⟩
          have HBW := Lib.hid (HBX.out wr RS.out.rows.bel).1
          go_wp2_with fail
          refine (HAW.out _).mono ?_
          rintro e w4 ⟨rfl, b4⟩
          have B4 := Lib.hid (HBW.out.trans (b4.mono HBW.out.size))
          clear b4
          go_wp2_with fail
          go_ret
          exact ⟨rfl, B4.out⟩
end Go.Proofs.Ytbddggdbhfmlnaa
