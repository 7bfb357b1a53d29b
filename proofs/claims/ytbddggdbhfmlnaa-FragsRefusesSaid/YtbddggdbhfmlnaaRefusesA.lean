/- The walk of FragsRefuses. -/
import Derived.Test.YtbddggdbhfmlnaaFeeds
import Derived.Deep.RegionWith
import Derived.Deep.DeepCutAuto
namespace Go.Proofs.Ytbddggdbhfmlnaa
open Go.RowKit Go.Rt Go.Rw Go.Mp Go.Lib

def strC (s : ByteArray) : List Value := [.string s]
theorem strC_len (s : ByteArray) : (strC s).length = 1 := rfl

/-- What holds between two calls: the two boxes, the list of fragments, the gatherer. -/
structure RS (w : World) (xv ov : Array Value) (v : Value) (L : List FragD) (base G m : Nat) (P : PL) (W : World) : Prop where
  bel : Below w.heap.size w W
  bx : W.heap[w.heap.size]? = some (.cells xv 34 (0, 0))
  bo : W.heap[w.heap.size + 1]? = some (.cells ov 30 (0, 0))
  sl : Sl W w.heap.size 30 4 fc v L
  le : w.heap.size ≤ base
  ga : ∃ O, GA W base G m O ∧ O.map ab = P
theorem RS.fr {w W W' : World} {xv ov : Array Value} {v : Value} {L : List FragD} {base G m : Nat} {P P' : PL} (h : RS w xv ov v L base G m P W) (hl : Leaves W base G m P' W') : RS w xv ov v L base G m P' W' :=
  ⟨h.bel.trans (hl.2.bel.mono h.le), hl.2.oth _ _ _ _ h.bx (by decide), hl.2.oth _ _ _ _ h.bo (by decide), hl.2.sl h.sl (by decide), h.le, hl.1⟩
theorem RS.drewN {w W : World} {xv ov : Array Value} {v : Value} {L : List FragD} {base G m : Nat} {P : PL} (h : RS w xv ov v L base G m P W) (n : Nat) : RS w xv ov v L base G m P (W.drewN n) := by
  obtain ⟨O, g, hO⟩ := h.ga
  exact ⟨⟨h.bel.os, h.bel.tape, h.bel.output, h.bel.size, h.bel.block⟩, h.bx, h.bo, h.sl, h.le, O, ⟨g.blk, g.mp, g.rows, g.apart, g.keys, g.bG, g.bm, g.bz⟩, hO⟩
theorem RS.feed {w W : World} {xv ov : Array Value} {v : Value} {L : List FragD} {base G m : Nat} {P : PL} (h : RS w xv ov v L base G m P W) (hP : P.length ≤ 1000000) (hp : ∀ p ∈ P, p.2.1.size ≤ 262144) (id left : Int) (fi : Bool) (data : ByteArray) (hs : data.size ≤ 9223372036854775807) :
    Calls Try.prog 16 #[.pointer (some ⟨G, 0, none⟩), .agg #[.int .i64 id, .bool fi, .int .i64 left, .string data]] W fun e W' =>
      e = .returned (.tuple #[.string (feedF P id fi left data).1, .bool (feedF P id fi left data).2.1, .int .i64 (feedF P id fi left data).2.2.1]) ∧ RS w xv ov v L base G m (feedF P id fi left data).2.2.2 W' := by
  obtain ⟨O, g, rfl⟩ := h.ga
  exact (feed_any W g (by simpa using hP) (small_of_map rfl hp) id left fi data hs).mono fun e W' ⟨h1, h2⟩ => ⟨h1, h.fr h2⟩
theorem RS.open {w W : World} {xv ov : Array Value} {v : Value} {L : List FragD} {base G m : Nat} {P : PL} (h : RS w xv ov v L base G m P W) (hP : P.length ≤ 1000000) :
    Calls Try.prog 17 #[.pointer (some ⟨G, 0, none⟩)] W fun e W' => e = .returned (.int .i64 P.length) ∧ W = W' := by
  obtain ⟨O, g, rfl⟩ := h.ga
  simpa using open_any W g (by simpa using hP)

theorem tmod_bd (a : Int) (n : Nat) (h : 0 < n) : -(n : Int) < a.tmod n ∧ a.tmod n < n := by
  rcases Int.le_total 0 a with h0 | h0
  · rw [Int.tmod_eq_emod_of_nonneg h0]
    have := Int.emod_nonneg a (b := n) (by omega)
    have := Int.emod_lt_of_pos a (b := n) (by omega)
    omega
  · have e : a.tmod n = -((-a) % (n : Int)) := by
      rw [← Int.tmod_eq_emod_of_nonneg (by omega), Int.neg_tmod]; omega
    rw [e]
    have := Int.emod_nonneg (-a) (b := n) (by omega)
    have := Int.emod_lt_of_pos (-a) (b := n) (by omega)
    omega

def wrongB (k : Nat) (N id left : Int) (fi : Bool) : Bool := decide ((id = 5 ∧ 0 < k ∧ (fi = true ∨ left ≠ N - (k : Int))) ∨ ((id ≠ 5 ∨ k = 0) ∧ fi = false))

theorem wrong_eq (k : Nat) (N id left : Int) (fi : Bool) : wrongB k N id left fi = (decide (id = 5) && decide (0 < k) && (fi || decide (left ≠ N - (k : Int))) || ((!decide (id = 5) || !decide (0 < k)) && !fi)) := by
  unfold wrongB
  rcases Nat.eq_zero_or_pos k with rfl | hk
  · cases fi <;> by_cases h1 : id = 5 <;> simp [h1]
  · have hk' : k ≠ 0 := by omega
    cases fi <;> by_cases h1 : id = 5 <;> by_cases h3 : left = N - k <;> simp [h1, h3, hk, hk']

set_option maxRecDepth 100000 in
set_option maxHeartbeats 16000000 in
theorem refuses_yes (vT vO : Value) (t : ByteArray) (most : Nat) (id left at' : Int) (fi : Bool) (od : ByteArray) (w : World) (hT : SlAt w 1 strC vT [t]) (ht : t.size ≤ 3000) (hm : 1 ≤ most) (hm2 : most ≤ 4096) (hv : validB id left od = true)
    (_ha1 : -9223372036854775808 ≤ at') (_ha2 : at' ≤ 9223372036854775807) (hO : ∃ sa n cap, vO = .slice sa n cap) :
    Calls Try.prog 6 #[.agg #[vT, .int .i64 most, vO], .agg #[.int .i64 id, .bool fi, .int .i64 left, .string od], .int .i64 at'] w fun e w' => e = .returned (.bool true) ∧ Below w.heap.size w w' := by
  obtain ⟨sO, nO, cO, rfl⟩ := hO
  obtain ⟨_, sT, cT, rfl⟩ := hT.len
  obtain ⟨bT, oT, rfl, hbT, hcT⟩ := hT.get (by simp)
  have hc0 := hcT 0 0 (by simp) (by omega)
  simp only [Nat.zero_mul, Nat.add_zero, List.getElem_cons_zero, strC, List.getElem?_cons_zero] at hc0
  have d1 : ¬ (3000 : Int) < t.size := by omega
  have d3 : ¬ (most : Int) < 1 := by omega
  have d4 : ¬ 4096 < (most : Int) := by omega
  clear hcT hT
  simp only [List.length_cons, List.length_nil, Nat.zero_add]
  go_enter Try.func6, Try.ntmps6
  go_wp2_with fail
  refine (rvalid_yes id left fi od _ hv).mono ?_
  rintro e w1 ⟨rfl, b1⟩
  have hb1 : w1.heap[w.heap.size]? = some (.cells #[.slice (some ⟨bT, oT, none⟩) 1 cT, .int .i64 most, .slice sO nO cO] 34 (0, 0)) :=
    (b1.block w.heap.size (by simp; omega)).trans ((Below.heap_alloc _ _ _ (by simp)).trans (World.alloc_heap_new w _))
  have hb2 : w1.heap[w.heap.size + 1]? = some (.cells #[.int .i64 id, .bool fi, .int .i64 left, .string od] 30 (0, 0)) := by
    refine (b1.block (w.heap.size + 1) (by simp)).trans ?_
    have := World.alloc_heap_new (w.alloc (.cells #[.slice (some ⟨bT, oT, none⟩) 1 cT, .int .i64 most, .slice sO nO cO] 34)) (.cells #[.int .i64 id, .bool fi, .int .i64 left, .string od] 30)
    simpa using this
  have B1 : Below w.heap.size w w1 := (((Below.refl _ w).alloc (Nat.le_refl _) _).alloc (by simp) _).trans (b1.mono (by simp; omega))
  have x0 := cell_at hb1 0
  have x1 := cell_at hb1 1
  simp only [List.getElem?_toArray, List.getElem?_cons_zero, List.getElem?_cons_succ] at x0 x1
  have x2 := (B1.cell (p := ⟨bT, oT, none⟩) hbT).trans hc0
  have HB1 := Lib.hid hb1
  have HB2 := Lib.hid hb2
  have HBL := Lib.hid B1
  clear b1 hb1 hb2 B1
  have HC : Hid (∀ w, Calls Try.prog 12 #[.int .i64 5, .string t, .int .i64 most] w fun e w' => ∃ g cap, e = .returned (.tuple #[.slice (some ⟨g, 0, none⟩) (manyK t most) cap, .int .i64 0]) ∧ Sl w' w.heap.size 30 4 fc (.slice (some ⟨g, 0, none⟩) (manyK t most) cap) (cutL 5 t most) ∧ Below w.heap.size w w') := by
    refine Lib.hid fun w => (cut_ok 5 t most w (by omega) (by omega) hm hm2 (by omega)).mono ?_
    rintro e w' ⟨v, rfl, s2, b2⟩
    rcases s2.form with ⟨_, h0⟩ | ⟨g0, cap0, e, _⟩
    · have := cutL_len 5 t most; have := many_pos t most; rw [h0] at *; simp at *; omega
    · rw [cutL_len] at e; subst e; exact ⟨_, _, rfl, s2, b2⟩
  have hml := many_le t most hm
  have hmp := many_pos t most
  have HFP := Lib.hid (fun i => feed_piece 5 t most i (by omega) (by omega) hm hm2 (by omega))
  have HFW := Lib.hid (fun k => feed_wrong t most k id left fi od)
  have HG := Lib.hid (cutL_get 5 t most)
  have HLN := Lib.hid (cutL_len 5 t most)
  have HO0 : Hid (openK 5 t most 0 = []) := by refine Lib.hid ?_; simp [openK]
  have HON : Hid (openK 5 t most (manyK t most) = []) := by refine Lib.hid ?_; simp [openK]
  obtain ⟨N, hNe⟩ : ∃ N, N = manyK t most := ⟨_, rfl⟩
  rw [← hNe] at HC hml hmp HFP HFW HG HLN HON
  clear hNe
  have hv' := valid_of hv
  go_upto_region 3 with fail
  go_cut [7, 8] (fun s7 s8 wx => ∃ g cap, s7 = .slice (some ⟨g, 0, none⟩) N cap ∧ s8 = .int .i64 0 ∧ Sl wx w1.heap.size 30 4 fc (.slice (some ⟨g, 0, none⟩) N cap) (cutL 5 t most) ∧ Below w1.heap.size w1 wx)
  case first =>
    go_region_with (go_at_call 12; refine (HC.out _).mono ?_; rintro e w2 ⟨g, cap, rfl, s2, b2⟩)
    all_goals (go_wp2_with fail; go_meet; exact ⟨g, cap, rfl, rfl, s2, ⟨b2.os, b2.tape, b2.output, b2.size, b2.block⟩⟩)
  case rest =>
    obtain ⟨g, cap, rfl, rfl, s2, b2⟩ := hcut
    have hz2 := b2.size
    have R2 : Hid (Below w.heap.size w wc ∧ wc.heap[w.heap.size]? = some (.cells #[.slice (some ⟨bT, oT, none⟩) 1 cT, .int .i64 most, .slice sO nO cO] 34 (0, 0)) ∧ wc.heap[w.heap.size + 1]? = some (.cells #[.int .i64 id, .bool fi, .int .i64 left, .string od] 30 (0, 0)) ∧ Sl wc w.heap.size 30 4 fc (.slice (some ⟨g, 0, none⟩) N cap) (cutL 5 t most)) := by
      refine Lib.hid ⟨HBL.out.trans (b2.mono HBL.out.size), (b2.block _ (Array.getElem?_eq_some_iff.1 HB1.out).1).trans HB1.out, (b2.block _ (Array.getElem?_eq_some_iff.1 HB2.out).1).trans HB2.out, s2.mono HBL.out.size⟩
    clear s2 b2
    have hN0 : ((N : Int) == 0) = false := by simp; omega
    obtain ⟨wd, rfl⟩ : ∃ wd, wd = wc := ⟨_, rfl⟩
    have hr := tmod_bd at' N (by omega)
    obtain ⟨hr1, hr2⟩ := hr
    go_upto_if 74 with fail
    go_cut [9] (fun s9 wx => ∃ k : Nat, k < N ∧ s9 = .int .i64 k ∧ wd = wx)
    case first =>
      as_aux_lemma =>
        go_wp2_with fail
        · have hn : at'.tmod N < 0 := by assumption
          go_meet
          exact ⟨(at'.tmod N + N).toNat, by omega, by rw [Int.toNat_of_nonneg (by omega)], rfl⟩
        · have hn : 0 ≤ at'.tmod N := by assumption
          go_meet
          exact ⟨(at'.tmod N).toNat, by omega, by rw [Int.toNat_of_nonneg (by omega)], rfl⟩
    case rest =>
      obtain ⟨k, hk, rfl, rfl⟩ := hcut
      clear hr1 hr2
      go_wp2_with fail
      refine (new_any _).mono ?_
      rintro e w3 ⟨rfl, g3, b3⟩
      have R3 : Hid (RS w #[.slice (some ⟨bT, oT, none⟩) 1 cT, .int .i64 most, .slice sO nO cO] #[.int .i64 id, .bool fi, .int .i64 left, .string od] (.slice (some ⟨g, 0, none⟩) N cap) (cutL 5 t most) wd.heap.size (wd.heap.size + 1) wd.heap.size [] w3) := by
        obtain ⟨q1, q2, q3, q4⟩ := R2.out
        refine Lib.hid ⟨q1.trans (b3.mono q1.size), (b3.block _ (Array.getElem?_eq_some_iff.1 q2).1).trans q2, (b3.block _ (Array.getElem?_eq_some_iff.1 q3).1).trans q3, q4.below b3 (fun g' hg' => (q4.lt g' hg').2), q1.size, [], g3, rfl⟩
      clear g3 b3
      go_wp2_with fail
      go_loopw [11] (fun i wr => ∃ j : Nat, j ≤ k ∧ i = .int .i64 j ∧ Hid (RS w #[.slice (some ⟨bT, oT, none⟩) 1 cT, .int .i64 most, .slice sO nO cO] #[.int .i64 id, .bool fi, .int .i64 left, .string od] (.slice (some ⟨g, 0, none⟩) N cap) (cutL 5 t most) wd.heap.size (wd.heap.size + 1) wd.heap.size (openK 5 t most j) wr)) (fun i _ => k - (intOf i).toNat)
      case atStart => exact ⟨0, Nat.zero_le _, rfl, by rw [HO0.out]; exact R3⟩
      case round =>
        obtain ⟨j, hj, rfl, RJ⟩ := hrel
        by_cases hlt : j < k
        · have hjl : j < (cutL 5 t most).length := by rw [HLN.out]; omega
          have c0 := RJ.out.sl.cell fc_len j 0 hjl (by omega)
          have c1 := RJ.out.sl.cell fc_len j 1 hjl (by omega)
          have c2 := RJ.out.sl.cell fc_len j 2 hjl (by omega)
          have c3 := RJ.out.sl.cell fc_len j 3 hjl (by omega)
          rw [HG.out j hjl] at c0 c1 c2 c3
          simp only [fc, List.getElem?_cons_zero, List.getElem?_cons_succ, Nat.add_zero] at c0 c1 c2 c3
          have hps : (partK t most j).size ≤ 9223372036854775807 := by have := part_size t most j; have := (at_mono t most j).2.1; omega
          go_wp2_with fail
          refine (RJ.out.feed (by have := openK_len 5 t most j; omega) (openK_small 5 t most j (by omega)) _ _ _ _ hps).mono ?_
          rw [HFP.out j (by omega)]
          simp only
          rintro e w4 ⟨rfl, R4⟩
          have RR := Lib.hid R4
          clear R4 c0 c1 c2 c3
          go_wp2
          go_roundw
          case rel => exact ⟨j + 1, by omega, by go_num, RR⟩
          case measure => simp [intOf]; omega
        · obtain rfl : j = k := by omega
          clear hlt
          go_wp2_with fail
          refine (RJ.out.open (by have := openK_len 5 t most j; omega)).mono ?_
          rintro e w' ⟨rfl, rfl⟩
          have o0 := cell_at RJ.out.bo 0
          have o1 := cell_at RJ.out.bo 1
          have o2 := cell_at RJ.out.bo 2
          have o3 := cell_at RJ.out.bo 3
          have hjl : j < (cutL 5 t most).length := by rw [HLN.out]; omega
          have c2 := RJ.out.sl.cell fc_len j 2 hjl (by omega)
          rw [HG.out j hjl] at c2
          simp only [fc, List.getElem?_toArray, List.getElem?_cons_zero, List.getElem?_cons_succ] at o0 o1 o2 o3 c2
          obtain ⟨b5, hb5⟩ : ∃ b, decide (id = 5) = b := ⟨_, rfl⟩
          obtain ⟨bk, hbk⟩ : ∃ b, decide (0 < j) = b := ⟨_, rfl⟩
          obtain ⟨bl, hbl⟩ : ∃ b, decide (left ≠ (N : Int) - j) = b := ⟨_, rfl⟩
          have HW : Hid (wrongB j N id left fi = (b5 && bk && (fi || bl) || ((!b5 || !bk) && !fi))) := by
            refine Lib.hid ?_
            rw [← hb5, ← hbk, ← hbl]
            exact wrong_eq j N id left fi
          have y1 : (id == 5) = b5 := by rw [← hb5, Bool.eq_iff_iff]; simp
          have y2 : (id != 5) = !b5 := by rw [← hb5, Bool.eq_iff_iff]; simp
          have y3 : decide ((0 : Int) < j) = bk := by rw [← hbk, Bool.eq_iff_iff]; simp
          have y4 : ((j : Int) == 0) = !bk := by rw [← hbk, Bool.eq_iff_iff]; simp
          have y5 : (left != (N : Int) - j) = bl := by rw [← hbl, Bool.eq_iff_iff]; simp
          clear hb5 hbk hbl hjl
          obtain ⟨we, rfl⟩ : ∃ we, we = wr := ⟨_, rfl⟩
          go_upto_region 17 with fail
          go_cut [16] (fun s16 wx => s16 = .bool (wrongB j N id left fi) ∧ ∃ n, wx = we.drewN n)
          case first =>
            as_aux_lemma =>
              cases b5
              · cases fi
                all_goals
                  simp only [Bool.not_false] at y2
                  go_quiet (fail)
                  go_wp2_with fail
                  go_meet
                  exact ⟨by rw [HW.out]; simp, _, rfl⟩
              · cases bk
                · have hj0 : j = 0 := by have := y3; rw [decide_eq_false_iff_not] at this; omega
                  subst hj0
                  clear y3 y4
                  simp only [Int.cast_ofNat_Int]
                  cases fi
                  all_goals
                    simp only [Bool.not_true] at y2
                    go_quiet (fail)
                    go_wp2_with fail
                    go_meet
                    exact ⟨by rw [HW.out]; simp, _, rfl⟩
                · have y3n : 0 < j := by have := y3; rw [decide_eq_true_eq] at this; omega
                  cases fi
                  · cases bl
                    all_goals
                      simp only [Bool.not_true] at y2 y4
                      go_quiet (fail)
                      go_wp2_with fail
                      go_meet
                      exact ⟨by rw [HW.out]; simp, _, rfl⟩
                  · simp only [Bool.not_true] at y2 y4
                    go_quiet (fail)
                    go_wp2_with fail
                    go_meet
                    exact ⟨by rw [HW.out]; simp, _, rfl⟩
          case rest =>
            obtain ⟨rfl, n, rfl⟩ := hcut
            clear y1 y2 y3 y4 y5 HW
            have RN := Lib.hid (RJ.out.drewN n)
            clear RJ c2
            obtain ⟨wf, hwf⟩ : ∃ wf, wf = we.drewN n := ⟨_, rfl⟩
            rw [← hwf] at RN ⊢
            have p0 := cell_at RN.out.bo 0
            have p1 := cell_at RN.out.bo 1
            have p2 := cell_at RN.out.bo 2
            have p3 := cell_at RN.out.bo 3
            simp only [List.getElem?_toArray, List.getElem?_cons_zero, List.getElem?_cons_succ] at p0 p1 p2 p3
            have hlo := openK_len 5 t most j
            have hq6 : (((openK 5 t most j).length : Int) != (openK 5 t most j).length) = false := by simp
            clear hwf o0 o1 o2 o3
            go_upto_if 134 with fail
            go_cut [16] (fun s16 wx => s16 = s16 ∧ Hid (RS w #[.slice (some ⟨bT, oT, none⟩) 1 cT, .int .i64 most, .slice sO nO cO] #[.int .i64 id, .bool fi, .int .i64 left, .string od] (.slice (some ⟨g, 0, none⟩) N cap) (cutL 5 t most) wd.heap.size (wd.heap.size + 1) wd.heap.size (openK 5 t most j) wx))
            case first =>
              as_aux_lemma =>
                cases hw : wrongB j N id left fi
                · go_wp2_with fail
                  go_meet
                  exact ⟨trivial, RN⟩
                · have hww := HFW.out j hk hv (by simpa [wrongB] using hw)
                  have HWW := Lib.hid hww
                  clear hww
                  go_wp2_with fail
                  refine (RN.out.feed (by omega) (openK_small 5 t most j (by omega)) _ _ _ _ (by omega)).mono ?_
                  rw [HWW.out]
                  simp only
                  rintro e w5 ⟨rfl, R5⟩
                  have RR5 := Lib.hid R5
                  clear R5
                  go_wp2_with fail
                  refine (RR5.out.open (by omega)).mono ?_
                  rintro e w' ⟨rfl, rfl⟩
                  go_wp2_with fail
                  go_meet
                  exact ⟨trivial, RR5⟩
            case rest =>
              have RQ := hcut.2
              clear RN hcut p0 p1 p2 p3
              go_wp2_with fail
              go_loopw [20] (fun i wr => ∃ i' : Nat, i' ≤ N ∧ i = .int .i64 i' ∧ Hid (RS w #[.slice (some ⟨bT, oT, none⟩) 1 cT, .int .i64 most, .slice sO nO cO] #[.int .i64 id, .bool fi, .int .i64 left, .string od] (.slice (some ⟨g, 0, none⟩) N cap) (cutL 5 t most) wd.heap.size (wd.heap.size + 1) wd.heap.size (openK 5 t most i') wr)) (fun i _ => N - (intOf i).toNat)
              case atStart => exact ⟨j, by omega, rfl, RQ⟩
              case round =>
                as_aux_lemma =>
                  obtain ⟨i', hi', rfl, RI⟩ := hrel
                  by_cases hlt : i' < N
                  · have hjl : i' < (cutL 5 t most).length := by rw [HLN.out]; omega
                    have c0 := RI.out.sl.cell fc_len i' 0 hjl (by omega)
                    have c1 := RI.out.sl.cell fc_len i' 1 hjl (by omega)
                    have c2 := RI.out.sl.cell fc_len i' 2 hjl (by omega)
                    have c3 := RI.out.sl.cell fc_len i' 3 hjl (by omega)
                    rw [HG.out i' hjl] at c0 c1 c2 c3
                    simp only [fc, List.getElem?_cons_zero, List.getElem?_cons_succ, Nat.add_zero] at c0 c1 c2 c3
                    have hps : (partK t most i').size ≤ 9223372036854775807 := by have := part_size t most i'; have := (at_mono t most i').2.1; omega
                    go_wp2_with fail
                    refine (RI.out.feed (by have := openK_len 5 t most i'; omega) (openK_small 5 t most i' (by omega)) _ _ _ _ hps).mono ?_
                    rw [HFP.out i' (by omega)]
                    simp only
                    rintro e w6 ⟨rfl, R6⟩
                    have z1 : (((i' : Int) + 1) == (N : Int)) = decide (i' + 1 = N) := by rw [Bool.eq_iff_iff]; simp; omega
                    have x0' := cell_at R6.bx 0
                    simp only [List.getElem?_toArray, List.getElem?_cons_zero] at x0'
                    have x2' := (R6.bel.cell (p := ⟨bT, oT, none⟩) hbT).trans hc0
                    have RR6 := Lib.hid R6
                    have tt : (t.toList == t.toList) = true := by simp
                    clear R6 c0 c1 c2 c3
                    by_cases hend : i' + 1 = N
                    · rw [if_pos hend]
                      have z2 : decide (i' + 1 = N) = true := by simp [hend]
                      rw [z2] at z1 ⊢
                      clear z2 hend
                      go_wp2
                      go_roundw
                      case rel => exact ⟨i' + 1, by omega, by go_num, RR6⟩
                      case measure => simp [intOf]; omega
                    · rw [if_neg hend]
                      have z2 : decide (i' + 1 = N) = false := by simp [hend]
                      rw [z2] at z1 ⊢
                      clear z2 hend
                      go_wp2
                      go_roundw
                      case rel => exact ⟨i' + 1, by omega, by go_num, RR6⟩
                      case measure => simp [intOf]; omega
                  · clear hk hi'
                    go_wp2_with fail
                    refine (awake_any _).mono ?_
                    rintro e w7 ⟨rfl, b7⟩
                    have B7 := Lib.hid (RI.out.bel.trans (b7.mono RI.out.bel.size))
                    clear b7
                    go_wp2
                    go_ret
                    exact ⟨rfl, B7.out⟩
end Go.Proofs.Ytbddggdbhfmlnaa
