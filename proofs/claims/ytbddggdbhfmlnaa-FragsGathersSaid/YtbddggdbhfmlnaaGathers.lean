/- FragsGathers: the law's walk. Conditions: none beyond what its arguments' types give. -/
import Derived.Test.YtbddggdbhfmlnaaRfeed
import Derived.Test.YtbddggdbhfmlnaaAwake
namespace Go.Proofs.Ytbddggdbhfmlnaa
open Go.RowKit Go.Rt Go.Rw Go.Mp Go.Lib

theorem rfeed_any {base : Nat} {L : List MsgD} {v : Value} (w : World) (h : Sl w base 68 3 mc v L) (hbase : base ≤ w.heap.size) (hL : L.length ≤ 1000000) (hP : ∀ p ∈ L, p.2.1.size ≤ 262144) (id left : Int) (fi : Bool) (data : ByteArray) (hs : data.size ≤ 9223372036854775807) :
    Calls Try.prog 20 #[v, .agg #[.int .i64 id, .bool fi, .int .i64 left, .string data]] w fun e w' =>
      ∃ v', e = .returned (.tuple #[v', .string (rfeedF L id fi left data).1, .bool (rfeedF L id fi left data).2.1, .int .i64 (rfeedF L id fi left data).2.2.1]) ∧ Sl w' base 68 3 mc v' (rfeedF L id fi left data).2.2.2 ∧ Below w.heap.size w w' := by
  have keep : ∀ {w'}, Below w.heap.size w w' → Sl w' base 68 3 mc v L := fun b => h.below b (fun g hg => (h.lt g hg).2)
  cases hv : validB id left data with
  | false =>
    simp only [rfeedF, hv, if_true]
    exact (rfeed_bad w h hL id left fi data hs hv).mono fun e w' ⟨h1, h2⟩ => ⟨v, h1, keep h2, h2⟩
  | true =>
    cases hg : Mp.get L id with
    | none =>
      simp only [rfeedF, hv, hg, Bool.true_eq_false, if_false]
      cases fi with
      | false =>
        simp only [if_true]
        exact (rfeed_form2 w h hL id left data hv hg).mono fun e w' ⟨h1, h2⟩ => ⟨v, h1, keep h2, h2⟩
      | true =>
        simp only [Bool.true_eq_false, if_false]
        by_cases hl : 1 < left
        · by_cases hn : 64 ≤ L.length
          · rw [if_pos ⟨hl, hn⟩]
            exact (rfeed_full w h hL id left data hv hg hl hn).mono fun e w' ⟨h1, h2⟩ => ⟨v, h1, keep h2, h2⟩
          · rw [if_neg (fun q => hn q.2), if_pos hl]
            have := rfeed_first w h hL id left data hbase hv hg hl (by omega)
            simp only [if_pos hl] at this
            exact this
        · rw [if_neg (fun q => hl q.1), if_neg hl]
          have := rfeed_only w h hL id left data hbase hv hg hl
          simp only [if_neg hl] at this
          exact this
    | some q =>
      obtain ⟨d, nx⟩ := q
      have hds := hP _ (get_some_mem L id (d, nx) hg)
      simp only [rfeedF, hv, hg, Bool.true_eq_false, if_false]
      cases fi with
      | true =>
        simp only [if_true]
        exact (rfeed_form1 w h hL id left data hv d nx hg).mono fun e w' ⟨h1, h2⟩ => ⟨v, h1, keep h2, h2⟩
      | false =>
        simp only [Bool.false_eq_true, if_false]
        by_cases hn : left ≠ nx
        · rw [if_pos hn]
          exact (rfeed_form3 w h hL id left data hv d nx hg hn).mono fun e w' ⟨h1, h2⟩ => ⟨v, h1, keep h2, h2⟩
        · rw [if_neg hn]
          have hn' : left = nx := Classical.not_not.1 hn
          by_cases hlg : 262144 < d.size + data.size
          · rw [if_pos hlg]
            exact (rfeed_long w h hL id left data hv d (hn' ▸ hg) hds hlg).mono fun e w' ⟨h1, h2⟩ => ⟨v, h1, keep h2, h2⟩
          · rw [if_neg hlg]
            have := rfeed_next w h hL id left data hbase hv d (hn' ▸ hg) hds (by omega)
            by_cases hl : 1 < left
            · simp only [if_pos hl] at this ⊢
              exact this
            · simp only [if_neg hl] at this ⊢
              exact this

/-- What holds between two calls: the gatherer and the reference's list; their open messages. -/
structure GS (w : World) (base G m : Nat) (s : Value) (P L L' : List MsgD) (W : World) : Prop where
  bel : Below w.heap.size w W
  le : w.heap.size ≤ base
  ga : ∃ O, GA W base G m O ∧ O.map ab = P
  sl : Sl W base 68 3 mc s L
  pm : P.Perm L'
theorem ab_keys {O : List OE} : (O.map ab).map (·.1) = O.map (·.1) := by
  rw [List.map_map]; rfl
theorem GS.feed {w W : World} {base G m : Nat} {s : Value} {P L : List MsgD} (h : GS w base G m s P L L W) (hL : L.length ≤ 1000000) (hp : ∀ p ∈ L, p.2.1.size ≤ 262144) (id left : Int) (fi : Bool) (data : ByteArray) (hs : data.size ≤ 9223372036854775807) :
    Calls Try.prog 16 #[.pointer (some ⟨G, 0, none⟩), .agg #[.int .i64 id, .bool fi, .int .i64 left, .string data]] W fun e W' =>
      e = .returned (.tuple #[.string (rfeedF L id fi left data).1, .bool (rfeedF L id fi left data).2.1, .int .i64 (rfeedF L id fi left data).2.2.1]) ∧ ∃ P', GS w base G m s P' L (rfeedF L id fi left data).2.2.2 W' := by
  obtain ⟨O, g, hO⟩ := h.ga
  have hk : (P.map (·.1)).Nodup := by rw [← hO, ab_keys]; exact g.keys
  obtain ⟨a1, a2, a3, a4⟩ := feeds_agree h.pm hk id left fi data
  have hpl := h.pm.length_eq
  have hol : O.length = P.length := by rw [← hO]; simp
  have hps : ∀ o ∈ O, o.2.2.1.size ≤ 262144 := fun o ho => hp _ (h.pm.mem_iff.1 (hO ▸ List.mem_map_of_mem (f := ab) ho))
  refine (feed_any W g (by omega) hps id left fi data hs).mono fun e W' ⟨h1, h2, h3⟩ => ?_
  rw [hO, a1, a2, a3] at h1
  rw [hO] at h2
  exact ⟨h1, _, h.bel.trans (h3.bel.mono h.le), h.le, h2, h3.sl h.sl (by decide), a4⟩
theorem GS.rfeed {w W : World} {base G m : Nat} {s : Value} {P L : List MsgD} (id left : Int) (fi : Bool) (data : ByteArray) (h : GS w base G m s P L (rfeedF L id fi left data).2.2.2 W) (hL : L.length ≤ 1000000) (hp : ∀ p ∈ L, p.2.1.size ≤ 262144) (hs : data.size ≤ 9223372036854775807) :
    Calls Try.prog 20 #[s, .agg #[.int .i64 id, .bool fi, .int .i64 left, .string data]] W fun e W' =>
      ∃ sb cb, e = .returned (.tuple #[.slice sb (rfeedF L id fi left data).2.2.2.length cb, .string (rfeedF L id fi left data).1, .bool (rfeedF L id fi left data).2.1, .int .i64 (rfeedF L id fi left data).2.2.1]) ∧ GS w base G m (.slice sb (rfeedF L id fi left data).2.2.2.length cb) P (rfeedF L id fi left data).2.2.2 (rfeedF L id fi left data).2.2.2 W' := by
  obtain ⟨O, g, hO⟩ := h.ga
  refine (rfeed_any W h.sl g.bz hL hp id left fi data hs).mono fun e W' ⟨v', h1, h2, h3⟩ => ?_
  obtain ⟨_, sb, cb, rfl⟩ := (h2.at mc_len).len
  exact ⟨sb, cb, h1, h.bel.trans (h3.mono h.bel.size), h.le, ⟨O, g.below h3, hO⟩, h2, h.pm⟩
theorem GS.open {w W : World} {base G m : Nat} {s : Value} {P L : List MsgD} (h : GS w base G m s P L L W) (hL : L.length ≤ 1000000) :
    Calls Try.prog 17 #[.pointer (some ⟨G, 0, none⟩)] W fun e W' => e = .returned (.int .i64 L.length) ∧ W = W' := by
  obtain ⟨O, g, hO⟩ := h.ga
  have hol : O.length = L.length := by rw [← h.pm.length_eq, ← hO]; simp
  rw [← hol]
  exact open_any W g (by omega)
theorem GS.forget {w W : World} {base G m : Nat} {s : Value} {P L : List MsgD} (h : GS w base G m s P L L W) :
    Calls Try.prog 19 #[.pointer (some ⟨G, 0, none⟩)] W fun e W' => e = .returned (.tuple #[]) ∧ GS w base G m (.slice none 0 0) [] [] [] W' := by
  obtain ⟨O, g, hO⟩ := h.ga
  exact (forget_any W g).mono fun e W' ⟨h1, h2, h3⟩ => ⟨h1, h.bel.trans (h3.bel.mono h.le), h.le, ⟨[], h2, rfl⟩, Sl.nil _ _ _ _ _, List.Perm.nil⟩

abbrev ActD := FragD × Bool
def ac (a : ActD) : List Value := [.int .i64 a.1.1, .bool a.1.2.1, .int .i64 a.1.2.2.1, .string a.1.2.2.2, .bool a.2]
theorem ac_len (a : ActD) : (ac a).length = 5 := rfl

set_option maxRecDepth 100000 in
set_option maxHeartbeats 4000000 in
theorem gathers_walk (v : Value) (As : List ActD) (w : World) (hA : SlAt w 5 ac v As) (hs : ∀ a ∈ As, a.1.2.2.2.size ≤ 9223372036854775807) :
    Calls Try.prog 7 #[v] w fun e w' => e = .returned (.bool true) ∧ Below w.heap.size w w' := by
  obtain ⟨hlen, sa, cap, rfl⟩ := hA.len
  have HA := Lib.hid hA
  have HS := Lib.hid hs
  have HW := Lib.hid awake_any
  clear hA hs
  by_cases hbig : 300 < As.length
  · have d0 : (300 : Int) < (As.length : Int) := by omega
    go_enter Try.func7, Try.ntmps7
    go_wp2_with fail
    refine (HW.out _).mono ?_
    rintro e w1 ⟨rfl, b1⟩
    have B1 := Lib.hid b1
    clear b1
    go_wp2_with fail
    go_ret
    exact ⟨rfl, B1.out⟩
  · have d0 : ¬ (300 : Int) < (As.length : Int) := by omega
    go_enter Try.func7, Try.ntmps7
    go_wp2_with fail
    go_loopw [3] (fun i wr => ∃ k : Nat, k ≤ As.length ∧ i = .int .i64 k ∧ w = wr) (fun i _ => As.length - (intOf i).toNat)
    case atStart => exact ⟨0, Nat.zero_le _, rfl, rfl⟩
    case round =>
      obtain ⟨k, hk, rfl, rfl⟩ := hrel
      by_cases hlt : k < As.length
      · obtain ⟨b, o, rfl, q, c⟩ := HA.out.get (by omega)
        have c3 := c k 3 hlt (by omega)
        simp only [ac, List.getElem?_cons_zero, List.getElem?_cons_succ] at c3
        clear c
        by_cases hd : 10000 < As[k].1.2.2.2.size
        · have hd' : (10000 : Int) < (As[k].1.2.2.2.size : Int) := by omega
          have hd'' := HS.out _ (List.getElem_mem hlt)
          go_wp2_with fail
          refine (HW.out _).mono ?_
          rintro e w1 ⟨rfl, b1⟩
          have B1 := Lib.hid b1
          clear b1
          go_wp2_with fail
          go_ret
          exact ⟨rfl, B1.out⟩
        · have hd' : ¬ (10000 : Int) < (As[k].1.2.2.2.size : Int) := by omega
          go_wp2_with fail
          go_roundw
          case rel => exact ⟨k + 1, by omega, by go_num, trivial⟩
          case measure => simp [intOf]; omega
      · clear hk
        go_wp2_with fail
        refine (new_any _).mono ?_
        rintro e w1 ⟨rfl, g1, b1⟩
        have R1 : Hid (GS w w.heap.size (w.heap.size + 1) w.heap.size (.slice none 0 0) [] [] [] w1) := Lib.hid ⟨b1, Nat.le_refl _, ⟨[], g1, rfl⟩, Sl.nil _ _ _ _ _, List.Perm.nil⟩
        clear g1 b1
        go_wp2_with fail
        go_loopw [5, 6] (fun s i wr => ∃ (k : Nat) (P L : List MsgD), k ≤ As.length ∧ i = .int .i64 k ∧ L.length ≤ k ∧ (∀ p ∈ L, p.2.1.size ≤ 262144) ∧ Hid (GS w w.heap.size (w.heap.size + 1) w.heap.size s P L L wr)) (fun _ i _ => As.length - (intOf i).toNat)
        case atStart => exact ⟨0, [], [], Nat.zero_le _, rfl, by simp, by simp, R1⟩
        case round =>
          obtain ⟨j, P, L, hj, rfl, hL, hsm, RJ⟩ := hrel
          obtain ⟨_, sb, cb, rfl⟩ := (RJ.out.sl.at mc_len).len
          by_cases hlt : j < As.length
          · obtain ⟨b, o, rfl, q, c⟩ := HA.out.get (by omega)
            have bl := RJ.out.bel
            have c0 := c j 0 hlt (by omega)
            have c1 := c j 1 hlt (by omega)
            have c2 := c j 2 hlt (by omega)
            have c3 := c j 3 hlt (by omega)
            have c4 := c j 4 hlt (by omega)
            have hds := HS.out _ (List.getElem_mem hlt)
            obtain ⟨A, hAj⟩ : ∃ A, A = As[j] := ⟨_, rfl⟩
            rw [← hAj] at c0 c1 c2 c3 c4 hds
            clear hAj c
            obtain ⟨⟨id, fi, left, dt⟩, fg⟩ := A
            simp only [ac, List.getElem?_cons_zero, List.getElem?_cons_succ, Nat.add_zero] at c0 c1 c2 c3 c4 hds
            have HCC : Hid (∀ W, Below w.heap.size w W → W.cell? ⟨b, o + j * 5, none⟩ = some (.int .i64 id) ∧ W.cell? ⟨b, o + j * 5 + 1, none⟩ = some (.bool fi) ∧ W.cell? ⟨b, o + j * 5 + 2, none⟩ = some (.int .i64 left) ∧ W.cell? ⟨b, o + j * 5 + 3, none⟩ = some (.string dt) ∧ W.cell? ⟨b, o + j * 5 + 4, none⟩ = some (.bool fg)) :=
              Lib.hid fun W bw => ⟨(bw.cell (p := ⟨b, o + j * 5, none⟩) q).trans c0, (bw.cell (p := ⟨b, o + j * 5 + 1, none⟩) q).trans c1, (bw.cell (p := ⟨b, o + j * 5 + 2, none⟩) q).trans c2, (bw.cell (p := ⟨b, o + j * 5 + 3, none⟩) q).trans c3, (bw.cell (p := ⟨b, o + j * 5 + 4, none⟩) q).trans c4⟩
            clear c0 c1 c2 c3 c4
            obtain ⟨c0, c1, c2, c3, c4⟩ := HCC.out wr bl
            clear bl
            cases fg
            · go_wp2_with fail
              refine (RJ.out.feed (by omega) hsm id left fi dt hds).mono ?_
              rintro e w2 ⟨rfl, P', R2⟩
              have hsmall := rfeed_small hL hsm id left fi dt
              have HF := Lib.hid (fun W (h : GS w w.heap.size (w.heap.size + 1) w.heap.size (.slice sb L.length cb) P' L (rfeedF L id fi left dt).2.2.2 W) => GS.rfeed id left fi dt h (by omega) hsm hds)
              obtain ⟨RF, hRF⟩ : ∃ RF, RF = rfeedF L id fi left dt := ⟨_, rfl⟩
              rw [← hRF] at R2 HF hsmall ⊢
              clear hRF
              obtain ⟨rs, rb, re, rl⟩ := RF
              simp only at R2 HF hsmall ⊢
              have RR := Lib.hid R2
              clear R2 RJ c0 c1 c2 c3 c4
              obtain ⟨c0, c1, c2, c3, c4⟩ := HCC.out w2 RR.out.bel
              go_wp2_with fail
              refine (HF.out _ RR.out).mono ?_
              rintro e w3 ⟨sb3, cb3, rfl, R3⟩
              have RR3 := Lib.hid R3
              clear R3 c0 c1 c2 c3 c4
              have t1 : (rs.toList == rs.toList) = true := by simp
              have t2 : ((rl.length : Int) != (rl.length : Int)) = false := by simp
              have t3 : (re != re) = false := by simp
              have t4 : (rb != rb) = false := by simp
              go_wp2_with fail
              refine (RR3.out.open (by omega)).mono ?_
              rintro e w4 ⟨rfl, rfl⟩
              go_wp2_with fail
              go_roundw
              case rel => exact ⟨j + 1, P', rl, by omega, by go_num, hsmall.1, hsmall.2, RR3⟩
              case measure => simp [intOf]; omega
            · go_wp2_with fail
              refine (RJ.out.forget).mono ?_
              rintro e w2 ⟨rfl, R2⟩
              have RR := Lib.hid R2
              clear R2 RJ c0 c1 c2 c3 c4
              go_wp2_with fail
              refine (RR.out.open (by simp)).mono ?_
              rintro e w3 ⟨rfl, rfl⟩
              go_wp2_with fail
              go_roundw
              case rel => exact ⟨j + 1, [], [], by omega, by go_num, by simp, by simp, RR⟩
              case measure => simp [intOf]; omega
          · clear hj
            go_wp2_with fail
            refine (HW.out _).mono ?_
            rintro e w2 ⟨rfl, b2⟩
            have B2 := Lib.hid (RJ.out.bel.trans (b2.mono RJ.out.bel.size))
            clear b2
            go_wp2_with fail
            go_ret
            exact ⟨rfl, B2.out⟩
end Go.Proofs.Ytbddggdbhfmlnaa
