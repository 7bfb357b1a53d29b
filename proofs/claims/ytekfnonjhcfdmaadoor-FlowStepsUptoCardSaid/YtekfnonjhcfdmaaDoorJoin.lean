/- flow's sets of numbers: join. -/
import Derived.Test.YtekfnonjhcfdmaaDoorSet
import Derived.Deep.RegionWith
import Derived.Deep.DeepCutAuto
namespace Go.Proofs.YtekfnonjhcfdmaaDoor
open Go.RowKit Go.Rt Go.Rw

/-- Without the bits of another word. -/
def andN (a b : Nat) : Nat := a ^^^ (a &&& b)
theorem andN_bit (a b j : Nat) : (andN a b).testBit j = (a.testBit j && !b.testBit j) := by
  unfold andN
  rw [Nat.testBit_xor, Nat.testBit_and]
  cases a.testBit j <;> cases b.testBit j <;> rfl
theorem andN_lt (a b : Nat) (ha : a < 18446744073709551616) : andN a b < 18446744073709551616 := by
  have h1 : a &&& b < 2 ^ 64 := by have := Nat.and_le_left (n := a) (m := b); omega
  have : a ^^^ (a &&& b) < 2 ^ 64 := Nat.xor_lt_two_pow (by omega) h1
  unfold andN
  simpa using this
theorem bits_andN (a b : Nat) (ha : a < 18446744073709551616) (hb : b < 18446744073709551616) : bits .andNot .u64 (a : Int) (b : Int) = ((andN a b : Nat) : Int) := by
  have h1 : (BitVec.ofInt 64 (a : Int)).toNat = a := by
    rw [BitVec.ofInt_natCast, BitVec.toNat_ofNat]; exact Nat.mod_eq_of_lt (by omega)
  have h2 : (BitVec.ofInt 64 (b : Int)).toNat = b := by
    rw [BitVec.ofInt_natCast, BitVec.toNat_ofNat]; exact Nat.mod_eq_of_lt (by omega)
  have hx := andN_lt a b ha
  show IntKind.u64.wrap ((BitVec.ofInt 64 (a : Int) &&& ~~~ BitVec.ofInt 64 (b : Int)).toNat : Int) = _
  have h3 : (BitVec.ofInt 64 (a : Int) &&& ~~~ BitVec.ofInt 64 (b : Int)).toNat = andN a b := by
    apply Nat.eq_of_testBit_eq
    intro j
    rw [andN_bit, BitVec.testBit_toNat, BitVec.getLsbD_and, BitVec.getLsbD_not, ← BitVec.testBit_toNat, ← BitVec.testBit_toNat, h1, h2]
    by_cases hj : j < 64
    · simp [hj]
    · have : a.testBit j = false := Nat.testBit_lt_two_pow (Nat.lt_of_lt_of_le (by simpa using ha : a < 2 ^ 64) (Nat.pow_le_pow_right (by omega) (by omega)))
      simp [this]
  rw [h3, IntKind.wrap_u64]
  omega
/-- One word is joined. -/
def stepJ (c : List Nat × Bool) (i u : Nat) : List Nat × Bool :=
  let d := if c.1.length ≤ i then c.1 ++ [0] else c.1
  if andN u (d.getD i 0) = 0 then (d, c.2) else (d.set i (d.getD i 0 ||| u), true)
/-- The first words are joined. -/
def joinK (us ds ws : List Nat) : Nat → List Nat × Bool
  | 0 => (ws, false)
  | i + 1 => stepJ (joinK us ds ws i) i (andN (us.getD i 0) (ds.getD i 0))
theorem joinK_len (us ds ws : List Nat) : ∀ i, i ≤ (joinK us ds ws i).1.length ∧ (joinK us ds ws i).1.length ≤ ws.length + i
  | 0 => ⟨Nat.zero_le _, Nat.le_refl _⟩
  | i + 1 => by
    have ih := joinK_len us ds ws i
    simp only [joinK, stepJ]
    by_cases h : (joinK us ds ws i).1.length ≤ i
    · rw [if_pos h]
      split <;> simp <;> omega
    · rw [if_neg h]
      split <;> simp <;> omega
theorem joinK_lt (us ds ws : List Nat) (hw : ∀ x ∈ ws, x < 18446744073709551616) (hu : ∀ x ∈ us, x < 18446744073709551616) : ∀ i, ∀ x ∈ (joinK us ds ws i).1, x < 18446744073709551616
  | 0, x, h => hw x h
  | i + 1, x, h => by
    have ih := joinK_lt us ds ws hw hu i
    have hd : ∀ x ∈ (if (joinK us ds ws i).1.length ≤ i then (joinK us ds ws i).1 ++ [0] else (joinK us ds ws i).1), x < 18446744073709551616 := by
      intro x hx
      split at hx
      · rcases List.mem_append.1 hx with h | h
        · exact ih x h
        · rw [List.mem_singleton.1 h]; decide
      · exact ih x hx
    have hg : ∀ (l : List Nat) (k : Nat), (∀ x ∈ l, x < 18446744073709551616) → l.getD k 0 < 18446744073709551616 := fun l k hl => by
      rw [List.getD_eq_getElem?_getD]
      by_cases hk : k < l.length
      · simpa [hk] using hl _ (List.getElem_mem hk)
      · simp [hk]
    simp only [joinK, stepJ] at h
    obtain ⟨d, hde⟩ : ∃ d, d = (if (joinK us ds ws i).1.length ≤ i then (joinK us ds ws i).1 ++ [0] else (joinK us ds ws i).1) := ⟨_, rfl⟩
    rw [← hde] at h hd
    split at h
    · exact hd x h
    · rcases List.mem_or_eq_of_mem_set h with h | h
      · exact hd x h
      · rw [h]
        exact or_lt _ _ (hg _ _ hd) (andN_lt _ _ (hg _ _ hu))
theorem getD_lt (l : List Nat) (k : Nat) (hl : ∀ x ∈ l, x < 18446744073709551616) : l.getD k 0 < 18446744073709551616 := by
  rw [List.getD_eq_getElem?_getD]
  by_cases hk : k < l.length
  · simpa [hk] using hl _ (List.getElem_mem hk)
  · simp [hk]
theorem joinK_step {us ds ws cur : List Nat} {r : Bool} {i : Nat} (h : (cur, r) = joinK us ds ws i) : joinK us ds ws (i + 1) = stepJ (cur, r) i (andN (us.getD i 0) (ds.getD i 0)) := by
  rw [joinK, ← h]
/-- Another set that is read. -/
def RdAt (W : World) (p : Value) (ds : List Nat) : Prop := (p = .pointer none ∧ ds = []) ∨ ∃ b base o, p = .pointer (some ⟨b, 0, none⟩) ∧ SetAt W base b o ds
def hasF (ws : List Nat) (j : Nat) : Bool := (ws.getD (j / 64) 0).testBit (j % 64)
set_option maxRecDepth 100000 in
set_option maxHeartbeats 4000000 in
theorem join37 (b b2 base base2 : Nat) (o o2 : Option Nat) (ws us ds : List Nat) (dp : Value) (w : World) (h : SetAt w base b o ws) (h2 : SetAt w base2 b2 o2 us)
    (hw : ∀ w', Only (b :: o.toList) w w' → RdAt w' dp ds) (ho2 : ∀ g ∈ o2.toList, g ∉ b :: o.toList) (hus : us.length ≤ 1000000000) (hws : ws.length ≤ 1000000000) (hz : base ≤ w.heap.size) :
    Calls Tryd.prog 37 #[.pointer (some ⟨b, 0, none⟩), .pointer (some ⟨b2, 0, none⟩), dp] w fun e w' => e = .returned (.bool (joinK us ds ws us.length).2) ∧ ∃ o', SetAt w' base b o' (joinK us ds ws us.length).1 ∧ Same w o o' ∧ Only (b :: o.toList) w w' := by
  obtain ⟨h0, h1, sa, co, hb, hs, hown⟩ := h
  obtain ⟨k0, k1, st, ct, kb, ks, kown⟩ := h2
  obtain ⟨nu, hnu⟩ : ∃ q, q = us.length := ⟨_, rfl⟩
  rw [← hnu] at kb ks hus kown ⊢
  have HNU := Lib.hid hnu
  have c0 := kb.cell 0
  simp only [List.getElem?_toArray, List.getElem?_cons_zero] at c0
  have H0 := Lib.hid h0
  have H1 := Lib.hid h1
  have HB := Lib.hid hb
  have HS := Lib.hid hs
  have HOW := Lib.hid hown
  have K1 := Lib.hid k1
  have KS := Lib.hid ks
  have KOW := Lib.hid kown
  have HW := Lib.hid hw
  have HO2 := Lib.hid ho2
  clear h0 h1 hb hs hown k1 ks kown hw ho2 hnu
  go_enter Tryd.func37, Tryd.ntmps37
  go_wp2_with fail
  go_loopw [7, 15] (fun z7 z wr => ∃ (i : Nat) (sb : Option Addr) (cb : Nat) (cur : List Nat) (r : Bool), i ≤ nu ∧ z = .int .i64 (i : Int) ∧ z7 = .bool r ∧ Hid ((cur, r) = joinK us ds ws i) ∧ Hid (Blk wr b 62 #[.slice sb cur.length cb]) ∧ Hid (Sl wr base 95 1 wdC (.slice sb cur.length cb) cur) ∧ Hid (Only (b :: o.toList) w wr) ∧ Hid (Same w o (Value.slice sb cur.length cb).ownBlock)) (fun _ z _ => nu - (intOf z).toNat)
  case atStart => exact ⟨0, sa, co, ws, false, Nat.zero_le _, rfl, rfl, Lib.hid rfl, HB, HS, Lib.hid (Only.refl _ _), Lib.hid (.inl HOW.out)⟩
  case round =>
    obtain ⟨i, sb, cb, cur, r, hi, rfl, rfl, HC, HB, HS, HO, HSA⟩ := hrel
    by_cases hlt : i < nu
    · have hlti : (i : Int) < (nu : Int) := by omega
      obtain ⟨gt, rfl⟩ : ∃ g, st = some ⟨g, 0, none⟩ := by
        rcases KS.out.form with ⟨e, _⟩ | ⟨g, cap, e, _⟩
        · simp only [Value.slice.injEq] at e
          omega
        · simp only [Value.slice.injEq] at e
          exact ⟨g, e.1⟩
      have hiu : i < us.length := by rw [← HNU.out]; exact hlt
      have hcell0 := KS.out.cell wd_len i 0 hiu (by omega)
      simp only [Nat.mul_one, Nat.add_zero, wdC, List.getElem?_cons_zero] at hcell0
      obtain ⟨x, hx⟩ : ∃ x, x = us[i] := ⟨_, rfl⟩
      rw [← hx] at hcell0
      have hgt : wr.cell? ⟨gt, i, none⟩ = some (.int .u64 x) := by
        rw [← hcell0]
        exact World.cell?_of_block (a := ⟨gt, i, none⟩) (HO.out.block gt (KS.out.lt gt rfl).2 (HO2.out gt (by rw [← KOW.out]; simp [Value.ownBlock])))
      have HX : Hid (x = us.getD i 0) := Lib.hid (by rw [hx]; simp [List.getD_eq_getElem?_getD, hiu])
      have hx64 : x < 18446744073709551616 := by rw [HX.out]; exact getD_lt _ _ K1.out
      have HRD := Lib.hid (HW.out wr HO.out)
      have cb0 : wr.cell? ⟨b, 0, none⟩ = some (.slice sb cur.length cb) := HB.out.cell 0
      have hcl : i ≤ cur.length ∧ cur.length ≤ ws.length + i := by have := joinK_len us ds ws i; rw [← HC.out] at this; exact this
      have HCL := Lib.hid hcl
      have hzr : base ≤ wr.heap.size := Nat.le_trans hz HO.out.size
      clear hcl
      clear hcell0 hx
      rcases HRD.out with ⟨rfl, hds⟩ | ⟨b3, base3, o3, rfl, d0, d1, s3, c3, hb3, hs3, hown3⟩
      · obtain ⟨u, hu⟩ : ∃ u, u = andN (us.getD i 0) (ds.getD i 0) := ⟨_, rfl⟩
        have hux : u = x := by rw [hu, hds, HX.out]; simp [andN]
        have HU := Lib.hid hu
        have hu64 : u < 18446744073709551616 := by rw [hux]; exact hx64
        subst hux
        clear hu hds
        go_upto_if 46 with fail
        go_cut [46] from 999 (fun _ wx => ∃ (g cb' : Nat) (d : List Nat), Hid (d = if cur.length ≤ i then cur ++ [0] else cur) ∧ Hid (Blk wx b 62 #[.slice (some ⟨g, 0, none⟩) d.length cb']) ∧ Hid (Sl wx base 95 1 wdC (.slice (some ⟨g, 0, none⟩) d.length cb') d) ∧ Hid (Only (b :: o.toList) w wx) ∧ Hid (Same w o (some g)))
        case first =>
          by_cases hle : cur.length ≤ i
          · have hlei : (cur.length : Int) ≤ (i : Int) := by omega
            obtain ⟨g, cap, W2, hrun, q2, q3, q4, q5, q6⟩ := SetAt.push HB.out HS.out (by have := HCL.out; omega) hzr
            have HRN := Lib.hid hrun
            have d1 := q2.cell 0
            have d2 := q2.frozen 0
            simp only [List.getElem?_toArray, List.getElem?_cons_zero] at d1
            have Q3 := Lib.hid q3
            have Q4 := Lib.hid q4
            have Q5 := Lib.hid (Same.only HO.out HSA.out q5)
            have Q6 : Hid (Same w o (some g)) := Lib.hid (by
              rcases q6 with e | e
              · rcases HSA.out with h | ⟨g', h, hg'⟩
                · exact .inl (by rw [← h, ← e])
                · exact .inr ⟨g', by rw [← h, ← e], hg'⟩
              · exact .inr ⟨g, rfl, by have := HO.out.size; omega⟩)
            have HD := Lib.hid (if_pos hle : (if cur.length ≤ i then cur ++ [0] else cur) = cur ++ [0])
            clear hrun q2 q3 q4 q5 q6 hle
            go_wp2_with (at_builtin; refine wpList_append_run rfl _ _ 60 60 rfl rfl rfl HRN.out ?_)
            go_meet
            exact ⟨g, cap, cur ++ [0], Lib.hid HD.out.symm, Q3, Q4, Q5, Q6⟩
          · have hlei : ¬ (cur.length : Int) ≤ (i : Int) := by omega
            obtain ⟨g, rfl⟩ : ∃ g, sb = some ⟨g, 0, none⟩ := by
              rcases HS.out.form with ⟨e, _⟩ | ⟨g, cap, e, _⟩
              · simp only [Value.slice.injEq] at e
                omega
              · simp only [Value.slice.injEq] at e
                exact ⟨g, e.1⟩
            have HD := Lib.hid (if_neg hle : (if cur.length ≤ i then cur ++ [0] else cur) = cur)
            clear hle
            go_wp2_with fail
            go_meet
            exact ⟨g, cb, cur, Lib.hid HD.out.symm, HB, HS, HO, HSA⟩
        case rest =>
          obtain ⟨g, cb', d, HD, HB2, HS2, HO3, HSA2⟩ := hcut
          have hdl : i < d.length := by
            rw [HD.out]
            have := HCL.out
            split
            · simp; omega
            · omega
          have hdli : (i : Int) < (d.length : Int) := by omega
          have hdb : d.length ≤ 2000000001 := by rw [HD.out]; have := HCL.out; split <;> simp <;> omega
          have cw := HB2.out.cell 0
          simp only [List.getElem?_toArray, List.getElem?_cons_zero] at cw
          have ce := HS2.out.cell wd_len i 0 hdl (by omega)
          have cf := HS2.out.frozen i
          obtain ⟨e, he⟩ : ∃ e, e = d[i] := ⟨_, rfl⟩
          rw [← he] at ce
          simp only [Nat.mul_one, Nat.add_zero, wdC, List.getElem?_cons_zero] at ce
          have HEV : Hid (e = d.getD i 0) := Lib.hid (by rw [he]; simp [List.getD_eq_getElem?_getD, hdl])
          have he64 : e < 18446744073709551616 := by
            have hall := joinK_lt us ds ws H1.out K1.out i
            rw [← HC.out] at hall
            have hm : e ∈ d := by rw [he]; exact List.getElem_mem _
            rw [HD.out] at hm
            split at hm
            · rcases List.mem_append.1 hm with h | h
              · exact hall e h
              · rw [List.mem_singleton.1 h]; decide
            · exact hall e hm
          have hbn2 := bits_andN u e hu64 he64
          have hbo := bits_or_u64_nat e u he64 hu64
          obtain ⟨m, hm⟩ : ∃ m, m = andN u e := ⟨_, rfl⟩
          obtain ⟨z, hz2⟩ : ∃ z, z = e ||| u := ⟨_, rfl⟩
          rw [← hm] at hbn2
          rw [← hz2] at hbo
          have HM := Lib.hid hm
          have HZ := Lib.hid hz2
          have HST : Hid (joinK us ds ws (i + 1) = if m = 0 then (d, r) else (d.set i z, true)) := Lib.hid (by
            rw [joinK_step HC.out, ← HU.out]
            unfold stepJ
            dsimp only
            rw [← HD.out, ← HEV.out, ← hm, ← hz2])
          clear he hm hz2
          by_cases hm0 : m = 0
          · subst hm0
            have HST2 : Hid (joinK us ds ws (i + 1) = (d, r)) := Lib.hid (by rw [HST.out, if_pos rfl])
            go_wp2_with fail
            go_roundw
            case rel => exact ⟨i + 1, some ⟨g, 0, none⟩, cb', d, r, by omega, by go_num, rfl, Lib.hid HST2.out.symm, HB2, HS2, HO3, HSA2⟩
            case measure => simp [intOf]; omega
          · have hmi : ((m : Int) == 0) = false := by rw [beq_eq_false_iff_ne]; omega
            have hmi2 : ¬ (m : Int) = 0 := by omega
            have HST2 : Hid (joinK us ds ws (i + 1) = (d.set i z, true)) := Lib.hid (by rw [HST.out, if_neg hm0])
            have hgb : b ≠ g := by
              rcases HS2.out.2 with ⟨e, _⟩ | ⟨g2, cap2, cur2, e, _, q3, _⟩
              · cases e
              · simp only [Value.slice.injEq, Option.some.injEq, Addr.mk.injEq, and_true] at e
                obtain ⟨rfl, _, _⟩ := e
                exact blk_ne HB2.out (show Blk wc g 95 cur2 from q3) (by decide)
            have hst := HS2.out.store wd_len i 0 hdl (by omega) (.int .u64 z) z (by simp [wdC])
            rw [Nat.mul_one, Nat.add_zero] at hst
            have HB3 : Hid (Blk (wc.setCell ⟨g, i, none⟩ (.int .u64 z)) b 62 #[.slice (some ⟨g, 0, none⟩) (d.set i z).length cb']) := Lib.hid (by rw [List.length_set]; exact HB2.out.far (p := ⟨g, i, none⟩) hgb _)
            have HS3 : Hid (Sl (wc.setCell ⟨g, i, none⟩ (.int .u64 z)) base 95 1 wdC (.slice (some ⟨g, 0, none⟩) (d.set i z).length cb') (d.set i z)) := Lib.hid (by rw [List.length_set]; exact hst)
            have HO4 : Hid (Only (b :: o.toList) w (wc.setCell ⟨g, i, none⟩ (.int .u64 z))) := Lib.hid (Same.only HO3.out HSA2.out (Only.setCell wc ⟨g, i, none⟩ _ (by simp)))
            clear hst hgb hm0
            go_wp2_with fail
            go_roundw
            case rel => exact ⟨i + 1, some ⟨g, 0, none⟩, cb', d.set i z, true, by omega, by go_num, rfl, Lib.hid HST2.out.symm, HB3, by simpa using HS3, HO4, HSA2⟩
            case measure => simp [intOf]; omega
      · obtain ⟨nd, hnd⟩ : ∃ q, q = ds.length := ⟨_, rfl⟩
        have cd := hb3.cell 0
        rw [← hnd] at cd hs3
        simp only [List.getElem?_toArray, List.getElem?_cons_zero] at cd
        by_cases hid : i < nd
        · have hidi : (i : Int) < (nd : Int) := by omega
          obtain ⟨g3, rfl⟩ : ∃ g, s3 = some ⟨g, 0, none⟩ := by
            rcases hs3.form with ⟨e, _⟩ | ⟨g, cap, e, _⟩
            · simp only [Value.slice.injEq] at e
              omega
            · simp only [Value.slice.injEq] at e
              exact ⟨g, e.1⟩
          have hdi : i < ds.length := by rw [← hnd]; exact hid
          have dcell := hs3.cell wd_len i 0 hdi (by omega)
          simp only [Nat.mul_one, Nat.add_zero, wdC, List.getElem?_cons_zero] at dcell
          obtain ⟨y, hy⟩ : ∃ y, y = ds[i] := ⟨_, rfl⟩
          rw [← hy] at dcell
          have HY : Hid (y = ds.getD i 0) := Lib.hid (by rw [hy]; simp [List.getD_eq_getElem?_getD, hdi])
          have hy64 : y < 18446744073709551616 := by rw [HY.out]; exact getD_lt _ _ d1
          have hbn := bits_andN x y hx64 hy64
          obtain ⟨u, hu⟩ : ∃ u, u = andN x y := ⟨_, rfl⟩
          have HU : Hid (u = andN (us.getD i 0) (ds.getD i 0)) := Lib.hid (by rw [hu, HX.out, HY.out])
          have hu64 : u < 18446744073709551616 := by rw [hu]; exact andN_lt _ _ hx64
          rw [← hu] at hbn
          clear hu hy hb3 hs3 hown3 hnd d0 d1
          go_upto_if 46 with fail
          go_cut [46] from 999 (fun _ wx => ∃ (g cb' : Nat) (d : List Nat), Hid (d = if cur.length ≤ i then cur ++ [0] else cur) ∧ Hid (Blk wx b 62 #[.slice (some ⟨g, 0, none⟩) d.length cb']) ∧ Hid (Sl wx base 95 1 wdC (.slice (some ⟨g, 0, none⟩) d.length cb') d) ∧ Hid (Only (b :: o.toList) w wx) ∧ Hid (Same w o (some g)))
          case first =>
            by_cases hle : cur.length ≤ i
            · have hlei : (cur.length : Int) ≤ (i : Int) := by omega
              obtain ⟨g, cap, W2, hrun, q2, q3, q4, q5, q6⟩ := SetAt.push HB.out HS.out (by have := HCL.out; omega) hzr
              have HRN := Lib.hid hrun
              have d1 := q2.cell 0
              have d2 := q2.frozen 0
              simp only [List.getElem?_toArray, List.getElem?_cons_zero] at d1
              have Q3 := Lib.hid q3
              have Q4 := Lib.hid q4
              have Q5 := Lib.hid (Same.only HO.out HSA.out q5)
              have Q6 : Hid (Same w o (some g)) := Lib.hid (by
                rcases q6 with e | e
                · rcases HSA.out with h | ⟨g', h, hg'⟩
                  · exact .inl (by rw [← h, ← e])
                  · exact .inr ⟨g', by rw [← h, ← e], hg'⟩
                · exact .inr ⟨g, rfl, by have := HO.out.size; omega⟩)
              have HD := Lib.hid (if_pos hle : (if cur.length ≤ i then cur ++ [0] else cur) = cur ++ [0])
              clear hrun q2 q3 q4 q5 q6 hle
              go_wp2_with (at_builtin; refine wpList_append_run rfl _ _ 60 60 rfl rfl rfl HRN.out ?_)
              go_meet
              exact ⟨g, cap, cur ++ [0], Lib.hid HD.out.symm, Q3, Q4, Q5, Q6⟩
            · have hlei : ¬ (cur.length : Int) ≤ (i : Int) := by omega
              obtain ⟨g, rfl⟩ : ∃ g, sb = some ⟨g, 0, none⟩ := by
                rcases HS.out.form with ⟨e, _⟩ | ⟨g, cap, e, _⟩
                · simp only [Value.slice.injEq] at e
                  omega
                · simp only [Value.slice.injEq] at e
                  exact ⟨g, e.1⟩
              have HD := Lib.hid (if_neg hle : (if cur.length ≤ i then cur ++ [0] else cur) = cur)
              clear hle
              go_wp2_with fail
              go_meet
              exact ⟨g, cb, cur, Lib.hid HD.out.symm, HB, HS, HO, HSA⟩
          case rest =>
            obtain ⟨g, cb', d, HD, HB2, HS2, HO3, HSA2⟩ := hcut
            have hdl : i < d.length := by
              rw [HD.out]
              have := HCL.out
              split
              · simp; omega
              · omega
            have hdli : (i : Int) < (d.length : Int) := by omega
            have hdb : d.length ≤ 2000000001 := by rw [HD.out]; have := HCL.out; split <;> simp <;> omega
            have cw := HB2.out.cell 0
            simp only [List.getElem?_toArray, List.getElem?_cons_zero] at cw
            have ce := HS2.out.cell wd_len i 0 hdl (by omega)
            have cf := HS2.out.frozen i
            obtain ⟨e, he⟩ : ∃ e, e = d[i] := ⟨_, rfl⟩
            rw [← he] at ce
            simp only [Nat.mul_one, Nat.add_zero, wdC, List.getElem?_cons_zero] at ce
            have HEV : Hid (e = d.getD i 0) := Lib.hid (by rw [he]; simp [List.getD_eq_getElem?_getD, hdl])
            have he64 : e < 18446744073709551616 := by
              have hall := joinK_lt us ds ws H1.out K1.out i
              rw [← HC.out] at hall
              have hm : e ∈ d := by rw [he]; exact List.getElem_mem _
              rw [HD.out] at hm
              split at hm
              · rcases List.mem_append.1 hm with h | h
                · exact hall e h
                · rw [List.mem_singleton.1 h]; decide
              · exact hall e hm
            have hbn2 := bits_andN u e hu64 he64
            have hbo := bits_or_u64_nat e u he64 hu64
            obtain ⟨m, hm⟩ : ∃ m, m = andN u e := ⟨_, rfl⟩
            obtain ⟨z, hz2⟩ : ∃ z, z = e ||| u := ⟨_, rfl⟩
            rw [← hm] at hbn2
            rw [← hz2] at hbo
            have HM := Lib.hid hm
            have HZ := Lib.hid hz2
            have HST : Hid (joinK us ds ws (i + 1) = if m = 0 then (d, r) else (d.set i z, true)) := Lib.hid (by
              rw [joinK_step HC.out, ← HU.out]
              unfold stepJ
              dsimp only
              rw [← HD.out, ← HEV.out, ← hm, ← hz2])
            clear he hm hz2
            by_cases hm0 : m = 0
            · subst hm0
              have HST2 : Hid (joinK us ds ws (i + 1) = (d, r)) := Lib.hid (by rw [HST.out, if_pos rfl])
              go_wp2_with fail
              go_roundw
              case rel => exact ⟨i + 1, some ⟨g, 0, none⟩, cb', d, r, by omega, by go_num, rfl, Lib.hid HST2.out.symm, HB2, HS2, HO3, HSA2⟩
              case measure => simp [intOf]; omega
            · have hmi : ((m : Int) == 0) = false := by rw [beq_eq_false_iff_ne]; omega
              have hmi2 : ¬ (m : Int) = 0 := by omega
              have HST2 : Hid (joinK us ds ws (i + 1) = (d.set i z, true)) := Lib.hid (by rw [HST.out, if_neg hm0])
              have hgb : b ≠ g := by
                rcases HS2.out.2 with ⟨e, _⟩ | ⟨g2, cap2, cur2, e, _, q3, _⟩
                · cases e
                · simp only [Value.slice.injEq, Option.some.injEq, Addr.mk.injEq, and_true] at e
                  obtain ⟨rfl, _, _⟩ := e
                  exact blk_ne HB2.out (show Blk wc g 95 cur2 from q3) (by decide)
              have hst := HS2.out.store wd_len i 0 hdl (by omega) (.int .u64 z) z (by simp [wdC])
              rw [Nat.mul_one, Nat.add_zero] at hst
              have HB3 : Hid (Blk (wc.setCell ⟨g, i, none⟩ (.int .u64 z)) b 62 #[.slice (some ⟨g, 0, none⟩) (d.set i z).length cb']) := Lib.hid (by rw [List.length_set]; exact HB2.out.far (p := ⟨g, i, none⟩) hgb _)
              have HS3 : Hid (Sl (wc.setCell ⟨g, i, none⟩ (.int .u64 z)) base 95 1 wdC (.slice (some ⟨g, 0, none⟩) (d.set i z).length cb') (d.set i z)) := Lib.hid (by rw [List.length_set]; exact hst)
              have HO4 : Hid (Only (b :: o.toList) w (wc.setCell ⟨g, i, none⟩ (.int .u64 z))) := Lib.hid (Same.only HO3.out HSA2.out (Only.setCell wc ⟨g, i, none⟩ _ (by simp)))
              clear hst hgb hm0
              go_wp2_with fail
              go_roundw
              case rel => exact ⟨i + 1, some ⟨g, 0, none⟩, cb', d.set i z, true, by omega, by go_num, rfl, Lib.hid HST2.out.symm, HB3, by simpa using HS3, HO4, HSA2⟩
              case measure => simp [intOf]; omega
        · have hidi : ¬ (i : Int) < (nd : Int) := by omega
          obtain ⟨u, hu⟩ : ∃ u, u = andN (us.getD i 0) (ds.getD i 0) := ⟨_, rfl⟩
          have hux : u = x := by rw [hu, HX.out, List.getD_eq_getElem?_getD (l := ds), List.getElem?_eq_none (by omega)]; simp [andN]
          have HU := Lib.hid hu
          have hu64 : u < 18446744073709551616 := by rw [hux]; exact hx64
          subst hux
          clear hu hb3 hs3 hown3 hnd d0 d1
          go_upto_if 46 with fail
          go_cut [46] from 999 (fun _ wx => ∃ (g cb' : Nat) (d : List Nat), Hid (d = if cur.length ≤ i then cur ++ [0] else cur) ∧ Hid (Blk wx b 62 #[.slice (some ⟨g, 0, none⟩) d.length cb']) ∧ Hid (Sl wx base 95 1 wdC (.slice (some ⟨g, 0, none⟩) d.length cb') d) ∧ Hid (Only (b :: o.toList) w wx) ∧ Hid (Same w o (some g)))
          case first =>
            by_cases hle : cur.length ≤ i
            · have hlei : (cur.length : Int) ≤ (i : Int) := by omega
              obtain ⟨g, cap, W2, hrun, q2, q3, q4, q5, q6⟩ := SetAt.push HB.out HS.out (by have := HCL.out; omega) hzr
              have HRN := Lib.hid hrun
              have d1 := q2.cell 0
              have d2 := q2.frozen 0
              simp only [List.getElem?_toArray, List.getElem?_cons_zero] at d1
              have Q3 := Lib.hid q3
              have Q4 := Lib.hid q4
              have Q5 := Lib.hid (Same.only HO.out HSA.out q5)
              have Q6 : Hid (Same w o (some g)) := Lib.hid (by
                rcases q6 with e | e
                · rcases HSA.out with h | ⟨g', h, hg'⟩
                  · exact .inl (by rw [← h, ← e])
                  · exact .inr ⟨g', by rw [← h, ← e], hg'⟩
                · exact .inr ⟨g, rfl, by have := HO.out.size; omega⟩)
              have HD := Lib.hid (if_pos hle : (if cur.length ≤ i then cur ++ [0] else cur) = cur ++ [0])
              clear hrun q2 q3 q4 q5 q6 hle
              go_wp2_with (at_builtin; refine wpList_append_run rfl _ _ 60 60 rfl rfl rfl HRN.out ?_)
              go_meet
              exact ⟨g, cap, cur ++ [0], Lib.hid HD.out.symm, Q3, Q4, Q5, Q6⟩
            · have hlei : ¬ (cur.length : Int) ≤ (i : Int) := by omega
              obtain ⟨g, rfl⟩ : ∃ g, sb = some ⟨g, 0, none⟩ := by
                rcases HS.out.form with ⟨e, _⟩ | ⟨g, cap, e, _⟩
                · simp only [Value.slice.injEq] at e
                  omega
                · simp only [Value.slice.injEq] at e
                  exact ⟨g, e.1⟩
              have HD := Lib.hid (if_neg hle : (if cur.length ≤ i then cur ++ [0] else cur) = cur)
              clear hle
              go_wp2_with fail
              go_meet
              exact ⟨g, cb, cur, Lib.hid HD.out.symm, HB, HS, HO, HSA⟩
          case rest =>
            obtain ⟨g, cb', d, HD, HB2, HS2, HO3, HSA2⟩ := hcut
            have hdl : i < d.length := by
              rw [HD.out]
              have := HCL.out
              split
              · simp; omega
              · omega
            have hdli : (i : Int) < (d.length : Int) := by omega
            have hdb : d.length ≤ 2000000001 := by rw [HD.out]; have := HCL.out; split <;> simp <;> omega
            have cw := HB2.out.cell 0
            simp only [List.getElem?_toArray, List.getElem?_cons_zero] at cw
            have ce := HS2.out.cell wd_len i 0 hdl (by omega)
            have cf := HS2.out.frozen i
            obtain ⟨e, he⟩ : ∃ e, e = d[i] := ⟨_, rfl⟩
            rw [← he] at ce
            simp only [Nat.mul_one, Nat.add_zero, wdC, List.getElem?_cons_zero] at ce
            have HEV : Hid (e = d.getD i 0) := Lib.hid (by rw [he]; simp [List.getD_eq_getElem?_getD, hdl])
            have he64 : e < 18446744073709551616 := by
              have hall := joinK_lt us ds ws H1.out K1.out i
              rw [← HC.out] at hall
              have hm : e ∈ d := by rw [he]; exact List.getElem_mem _
              rw [HD.out] at hm
              split at hm
              · rcases List.mem_append.1 hm with h | h
                · exact hall e h
                · rw [List.mem_singleton.1 h]; decide
              · exact hall e hm
            have hbn2 := bits_andN u e hu64 he64
            have hbo := bits_or_u64_nat e u he64 hu64
            obtain ⟨m, hm⟩ : ∃ m, m = andN u e := ⟨_, rfl⟩
            obtain ⟨z, hz2⟩ : ∃ z, z = e ||| u := ⟨_, rfl⟩
            rw [← hm] at hbn2
            rw [← hz2] at hbo
            have HM := Lib.hid hm
            have HZ := Lib.hid hz2
            have HST : Hid (joinK us ds ws (i + 1) = if m = 0 then (d, r) else (d.set i z, true)) := Lib.hid (by
              rw [joinK_step HC.out, ← HU.out]
              unfold stepJ
              dsimp only
              rw [← HD.out, ← HEV.out, ← hm, ← hz2])
            clear he hm hz2
            by_cases hm0 : m = 0
            · subst hm0
              have HST2 : Hid (joinK us ds ws (i + 1) = (d, r)) := Lib.hid (by rw [HST.out, if_pos rfl])
              go_wp2_with fail
              go_roundw
              case rel => exact ⟨i + 1, some ⟨g, 0, none⟩, cb', d, r, by omega, by go_num, rfl, Lib.hid HST2.out.symm, HB2, HS2, HO3, HSA2⟩
              case measure => simp [intOf]; omega
            · have hmi : ((m : Int) == 0) = false := by rw [beq_eq_false_iff_ne]; omega
              have hmi2 : ¬ (m : Int) = 0 := by omega
              have HST2 : Hid (joinK us ds ws (i + 1) = (d.set i z, true)) := Lib.hid (by rw [HST.out, if_neg hm0])
              have hgb : b ≠ g := by
                rcases HS2.out.2 with ⟨e, _⟩ | ⟨g2, cap2, cur2, e, _, q3, _⟩
                · cases e
                · simp only [Value.slice.injEq, Option.some.injEq, Addr.mk.injEq, and_true] at e
                  obtain ⟨rfl, _, _⟩ := e
                  exact blk_ne HB2.out (show Blk wc g 95 cur2 from q3) (by decide)
              have hst := HS2.out.store wd_len i 0 hdl (by omega) (.int .u64 z) z (by simp [wdC])
              rw [Nat.mul_one, Nat.add_zero] at hst
              have HB3 : Hid (Blk (wc.setCell ⟨g, i, none⟩ (.int .u64 z)) b 62 #[.slice (some ⟨g, 0, none⟩) (d.set i z).length cb']) := Lib.hid (by rw [List.length_set]; exact HB2.out.far (p := ⟨g, i, none⟩) hgb _)
              have HS3 : Hid (Sl (wc.setCell ⟨g, i, none⟩ (.int .u64 z)) base 95 1 wdC (.slice (some ⟨g, 0, none⟩) (d.set i z).length cb') (d.set i z)) := Lib.hid (by rw [List.length_set]; exact hst)
              have HO4 : Hid (Only (b :: o.toList) w (wc.setCell ⟨g, i, none⟩ (.int .u64 z))) := Lib.hid (Same.only HO3.out HSA2.out (Only.setCell wc ⟨g, i, none⟩ _ (by simp)))
              clear hst hgb hm0
              go_wp2_with fail
              go_roundw
              case rel => exact ⟨i + 1, some ⟨g, 0, none⟩, cb', d.set i z, true, by omega, by go_num, rfl, Lib.hid HST2.out.symm, HB3, by simpa using HS3, HO4, HSA2⟩
              case measure => simp [intOf]; omega
    · have hlti : ¬ (i : Int) < (nu : Int) := by omega
      obtain rfl : i = nu := by omega
      have HR2 : Hid (joinK us ds ws i = (cur, r)) := Lib.hid HC.out.symm
      have HK := Lib.hid (joinK_lt us ds ws H1.out K1.out i)
      clear hlt
      go_wp2_with fail
      go_ret
      rw [HR2.out]
      refine ⟨rfl, _, ⟨H0.out, fun x hx => HK.out x (by rw [HR2.out]; exact hx), sb, cb, HB.out, HS.out, rfl⟩, HSA.out, HO.out⟩
end Go.Proofs.YtekfnonjhcfdmaaDoor
