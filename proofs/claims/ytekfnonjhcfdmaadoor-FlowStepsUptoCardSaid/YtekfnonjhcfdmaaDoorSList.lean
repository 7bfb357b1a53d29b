/- flow's sets of numbers: their list. -/
import Derived.Test.YtekfnonjhcfdmaaDoorJoin
namespace Go.Proofs.YtekfnonjhcfdmaaDoor
open Go.RowKit Go.Rt Go.Rw

/-- The numbers of a word. -/
def bitsI (i x : Nat) : List Int := ((List.range 64).filter fun j => x.testBit j).map fun j : Nat => (64 : Int) * i + j
theorem up_bitsI (i x : Nat) : Up (bitsI i x) := by
  unfold Up bitsI
  rw [List.pairwise_map]
  exact (List.Pairwise.filter _ List.pairwise_lt_range).imp (by intro a b h; omega)
theorem mem_bitsI (i x : Nat) (n : Int) : n ∈ bitsI i x ↔ ∃ j : Nat, j < 64 ∧ x.testBit j = true ∧ n = (64 : Int) * i + j := by
  unfold bitsI
  rw [List.mem_map]
  constructor
  · rintro ⟨j, hj, rfl⟩
    rw [List.mem_filter, List.mem_range] at hj
    exact ⟨j, hj.1, hj.2, rfl⟩
  · rintro ⟨j, h1, h2, rfl⟩
    exact ⟨j, List.mem_filter.2 ⟨List.mem_range.2 h1, h2⟩, rfl⟩
/-- The lowest bit. -/
theorem low_spec (x : Nat) (h0 : x ≠ 0) (hx : x < 18446744073709551616) : Lib.ctz 64 x < 64 ∧ x.testBit (Lib.ctz 64 x) = true ∧ (∀ j, j < Lib.ctz 64 x → x.testBit j = false) ∧ ∀ j, (x &&& (x - 1)).testBit j = (x.testBit j && decide (j ≠ Lib.ctz 64 x)) := by
  have e : Lib.ctz 64 x = Lib.ctzFrom 64 x := by unfold Lib.ctz; rw [if_neg h0]
  rw [e]
  obtain ⟨m, hm, hk⟩ := Lib.ctzFrom_spec 64 x (by omega) (by simpa using hx)
  obtain ⟨k, hke⟩ : ∃ k, k = Lib.ctzFrom 64 x := ⟨_, rfl⟩
  rw [← hke] at hm hk ⊢
  have hp : 0 < 2 ^ k := Nat.pow_pos (by omega)
  have e1 : x = 2 ^ k * (2 * m + 1) + 0 := by rw [Nat.add_zero]; exact hm
  have e2 : x - 1 = 2 ^ k * (2 * m) + (2 ^ k - 1) := by rw [hm, Nat.mul_add]; omega
  have b1 : ∀ j, x.testBit j = if j < k then false else (2 * m + 1).testBit (j - k) := fun j => by
    rw [e1, Nat.testBit_two_pow_mul_add _ hp]
    simp
  have b2 : ∀ j, (x - 1).testBit j = if j < k then (2 ^ k - 1).testBit j else (2 * m).testBit (j - k) := fun j => by
    rw [e2, Nat.testBit_two_pow_mul_add _ (by omega)]
  have b3 : ∀ t, (2 * m + 1).testBit (t + 1) = (2 * m).testBit (t + 1) := fun t => by
    rw [Nat.testBit_succ, Nat.testBit_succ]
    congr 1
    omega
  refine ⟨hk, by rw [b1]; simp, fun j hj => by rw [b1, if_pos hj], fun j => ?_⟩
  rw [Nat.testBit_and, b1, b2]
  by_cases hj : j < k
  · simp [hj]
  · by_cases hjk : j = k
    · subst hjk
      simp
    · obtain ⟨t, ht⟩ : ∃ t, j - k = t + 1 := ⟨j - k - 1, by omega⟩
      rw [if_neg hj, if_neg hj, ht, b3]
      simp [hjk]
theorem bitsI_step (i x : Nat) (h0 : x ≠ 0) (hx : x < 18446744073709551616) : bitsI i x = ((64 : Int) * i + (Lib.ctz 64 x : Nat)) :: bitsI i (x &&& (x - 1)) := by
  obtain ⟨h1, h2, h3, h4⟩ := low_spec x h0 hx
  refine up_ext _ _ (up_bitsI _ _) (List.pairwise_cons.2 ⟨fun n hn => ?_, up_bitsI _ _⟩) (fun n => ?_)
  · obtain ⟨j, a, b, rfl⟩ := (mem_bitsI _ _ _).1 hn
    rw [h4] at b
    simp only [Bool.and_eq_true, decide_eq_true_eq] at b
    have : ¬ j < Lib.ctz 64 x := fun q => by rw [h3 j q] at b; cases b.1
    omega
  · rw [List.mem_cons, mem_bitsI, mem_bitsI]
    constructor
    · rintro ⟨j, a, b, rfl⟩
      by_cases hj : j = Lib.ctz 64 x
      · exact .inl (by rw [hj])
      · exact .inr ⟨j, a, by rw [h4, b]; simpa using hj, rfl⟩
    · rintro (rfl | ⟨j, a, b, rfl⟩)
      · exact ⟨_, h1, h2, rfl⟩
      · rw [h4] at b
        simp only [Bool.and_eq_true] at b
        exact ⟨j, a, b.1, rfl⟩
theorem bitsI_zero (i : Nat) : bitsI i 0 = [] := by simp [bitsI]
/-- The numbers of the first words. -/
def listK (ws : List Nat) : Nat → List Int
  | 0 => []
  | i + 1 => listK ws i ++ bitsI i (ws.getD i 0)
theorem bitsI_len (i x : Nat) : (bitsI i x).length ≤ 64 := by
  unfold bitsI
  rw [List.length_map]
  have := List.length_filter_le (fun j => x.testBit j) (List.range 64)
  simpa using this
theorem listK_len (ws : List Nat) : ∀ i, (listK ws i).length ≤ 64 * i
  | 0 => Nat.le_refl _
  | i + 1 => by
    have h1 := listK_len ws i
    have h2 := bitsI_len i (ws.getD i 0)
    simp only [listK, List.length_append]
    omega
theorem tz60 (x : Nat) (hx : x < 18446744073709551616) (w : World) (hT : TabAt 0 Lib.deBruijn64tab w) : Calls Tryd.prog 60 #[.int .u64 x] w fun e w' => e = .returned (.int .i64 (Lib.ctz 64 x)) ∧ w' = w :=
  Any7.bits_TrailingZeros64 Tryd.tzA x hx w (fun _ => hT)
theorem tab_below {n : Nat} {w w' : World} (h : TabAt 0 Lib.deBruijn64tab w) (hb : Below n w w') (hn : 0 < n) : TabAt 0 Lib.deBruijn64tab w' := fun j hj => by
  rw [← h j hj]
  exact hb.cell (p := ⟨0, j, none⟩) hn
theorem and_lt (x y : Nat) (hx : x < 18446744073709551616) : x &&& y < 18446744073709551616 := Nat.lt_of_le_of_lt Nat.and_le_left hx
set_option maxRecDepth 100000 in
set_option maxHeartbeats 4000000 in
theorem list38 (b base : Nat) (o : Option Nat) (ws : List Nat) (w : World) (h : SetAt w base b o ws) (hl : ws.length ≤ 10000000000) (hT : TabAt 0 Lib.deBruijn64tab w) (hz : 0 < w.heap.size) :
    Calls Tryd.prog 38 #[.pointer (some ⟨b, 0, none⟩)] w (NsR (listK ws ws.length) w) := by
  obtain ⟨h0, h1, sa, co, hb, hs, hown⟩ := h
  obtain ⟨n, hn⟩ : ∃ q, q = ws.length := ⟨_, rfl⟩
  rw [← hn] at hb hs hl ⊢
  have HN := Lib.hid hn
  have c0 := hb.cell 0
  simp only [List.getElem?_toArray, List.getElem?_cons_zero] at c0
  have H1 := Lib.hid h1
  have HS := Lib.hid hs
  have HT := Lib.hid hT
  clear h0 h1 hb hs hown hn hT
  go_enter Tryd.func38, Tryd.ntmps38
  go_wp2_with fail
  go_loopw [3, 11] (fun z3 z wr => ∃ (i : Nat) (sb : Option Addr) (cb : Nat) (q : List Int), i ≤ n ∧ z = .int .i64 (i : Int) ∧ z3 = .slice sb q.length cb ∧ Hid (q = listK ws i) ∧ Hid (Sl wr w.heap.size 3 1 inC (.slice sb q.length cb) q) ∧ Hid (Below w.heap.size w wr)) (fun _ z _ => n - (intOf z).toNat)
  case atStart => exact ⟨0, none, 0, [], Nat.zero_le _, rfl, rfl, Lib.hid rfl, Lib.hid (Sl.nil _ _ _ _ _), Lib.hid (Below.refl _ _)⟩
  case round =>
    obtain ⟨i, sb, cb, q, hi, rfl, rfl, HQ, HSL, HB⟩ := hrel
    by_cases hlt : i < n
    · have hlti : (i : Int) < (n : Int) := by omega
      obtain ⟨g, rfl⟩ : ∃ g, sa = some ⟨g, 0, none⟩ := by
        rcases HS.out.form with ⟨e, _⟩ | ⟨g, cap, e, _⟩
        · simp only [Value.slice.injEq] at e
          omega
        · simp only [Value.slice.injEq] at e
          exact ⟨g, e.1⟩
      have hiw : i < ws.length := by rw [← HN.out]; exact hlt
      have hc0 := HS.out.cell wd_len i 0 hiw (by omega)
      simp only [Nat.mul_one, Nat.add_zero, wdC, List.getElem?_cons_zero] at hc0
      obtain ⟨x, hx⟩ : ∃ x, x = ws[i] := ⟨_, rfl⟩
      rw [← hx] at hc0
      have hcx := (HB.out.cell (p := ⟨g, i, none⟩) (HS.out.lt g rfl).2).trans hc0
      have HX : Hid (x = ws.getD i 0) := Lib.hid (by rw [hx]; simp [List.getD_eq_getElem?_getD, hiw])
      have hx64 : x < 18446744073709551616 := by rw [HX.out]; exact getD_lt _ _ H1.out
      have HNX : Hid (listK ws (i + 1) = q ++ bitsI i x) := Lib.hid (by rw [listK, ← HX.out, ← HQ.out])
      have HXX := Lib.hid hx64
      have hql : Hid (q.length ≤ 64 * i) := Lib.hid (by rw [HQ.out]; exact listK_len ws i)
      clear hc0 hx hlt hx64
      go_wp2_with fail
      go_loopw [3, 5] (fun z3 z wr => ∃ (y : Nat) (sb : Option Addr) (cb : Nat) (p : List Int), z = .int .u64 (y : Int) ∧ z3 = .slice sb p.length cb ∧ Hid (p ++ bitsI i y = listK ws (i + 1)) ∧ Hid (y < 18446744073709551616) ∧ Hid (Sl wr w.heap.size 3 1 inC (.slice sb p.length cb) p) ∧ Hid (Below w.heap.size w wr)) (fun _ z _ => (intOf z).toNat)
      case atStart => exact ⟨x, sb, cb, q, rfl, rfl, Lib.hid HNX.out.symm, HXX, HSL, HB⟩
      case round =>
        obtain ⟨y, sb, cb, p, rfl, rfl, HP, HY, HSL, HB⟩ := hrel
        by_cases hy : y = 0
        · subst hy
          have HPE : Hid (p = listK ws (i + 1)) := Lib.hid (by rw [← HP.out, bitsI_zero, List.append_nil])
          go_wp2_with fail
          go_roundw
          case rel => exact ⟨i + 1, sb, cb, p, by omega, by go_num, rfl, HPE, HSL, HB⟩
          case measure => simp [intOf]; omega
        · have hyi : ((y : Int) == 0) = false := by rw [beq_eq_false_iff_ne]; omega
          have hyi2 : ¬ (y : Int) = 0 := by omega
          have hy64 := HY.out
          have hpl : p.length + 1 ≤ 1000000000000 := by
            have h5 := congrArg List.length HP.out
            have h6 := listK_len ws (i + 1)
            rw [bitsI_step i y hy hy64] at h5
            simp only [List.length_append, List.length_cons] at h5
            omega
          obtain ⟨k, hk⟩ : ∃ k, k = Lib.ctz 64 y := ⟨_, rfl⟩
          have hk64 : k < 64 := by rw [hk]; exact (low_spec y hy hy64).1
          obtain ⟨z, hz2⟩ : ∃ z, z = y &&& (y - 1) := ⟨_, rfl⟩
          have HP2 : Hid (p ++ [(64 : Int) * i + k] ++ bitsI i z = listK ws (i + 1)) := Lib.hid (by rw [← HP.out, bitsI_step i y hy hy64, ← hk, ← hz2]; simp)
          have HZ : Hid (z < 18446744073709551616) := Lib.hid (by rw [hz2]; exact and_lt _ _ hy64)
          have HZY : Hid (z < y) := Lib.hid (by rw [hz2]; have := Nat.and_le_right (n := y) (m := y - 1); omega)
          have hb1 : bits .and .u64 (y : Int) ((y : Int) - 1) = (z : Int) := by rw [show (y : Int) - 1 = ((y - 1 : Nat) : Int) by omega, bits_and_u64_nat y (y - 1) hy64 (by omega), ← hz2]
          have hyp : (1 : Int) ≤ (y : Int) := by omega
          have hyl : (y : Int) ≤ 18446744073709551615 := by omega
          have hwb : IntKind.u64.wrap ((y : Int) - 1) = (y : Int) - 1 := by rw [IntKind.wrap_u64]; omega
          have CT := Lib.hid (tz60 y hy64 wr (tab_below HT.out HB.out hz))
          rw [← hk] at CT
          obtain ⟨g2, cap2, W2, hrun, sl2, hgrow, _⟩ := sl_push_in (HSL.out.only (bs := []) (Only.alloc [] wr (.cells #[.int .i64 ((64 : Int) * i + k)] 3)) (fun g hg hm => by cases hm)) ((64 : Int) * i + k) wr.heap.size (Blk.new wr 3 _) (by omega) (by have := HB.out.size; simp; omega)
          have B2 : Hid (Below w.heap.size w W2) := Lib.hid (HB.out.trans (((Below.refl w.heap.size wr).alloc HB.out.size _).grown hgrow (by have := HB.out.size; simp; omega) (fun j hj => (HSL.out.lt j hj).1)))
          have HRN := Lib.hid hrun
          have SL2 := Lib.hid sl2
          have hi9 : (i : Int) ≤ 10000000000 := by omega
          have hk9 : (k : Int) < 64 := by omega
          clear hrun sl2 hgrow hk hz2 hy
          go_wp2_with fail
          refine CT.out.mono ?_
          rintro e w5 ⟨rfl, rfl⟩
          go_wp2_with (at_builtin; refine wpList_append_run rfl _ _ 23 23 rfl rfl rfl HRN.out ?_)
          go_roundw
          case rel => exact ⟨z, some ⟨g2, 0, none⟩, cap2, p ++ [(64 : Int) * i + k], by rfl, by simp, HP2, HZ, by simpa using SL2, B2⟩
          case measure => simp [intOf]; have := HZY.out; omega
    · have hlti : ¬ (i : Int) < (n : Int) := by omega
      obtain rfl : i = n := by omega
      clear hlt
      go_wp2_with fail
      go_ret
      exact ⟨HB.out, _, rfl, by rw [← HQ.out]; exact HSL.out⟩
end Go.Proofs.YtekfnonjhcfdmaaDoor
