/- flow's sets of numbers: words of 64 bits. -/
import Derived.Test.YtekfnonjhcfdmaaDoorMarks
import Derived.StillTailTactics
import Derived.Laws.Bits64b
namespace Go.Proofs.YtekfnonjhcfdmaaDoor
open Go.RowKit Go.Rt Go.Rw

def wdC (n : Nat) : List Value := [.int .u64 n]
theorem wd_len (a : Nat) : (wdC a).length = 1 := rfl
/-- A set in memory: its words in a block o of its own. -/
def SetAt (W : World) (base b : Nat) (o : Option Nat) (ws : List Nat) : Prop := base ≤ b ∧ (∀ x ∈ ws, x < 18446744073709551616) ∧ ∃ sa co, Blk W b 62 #[.slice sa ws.length co] ∧ Sl W base 95 1 wdC (.slice sa ws.length co) ws ∧ (Value.slice sa ws.length co).ownBlock = o
/-- The words' block is the same or new. -/
def Same (w : World) (o o' : Option Nat) : Prop := o' = o ∨ ∃ g, o' = some g ∧ w.heap.size ≤ g
theorem Same.only {w w1 w2 : World} {b : Nat} {o o' : Option Nat} (h : Only (b :: o.toList) w w1) (hs : Same w o o') (k : Only (b :: o'.toList) w1 w2) : Only (b :: o.toList) w w2 := by
  rcases hs with rfl | ⟨g, rfl, hg⟩
  · exact h.trans k
  · refine ⟨k.os.trans h.os, k.tape.trans h.tape, k.output.trans h.output, Nat.le_trans h.size k.size, fun i hi hn => ?_⟩
    refine (k.block i (by have := h.size; omega) ?_).trans (h.block i hi hn)
    simp only [Option.toList_some, List.mem_cons, List.not_mem_nil, or_false, not_or] at hn ⊢
    exact ⟨hn.1, by omega⟩
theorem sl_push_wd {W : World} {B : Nat} {v : Value} {L : List Nat} (h : Sl W B 95 1 wdC v L) (a : Nat) (b : Nat) (hb : Blk W b 95 (wdC a).toArray) (hl : L.length + 1 ≤ 10000000000000) (hbase : B ≤ W.heap.size) :
    ∃ (g cap : Nat) (W2 : World), (Builtin.append_ #[60, 60] 60 #[v, .slice (some ⟨b, 0, none⟩) 1 1]).run Tryd.prog W = .ok (.slice (some ⟨g, 0, none⟩) (L.length + 1) cap) W2 ∧ Sl W2 B 95 1 wdC (.slice (some ⟨g, 0, none⟩) (L.length + 1) cap) (L ++ [a]) ∧ W.grownBy W2 v.ownBlock ∧ (v.ownBlock = some g ∨ W.heap.size ≤ g) :=
  h.push (t := 60) (ty := 60) (bytes := 8) (z := .int .u64 0) (by kernel_rfl) (by kernel_rfl) (by rfl) (by decide) (fun _ => rfl) (fun a u hu => by simp [wdC] at hu; rcases hu with rfl; rfl) a hb (by omega) (by omega) hbase 1
/-- One word more. -/
theorem SetAt.push {w : World} {base b : Nat} {sa : Option Addr} {co : Nat} {us : List Nat} (hb : Blk w b 62 #[.slice sa us.length co]) (hs : Sl w base 95 1 wdC (.slice sa us.length co) us) (hl : us.length + 1 ≤ 10000000000000) (hz : base ≤ w.heap.size) :
    ∃ g cap W2, (Builtin.append_ #[60, 60] 60 #[.slice sa us.length co, .slice (some ⟨w.heap.size, 0, none⟩) 1 1]).run Tryd.prog (w.alloc (.cells #[.int .u64 0] 95)) = .ok (.slice (some ⟨g, 0, none⟩) (us.length + 1) cap) W2 ∧
      Blk W2 b 62 #[.slice sa us.length co] ∧ Blk (W2.setCell ⟨b, 0, none⟩ (.slice (some ⟨g, 0, none⟩) (us.length + 1) cap)) b 62 #[.slice (some ⟨g, 0, none⟩) (us ++ [0]).length cap] ∧ Sl (W2.setCell ⟨b, 0, none⟩ (.slice (some ⟨g, 0, none⟩) (us.length + 1) cap)) base 95 1 wdC (.slice (some ⟨g, 0, none⟩) (us ++ [0]).length cap) (us ++ [0]) ∧
      Only (b :: (Value.slice sa us.length co).ownBlock.toList) w (W2.setCell ⟨b, 0, none⟩ (.slice (some ⟨g, 0, none⟩) (us.length + 1) cap)) ∧ (some g = (Value.slice sa us.length co).ownBlock ∨ w.heap.size ≤ g) := by
  obtain ⟨g, cap, W2, hrun, sl2, hgrow, hwh⟩ := sl_push_wd (hs.only (bs := []) (Only.alloc [] w (.cells #[.int .u64 0] 95)) (fun g hg hm => by cases hm)) 0 w.heap.size (Blk.new w 95 _) hl (by simp; omega)
  have hno : some b ≠ (Value.slice sa us.length co).ownBlock := by
    intro e
    rcases hs.2 with ⟨q, _⟩ | ⟨g2, cap2, cur, q, _, q3, _⟩
    · rw [q] at e
      simp [Value.ownBlock] at e
    · rw [q] at e
      simp only [Value.ownBlock, Option.some.injEq] at e
      subst e
      exact blk_ne hb (show Blk w b 95 cur from q3) (by decide) rfl
  have hb2 : Blk W2 b 62 #[.slice sa us.length co] := (hgrow.block b (by have := hb.lt; simp; omega) hno).trans (hb.alloc _)
  have hg2 := (sl2.lt g rfl).2
  have hgb : g ≠ b := by
    rcases hwh with q | q
    · exact fun e => hno (by rw [← e]; exact q.symm)
    · have := hb.lt
      simp at q
      omega
  refine ⟨g, cap, W2, hrun, hb2, ?_, ?_, ?_, ?_⟩
  · have := hb2.set_ 0 (.slice (some ⟨g, 0, none⟩) (us.length + 1) cap)
    simpa using this
  · have := sl2.only (Only.setCell (bs := [b]) W2 ⟨b, 0, none⟩ (.slice (some ⟨g, 0, none⟩) (us.length + 1) cap) (by simp)) (fun g' hg' hm => by
      simp [Value.ownBlock] at hg' hm
      omega)
    simpa using this
  · exact (((Only.alloc _ _ _).trans (grown_only hgrow)).mono (fun r hr => .inl (by simp only [List.mem_cons]; exact .inr hr))).trans (Only.setCell _ _ _ (by simp))
  · rcases hwh with q | q
    · exact .inl q.symm
    · simp at q
      exact .inr (by omega)
theorem two_lt (r : Nat) (hr : r < 64) : 2 ^ r < 18446744073709551616 := by
  have : 2 ^ r < 2 ^ 64 := Nat.pow_lt_pow_right (by omega) hr
  simpa using this
theorem wrap_two (r : Nat) (hr : r < 64) : IntKind.u64.wrap ((2 : Int) ^ r) = ((2 ^ r : Nat) : Int) := by
  have h2 : ((2 : Int) ^ r) = ((2 ^ r : Nat) : Int) := by rw [Int.natCast_pow]; rfl
  have h3 := two_lt r hr
  obtain ⟨y, hy⟩ : ∃ y, y = 2 ^ r := ⟨_, rfl⟩
  rw [h2, ← hy, IntKind.wrap_u64]
  rw [← hy] at h3
  omega
theorem or_lt (x y : Nat) (hx : x < 18446744073709551616) (hy : y < 18446744073709551616) : x ||| y < 18446744073709551616 := by
  have : x ||| y < 2 ^ 64 := Nat.or_lt_two_pow (by omega) (by omega)
  simpa using this
/-- A bit more. -/
def bitF (ws : List Nat) (q r : Nat) : List Nat := (ws ++ List.replicate (q + 1 - ws.length) 0).set q ((ws ++ List.replicate (q + 1 - ws.length) 0).getD q 0 ||| 2 ^ r)
set_option maxRecDepth 100000 in
set_option maxHeartbeats 4000000 in
theorem add58 (b base : Nat) (o : Option Nat) (ws : List Nat) (q r : Nat) (w : World) (h : SetAt w base b o ws) (hr : r < 64) (hq : q ≤ 1000000000) (hz : base ≤ w.heap.size) :
    Calls Tryd.prog 58 #[.pointer (some ⟨b, 0, none⟩), .int .i64 ((64 * q + r : Nat) : Int)] w fun e w' => e = .returned (.tuple #[]) ∧ ∃ o', SetAt w' base b o' (bitF ws q r) ∧ Same w o o' ∧ Only (b :: o.toList) w w' := by
  obtain ⟨h0, h1, sa, co, h2, h3, h4⟩ := h
  obtain ⟨k, hk⟩ : ∃ k : Nat, k = 64 * q + r := ⟨_, rfl⟩
  rw [← hk]
  have dq : (k : Int) / 64 = (q : Int) := by omega
  have dr : (k : Int).tmod 64 = (r : Int) := by rw [Int.tmod_eq_emod_of_nonneg (by omega)]; omega
  have dq2 : (k : Int).tdiv 64 = (q : Int) := by rw [Int.tdiv_eq_ediv_of_nonneg (by omega)]; omega
  have wq : IntKind.i64.wrap (q : Int) = (q : Int) := by rw [IntKind.wrap_i64]; omega
  have HK := Lib.hid hk
  have H0 := Lib.hid h0
  have H1 := Lib.hid h1
  have H2 := Lib.hid h2
  have H3 := Lib.hid h3
  have H4 := Lib.hid h4
  clear hk h0 h1 h2 h3 h4
  go_enter Tryd.func58, Tryd.ntmps58
  go_wp2_with fail
  go_loopw [8] (fun z wr => ∃ (j : Nat) (us : List Nat) (sb : Option Addr) (cb : Nat), Hid (us = ws ++ List.replicate j 0) ∧ Hid (j ≤ q + 1 - ws.length) ∧ Hid (Blk wr b 62 #[.slice sb us.length cb]) ∧ Hid (Sl wr base 95 1 wdC (.slice sb us.length cb) us) ∧ Hid (Only (b :: o.toList) w wr) ∧ Hid (Same w o (Value.slice sb us.length cb).ownBlock)) (fun _ wr => match wr.cell? ⟨b, 0, none⟩ with | some (.slice _ n _) => q + 1 - n | _ => 0)
  case atStart => exact ⟨0, ws, sa, co, Lib.hid (by simp), Lib.hid (Nat.zero_le _), H2, H3, Lib.hid (Only.refl _ _), Lib.hid (.inl H4.out)⟩
  case round =>
    obtain ⟨j, us, sb, cb, HU, HJ, HB, HS, HO, HSA⟩ := hrel
    clear H2 H3
    have c0 : wr.cell? ⟨b, 0, none⟩ = some (.slice sb us.length cb) := HB.out.cell 0
    have hul : Hid (us.length = ws.length + j) := Lib.hid (by rw [HU.out]; simp)
    by_cases hlt : (us.length : Int) ≤ (q : Int)
    · obtain ⟨g, cap, W2, hrun, q2, q3, q4, q5, q6⟩ := SetAt.push HB.out HS.out (by have := hul.out; omega) (by have := HO.out.size; omega)
      have HRN := Lib.hid hrun
      have d1 := q2.cell 0
      have d2 := q2.frozen 0
      simp only [List.getElem?_toArray, List.getElem?_cons_zero] at d1
      have Q3 := Lib.hid q3
      have Q4 := Lib.hid q4
      have Q5 := Lib.hid q5
      have Q6 := Lib.hid q6
      have hm3 : Hid ((W2.setCell ⟨b, 0, none⟩ (.slice (some ⟨g, 0, none⟩) (us.length + 1) cap)).cell? ⟨b, 0, none⟩ = some (.slice (some ⟨g, 0, none⟩) (us ++ [0]).length cap)) := Lib.hid (q3.cell 0)
      have hm0 := Lib.hid c0
      have HLT := Lib.hid hlt
      clear hrun q2 q3 q4 q5 q6
      go_wp2_with (at_builtin; refine wpList_append_run rfl _ _ 60 60 rfl rfl rfl HRN.out ?_)
      go_roundw
      case rel =>
        refine ⟨j + 1, us ++ [0], some ⟨g, 0, none⟩, cap, Lib.hid (by rw [HU.out, List.append_assoc, List.replicate_succ']), Lib.hid (by have := HLT.out; have := hul.out; omega), Q3, Q4, Lib.hid (Same.only HO.out HSA.out Q5.out), Lib.hid ?_⟩
        rcases Q6.out with e | e
        · rcases HSA.out with h | ⟨g', h, hg'⟩
          · exact .inl (by rw [← h, ← e]; rfl)
          · exact .inr ⟨g', by rw [← h, ← e]; rfl, hg'⟩
        · exact .inr ⟨g, rfl, by have := HO.out.size; omega⟩
      case measure =>
        rw [hm3.out, hm0.out]
        have := HLT.out
        simp
        omega
    · have hlt' : q < us.length := by omega
      have HJ2 : Hid (us = ws ++ List.replicate (q + 1 - ws.length) 0) := Lib.hid (by
        rw [HU.out]
        have := HJ.out
        have := hul.out
        rw [show j = q + 1 - ws.length by omega])
      obtain ⟨g, rfl⟩ : ∃ g, sb = some ⟨g, 0, none⟩ := by
        rcases HS.out.form with ⟨_, e⟩ | ⟨g, cap, e, _⟩
        · rw [e] at hlt'
          simp at hlt'
        · simp only [Value.slice.injEq] at e
          exact ⟨g, e.1⟩
      have hcell := HS.out.cell wd_len q 0 hlt' (by omega)
      have hfz := HS.out.frozen q
      obtain ⟨x, hx⟩ : ∃ x, x = us[q] := ⟨_, rfl⟩
      rw [← hx] at hcell
      simp only [Nat.mul_one, Nat.add_zero, wdC, List.getElem?_cons_zero] at hcell
      have hqi : (q : Int) < (us.length : Int) := by omega
      have HX := Lib.hid hx
      clear hx
      obtain ⟨y, hy⟩ : ∃ y, y = 2 ^ r := ⟨_, rfl⟩
      have hsh := wrap_two r hr
      rw [← hy] at hsh
      have hx64 : x < 18446744073709551616 := by
        have hm : x ∈ us := by rw [HX.out]; exact List.getElem_mem _
        rw [HJ2.out] at hm
        rcases List.mem_append.1 hm with h | h
        · exact H1.out _ h
        · rw [List.eq_of_mem_replicate h]; decide
      have hy64 : y < 18446744073709551616 := by rw [hy]; exact two_lt r hr
      have hor := bits_or_u64_nat x y hx64 hy64
      obtain ⟨z, hz⟩ : ∃ z, z = x ||| y := ⟨_, rfl⟩
      rw [← hz] at hor
      have HZ := Lib.hid hz
      have HY := Lib.hid hy
      clear hz hy
      go_upto_region 2 with fail
      refine wp_region_held_drew (S := (fun w' => w'.cell? ⟨b, 0, none⟩ = some (.slice (some ⟨g, 0, none⟩) us.length cb))) (by kernel_rfl) (c0) (fun hS => ?_)
      have hcd : wr.drew.cell? ⟨g, q, none⟩ = some (.int .u64 x) := hcell
      have hfd : wr.drew.frozen? ⟨g, q, none⟩ = false := hfz
      refine wpAnyH_take (i := 0) (v := ?_) rfl (by kernel_rfl) (by kernel_rfl) (by kernel_rfl) (fun _ _ _ h => h) (Or.inl ⟨by rfl, ?_⟩) (by assumption) ?_
      rotate_left
      · intro w hSw
        go_simp
        with_reducible rfl
      change wpAnyH _ _ _ _ _ _ _ (Act.put _ (some 21) _) _
      simp only [Act.put, List.setIfInBounds_toArray, List.set_cons_zero, List.set_cons_succ]
      refine wpAnyH_take (i := 1) (v := ?_) rfl (by kernel_rfl) (by kernel_rfl) (by kernel_rfl) (fun _ _ _ h => h) (Or.inl ⟨by rfl, ?_⟩) (by assumption) ?_
      rotate_left
      · intro w hSw
        go_simp
        with_reducible rfl
      change wpAnyH _ _ _ _ _ _ _ (Act.put _ (some 22) _) _
      simp only [Act.put, List.setIfInBounds_toArray, List.set_cons_zero, List.set_cons_succ]
      refine wpAnyH_take (i := 2) (v := ?_) rfl (by kernel_rfl) (by kernel_rfl) (by kernel_rfl) (fun _ _ _ h => h) (Or.inl ⟨by rfl, ?_⟩) (by assumption) ?_
      rotate_left
      · intro w hSw
        go_simp
        with_reducible rfl
      change wpAnyH _ _ _ _ _ _ _ (Act.put _ (some 23) _) _
      simp only [Act.put, List.setIfInBounds_toArray, List.set_cons_zero, List.set_cons_succ]
      refine wpAnyH_take (i := 3) (v := ?_) rfl (by kernel_rfl) (by kernel_rfl) (by kernel_rfl) (fun _ _ _ h => h) (Or.inl ⟨by rfl, ?_⟩) (by assumption) ?_
      rotate_left
      · intro w hSw
        go_simp
        with_reducible rfl
      change wpAnyH _ _ _ _ _ _ _ (Act.put _ (some 24) _) _
      simp only [Act.put, List.setIfInBounds_toArray, List.set_cons_zero, List.set_cons_succ]
      refine wpAnyH_take (i := 4) (v := ?_) rfl (by kernel_rfl) (by kernel_rfl) (by kernel_rfl) (fun _ _ _ h => h) (Or.inl ⟨by rfl, ?_⟩) (by assumption) ?_
      rotate_left
      · intro w hSw
        go_simp
        with_reducible rfl
      change wpAnyH _ _ _ _ _ _ _ (Act.put _ (some 25) _) _
      simp only [Act.put, List.setIfInBounds_toArray, List.set_cons_zero, List.set_cons_succ]
      refine wpAnyH_take (i := 5) (v := ?_) rfl (by kernel_rfl) (by kernel_rfl) (by kernel_rfl) (fun _ _ _ h => h) (Or.inl ⟨by rfl, ?_⟩) (by assumption) ?_
      rotate_left
      · intro w hSw
        go_simp
        with_reducible rfl
      change wpAnyH _ _ _ _ _ _ _ (Act.put _ (some 26) _) _
      simp only [Act.put, List.setIfInBounds_toArray, List.set_cons_zero, List.set_cons_succ]
      refine wpAnyH_take (i := 6) (v := ?_) rfl (by kernel_rfl) (by kernel_rfl) (by kernel_rfl) (fun _ _ _ h => h) (Or.inl ⟨by rfl, ?_⟩) (by assumption) ?_
      rotate_left
      · intro w hSw
        go_simp
        with_reducible rfl
      change wpAnyH _ _ _ _ _ _ _ (Act.put _ (some 27) _) _
      simp only [Act.put, List.setIfInBounds_toArray, List.set_cons_zero, List.set_cons_succ]
      refine wpAnyH_take (i := 8) (v := ?_) rfl (by kernel_rfl) (by kernel_rfl) (by kernel_rfl) (fun _ _ _ h => h) (Or.inl ⟨by rfl, ?_⟩) (by assumption) ?_
      rotate_left
      · intro w hSw
        go_simp
        with_reducible rfl
      change wpAnyH _ _ _ _ _ _ _ (Act.put _ (some 29) _) _
      simp only [Act.put, List.setIfInBounds_toArray, List.set_cons_zero, List.set_cons_succ]
      refine wpAnyH_take (i := 9) (v := ?_) rfl (by kernel_rfl) (by kernel_rfl) (by kernel_rfl) (fun _ _ _ h => h) (Or.inl ⟨by rfl, ?_⟩) (by assumption) ?_
      rotate_left
      · intro w hSw
        go_simp
        with_reducible rfl
      change wpAnyH _ _ _ _ _ _ _ (Act.put _ (some 30) _) _
      simp only [Act.put, List.setIfInBounds_toArray, List.set_cons_zero, List.set_cons_succ]
      refine wpAnyH_take (i := 10) (v := ?_) rfl (by kernel_rfl) (by kernel_rfl) (by kernel_rfl) (fun _ _ _ h => h) (Or.inl ⟨by rfl, ?_⟩) (by assumption) ?_
      rotate_left
      · intro w hSw
        go_simp
        with_reducible rfl
      change wpAnyH _ _ _ _ _ _ _ (Act.put _ (some 31) _) _
      simp only [Act.put, List.setIfInBounds_toArray, List.set_cons_zero, List.set_cons_succ]
      refine wpAnyH_ready (rs := [7]) (by kernel_rfl) (by simp) ?_
      refine AllReadyH.cons rfl (fun K hK => ?_) AllReadyH.nil
      go_simp
      refine hK.out _ _ (c0) (fun hS => ?_)
      clear hK K
      try simp only [Act.put, List.setIfInBounds_toArray, List.set_cons_zero, List.set_cons_succ]
      refine wpAnyH_take (i := 11) (v := ?_) rfl (by kernel_rfl) (by kernel_rfl) (by kernel_rfl) (fun _ _ _ h => h) (Or.inl ⟨by rfl, ?_⟩) (by assumption) ?_
      rotate_left
      · intro w hSw
        go_simp
        with_reducible rfl
      change wpAnyH _ _ _ _ _ _ _ (Act.put _ (some 32) _) _
      simp only [Act.put, List.setIfInBounds_toArray, List.set_cons_zero, List.set_cons_succ]
      refine wpAnyH_take (i := 12) (v := ?_) rfl (by kernel_rfl) (by kernel_rfl) (by kernel_rfl) (fun _ _ _ h => h) (Or.inl ⟨by rfl, ?_⟩) (by assumption) ?_
      rotate_left
      · intro w hSw
        go_simp
        with_reducible rfl
      change wpAnyH _ _ _ _ _ _ _ (Act.put _ (some 33) _) _
      simp only [Act.put, List.setIfInBounds_toArray, List.set_cons_zero, List.set_cons_succ]
      refine wpAnyH_ready (rs := [13]) (by kernel_rfl) (by simp) ?_
      refine AllReadyH.cons rfl (fun K hK => ?_) AllReadyH.nil
      go_simp
      have hbg : b ≠ g := by
        rcases HS.out.2 with ⟨e, _⟩ | ⟨g2, cap2, cur, e, _, q3, _⟩
        · cases e
        · simp only [Value.slice.injEq, Option.some.injEq, Addr.mk.injEq, and_true] at e
          obtain ⟨rfl, _, _⟩ := e
          exact blk_ne HB.out (show Blk wr g 95 cur from q3) (by decide)
      have cN : (wr.setCell ⟨g, q, none⟩ (.int .u64 z)).drew.cell? ⟨b, 0, none⟩ = some (.slice (some ⟨g, 0, none⟩) us.length cb) := (World.cell?_setCell_far wr ⟨g, q, none⟩ ⟨b, 0, none⟩ _ (Ne.symm hbg)).trans c0
      refine hK.out _ _ (cN) (fun hS => ?_)
      clear hK K
      try simp only [Act.put, List.setIfInBounds_toArray, List.set_cons_zero, List.set_cons_succ]
      refine wpAnyH_done (by kernel_rfl) ?_ _
      have hst := HS.out.store wd_len q 0 hlt' (by omega) (.int .u64 z) z (by simp [wdC])
      have HST := Lib.hid hst
      have hbg : b ≠ g := by
        rcases HS.out.2 with ⟨e, _⟩ | ⟨g2, cap2, cur, e, _, q3, _⟩
        · cases e
        · simp only [Value.slice.injEq, Option.some.injEq, Addr.mk.injEq, and_true] at e
          obtain ⟨rfl, _, _⟩ := e
          exact blk_ne HB.out (show Blk wr g 95 cur from q3) (by decide)
      have HBN := Lib.hid ((HB.out.far (p := ⟨g, q, none⟩) hbg (.int .u64 z)).drew)
      have HBF : Hid (bitF ws q r = us.set q z) := Lib.hid (by
        unfold bitF
        rw [← HJ2.out, HZ.out, HY.out, HX.out]
        congr 2
        simp [List.getD_eq_getElem?_getD, hlt'])
      have HZL : Hid (z < 18446744073709551616) := Lib.hid (by rw [HZ.out]; exact or_lt x y hx64 hy64)
      clear hst hbg
      go_end0
      refine ⟨rfl, _, ⟨H0.out, fun a ha => ?_, some ⟨g, 0, none⟩, cb, ?_, ?_, rfl⟩, HSA.out, ?_⟩
      · rw [HBF.out] at ha
        rcases List.mem_or_eq_of_mem_set ha with h | h
        · rw [HJ2.out] at h
          rcases List.mem_append.1 h with h | h
          · exact H1.out _ h
          · rw [List.eq_of_mem_replicate h]; decide
        · rw [h]; exact HZL.out
      · rw [HBF.out, List.length_set]
        exact HBN.out
      · rw [HBF.out, List.length_set]
        have h5 := HST.out
        rw [Nat.mul_one, Nat.add_zero] at h5
        exact h5.same (Nat.le_refl _) (fun _ _ => rfl)
      · refine Same.only HO.out HSA.out ((Only.setCell wr ⟨g, q, none⟩ (.int .u64 z) ?_).trans (Only.drew _ _))
        simp [Value.ownBlock]
end Go.Proofs.YtekfnonjhcfdmaaDoor
