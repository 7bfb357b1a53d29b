/- flow's sets of numbers: words of 64 bits. flow's sets of numbers: join. flow's sets of numbers: their list. -/
import Derived.Test.YtekfnonjhcfdmaaDoorNest1
import Derived.StillTailTactics
import Derived.Laws.Bits64b
import Derived.Deep.RegionWith
import Derived.Deep.DeepCutAuto
namespace Go.Proofs.YtekfnonjhcfdmaaDoor
open Go.RowKit Go.Rt Go.Rw

def wdC (n : Nat) : List Value := [.int .u64 n]
theorem wd_len (a : Nat) : (wdC a).length = 1 := rfl
/-- A set in memory: its words in a block o of its own. -/
def SetAt (W : World) (base b : Nat) (o : Option Nat) (ws : List Nat) : Prop := base ≤ b ∧ (∀ x ∈ ws, x < 18446744073709551616) ∧ ∃ sa co, Blk W b 62 #[.slice sa ws.length co] ∧ Sl W base 95 1 wdC (.slice sa ws.length co) ws ∧ (Value.slice sa ws.length co).ownBlock = o
/-- The words' block is the same or new. -/
def Same (w : World) (o o' : Option Nat) : Prop := o' = o ∨ ∃ g, o' = some g ∧ w.heap.size ≤ g
theorem Same.only {w w1 w2 : World} {b : Nat} {o o' : Option Nat} (h : Only (b :: o.toList) w w1) (hs : Same w o o') (k : Only (b :: o'.toList) w1 w2) : Only (b :: o.toList) w w2 := by
  rcases hs with rfl | ⟨g, rfl, hg⟩
  · exact h.trans k
  · refine ⟨k.os.trans h.os, k.tape.trans h.tape, k.output.trans h.output, Nat.le_trans h.size k.size, fun i hi hn => ?_⟩
    refine (k.block i (by have := h.size; omega) ?_).trans (h.block i hi hn)
    simp only [Option.toList_some, List.mem_cons, List.not_mem_nil, or_false, not_or] at hn ⊢
    exact ⟨hn.1, by omega⟩
theorem sl_push_wd {W : World} {B : Nat} {v : Value} {L : List Nat} (h : Sl W B 95 1 wdC v L) (a : Nat) (b : Nat) (hb : Blk W b 95 (wdC a).toArray) (hl : L.length + 1 ≤ 10000000000000) (hbase : B ≤ W.heap.size) :
    ∃ (g cap : Nat) (W2 : World), (Builtin.append_ #[60, 60] 60 #[v, .slice (some ⟨b, 0, none⟩) 1 1]).run Tryd.prog W = .ok (.slice (some ⟨g, 0, none⟩) (L.length + 1) cap) W2 ∧ Sl W2 B 95 1 wdC (.slice (some ⟨g, 0, none⟩) (L.length + 1) cap) (L ++ [a]) ∧ W.grownBy W2 v.ownBlock ∧ (v.ownBlock = some g ∨ W.heap.size ≤ g) :=
  h.push (t := 60) (ty := 60) (bytes := 8) (z := .int .u64 0) (by kernel_rfl) (by kernel_rfl) (by rfl) (by decide) (fun _ => rfl) (fun a u hu => by simp [wdC] at hu; rcases hu with rfl; rfl) a hb (by omega) (by omega) hbase 1
/-- One word more. -/
theorem SetAt.push {w : World} {base b : Nat} {sa : Option Addr} {co : Nat} {us : List Nat} (hb : Blk w b 62 #[.slice sa us.length co]) (hs : Sl w base 95 1 wdC (.slice sa us.length co) us) (hl : us.length + 1 ≤ 10000000000000) (hz : base ≤ w.heap.size) :
    ∃ g cap W2, (Builtin.append_ #[60, 60] 60 #[.slice sa us.length co, .slice (some ⟨w.heap.size, 0, none⟩) 1 1]).run Tryd.prog (w.alloc (.cells #[.int .u64 0] 95)) = .ok (.slice (some ⟨g, 0, none⟩) (us.length + 1) cap) W2 ∧
      Blk W2 b 62 #[.slice sa us.length co] ∧ Blk (W2.setCell ⟨b, 0, none⟩ (.slice (some ⟨g, 0, none⟩) (us.length + 1) cap)) b 62 #[.slice (some ⟨g, 0, none⟩) (us ++ [0]).length cap] ∧ Sl (W2.setCell ⟨b, 0, none⟩ (.slice (some ⟨g, 0, none⟩) (us.length + 1) cap)) base 95 1 wdC (.slice (some ⟨g, 0, none⟩) (us ++ [0]).length cap) (us ++ [0]) ∧
      Only (b :: (Value.slice sa us.length co).ownBlock.toList) w (W2.setCell ⟨b, 0, none⟩ (.slice (some ⟨g, 0, none⟩) (us.length + 1) cap)) ∧ (some g = (Value.slice sa us.length co).ownBlock ∨ w.heap.size ≤ g) := by
  obtain ⟨g, cap, W2, hrun, sl2, hgrow, hwh⟩ := sl_push_wd (hs.only (bs := []) (Only.alloc [] w (.cells #[.int .u64 0] 95)) (fun g hg hm => by cases hm)) 0 w.heap.size (Blk.new w 95 _) hl (by simp; omega)
  have hno : some b ≠ (Value.slice sa us.length co).ownBlock := by
    intro e
    rcases hs.2 with ⟨q, _⟩ | ⟨g2, cap2, cur, q, _, q3, _⟩
    · rw [q] at e
      simp [Value.ownBlock] at e
    · rw [q] at e
      simp only [Value.ownBlock, Option.some.injEq] at e
      subst e
      exact blk_ne hb (show Blk w b 95 cur from q3) (by decide) rfl
  have hb2 : Blk W2 b 62 #[.slice sa us.length co] := (hgrow.block b (by have := hb.lt; simp; omega) hno).trans (hb.alloc _)
  have hg2 := (sl2.lt g rfl).2
  have hgb : g ≠ b := by
    rcases hwh with q | q
    · exact fun e => hno (by rw [← e]; exact q.symm)
    · have := hb.lt
      simp at q
      omega
  refine ⟨g, cap, W2, hrun, hb2, ?_, ?_, ?_, ?_⟩
  · have := hb2.set_ 0 (.slice (some ⟨g, 0, none⟩) (us.length + 1) cap)
    simpa using this
  · have := sl2.only (Only.setCell (bs := [b]) W2 ⟨b, 0, none⟩ (.slice (some ⟨g, 0, none⟩) (us.length + 1) cap) (by simp)) (fun g' hg' hm => by
      simp [Value.ownBlock] at hg' hm
      omega)
    simpa using this
  · exact (((Only.alloc _ _ _).trans (grown_only hgrow)).mono (fun r hr => .inl (by simp only [List.mem_cons]; exact .inr hr))).trans (Only.setCell _ _ _ (by simp))
  · rcases hwh with q | q
    · exact .inl q.symm
    · simp at q
      exact .inr (by omega)
theorem two_lt (r : Nat) (hr : r < 64) : 2 ^ r < 18446744073709551616 := by
  have : 2 ^ r < 2 ^ 64 := Nat.pow_lt_pow_right (by omega) hr
  simpa using this
theorem wrap_two (r : Nat) (hr : r < 64) : IntKind.u64.wrap ((2 : Int) ^ r) = ((2 ^ r : Nat) : Int) := by
  have h2 : ((2 : Int) ^ r) = ((2 ^ r : Nat) : Int) := by rw [Int.natCast_pow]; rfl
  have h3 := two_lt r hr
  obtain ⟨y, hy⟩ : ∃ y, y = 2 ^ r := ⟨_, rfl⟩
  rw [h2, ← hy, IntKind.wrap_u64]
  rw [← hy] at h3
  omega
theorem or_lt (x y : Nat) (hx : x < 18446744073709551616) (hy : y < 18446744073709551616) : x ||| y < 18446744073709551616 := by
  have : x ||| y < 2 ^ 64 := Nat.or_lt_two_pow (by omega) (by omega)
  simpa using this
/-- A bit more. -/
def bitF (ws : List Nat) (q r : Nat) : List Nat := (ws ++ List.replicate (q + 1 - ws.length) 0).set q ((ws ++ List.replicate (q + 1 - ws.length) 0).getD q 0 ||| 2 ^ r)
set_option maxRecDepth 100000 in
set_option maxHeartbeats 4000000 in
theorem add58 (b base : Nat) (o : Option Nat) (ws : List Nat) (q r : Nat) (w : World) (h : SetAt w base b o ws) (hr : r < 64) (hq : q ≤ 1000000000) (hz : base ≤ w.heap.size) :
    Calls Tryd.prog 58 #[.pointer (some ⟨b, 0, none⟩), .int .i64 ((64 * q + r : Nat) : Int)] w fun e w' => e = .returned (.tuple #[]) ∧ ∃ o', SetAt w' base b o' (bitF ws q r) ∧ Same w o o' ∧ Only (b :: o.toList) w w' := by
  obtain ⟨h0, h1, sa, co, h2, h3, h4⟩ := h
  obtain ⟨k, hk⟩ : ∃ k : Nat, k = 64 * q + r := ⟨_, rfl⟩
  rw [← hk]
  have dq : (k : Int) / 64 = (q : Int) := by omega
  have dr : (k : Int).tmod 64 = (r : Int) := by rw [Int.tmod_eq_emod_of_nonneg (by omega)]; omega
  have dq2 : (k : Int).tdiv 64 = (q : Int) := by rw [Int.tdiv_eq_ediv_of_nonneg (by omega)]; omega
  have wq : IntKind.i64.wrap (q : Int) = (q : Int) := by rw [IntKind.wrap_i64]; omega
  have HK := Lib.hid hk
  have H0 := Lib.hid h0
  have H1 := Lib.hid h1
  have H2 := Lib.hid h2
  have H3 := Lib.hid h3
  have H4 := Lib.hid h4
  clear hk h0 h1 h2 h3 h4
  go_enter Tryd.func58, Tryd.ntmps58
  go_wp2_with fail
  go_loopw [8] (fun z wr => ∃ (j : Nat) (us : List Nat) (sb : Option Addr) (cb : Nat), Hid (us = ws ++ List.replicate j 0) ∧ Hid (j ≤ q + 1 - ws.length) ∧ Hid (Blk wr b 62 #[.slice sb us.length cb]) ∧ Hid (Sl wr base 95 1 wdC (.slice sb us.length cb) us) ∧ Hid (Only (b :: o.toList) w wr) ∧ Hid (Same w o (Value.slice sb us.length cb).ownBlock)) (fun _ wr => match wr.cell? ⟨b, 0, none⟩ with | some (.slice _ n _) => q + 1 - n | _ => 0)
  case atStart => exact ⟨0, ws, sa, co, Lib.hid (by simp), Lib.hid (Nat.zero_le _), H2, H3, Lib.hid (Only.refl _ _), Lib.hid (.inl H4.out)⟩
  case round =>
    obtain ⟨j, us, sb, cb, HU, HJ, HB, HS, HO, HSA⟩ := hrel
    clear H2 H3
    have c0 : wr.cell? ⟨b, 0, none⟩ = some (.slice sb us.length cb) := HB.out.cell 0
    have hul : Hid (us.length = ws.length + j) := Lib.hid (by rw [HU.out]; simp)
    by_cases hlt : (us.length : Int) ≤ (q : Int)
    · obtain ⟨g, cap, W2, hrun, q2, q3, q4, q5, q6⟩ := SetAt.push HB.out HS.out (by have := hul.out; omega) (by have := HO.out.size; omega)
      have HRN := Lib.hid hrun
      have d1 := q2.cell 0
      have d2 := q2.frozen 0
      simp only [List.getElem?_toArray, List.getElem?_cons_zero] at d1
      have Q3 := Lib.hid q3
      have Q4 := Lib.hid q4
      have Q5 := Lib.hid q5
      have Q6 := Lib.hid q6
      have hm3 : Hid ((W2.setCell ⟨b, 0, none⟩ (.slice (some ⟨g, 0, none⟩) (us.length + 1) cap)).cell? ⟨b, 0, none⟩ = some (.slice (some ⟨g, 0, none⟩) (us ++ [0]).length cap)) := Lib.hid (q3.cell 0)
      have hm0 := Lib.hid c0
      have HLT := Lib.hid hlt
      clear hrun q2 q3 q4 q5 q6
      go_wp2_with (at_builtin; refine wpList_append_run rfl _ _ 60 60 rfl rfl rfl HRN.out ?_)
      go_roundw
      case rel =>
        refine ⟨j + 1, us ++ [0], some ⟨g, 0, none⟩, cap, Lib.hid (by rw [HU.out, List.append_assoc, List.replicate_succ']), Lib.hid (by have := HLT.out; have := hul.out; omega), Q3, Q4, Lib.hid (Same.only HO.out HSA.out Q5.out), Lib.hid ?_⟩
        rcases Q6.out with e | e
        · rcases HSA.out with h | ⟨g', h, hg'⟩
          · exact .inl (by rw [← h, ← e]; rfl)
          · exact .inr ⟨g', by rw [← h, ← e]; rfl, hg'⟩
        · exact .inr ⟨g, rfl, by have := HO.out.size; omega⟩
      case measure =>
        rw [hm3.out, hm0.out]
        have := HLT.out
        simp
        omega
    · have hlt' : q < us.length := by omega
      have HJ2 : Hid (us = ws ++ List.replicate (q + 1 - ws.length) 0) := Lib.hid (by
        rw [HU.out]
        have := HJ.out
        have := hul.out
        rw [show j = q + 1 - ws.length by omega])
      obtain ⟨g, rfl⟩ : ∃ g, sb = some ⟨g, 0, none⟩ := by
        rcases HS.out.form with ⟨_, e⟩ | ⟨g, cap, e, _⟩
        · rw [e] at hlt'
          simp at hlt'
        · simp only [Value.slice.injEq] at e
          exact ⟨g, e.1⟩
      have hcell := HS.out.cell wd_len q 0 hlt' (by omega)
      have hfz := HS.out.frozen q
      obtain ⟨x, hx⟩ : ∃ x, x = us[q] := ⟨_, rfl⟩
      rw [← hx] at hcell
      simp only [Nat.mul_one, Nat.add_zero, wdC, List.getElem?_cons_zero] at hcell
      have hqi : (q : Int) < (us.length : Int) := by omega
      have HX := Lib.hid hx
      clear hx
      obtain ⟨y, hy⟩ : ∃ y, y = 2 ^ r := ⟨_, rfl⟩
      have hsh := wrap_two r hr
      rw [← hy] at hsh
      have hx64 : x < 18446744073709551616 := by
        have hm : x ∈ us := by rw [HX.out]; exact List.getElem_mem _
        rw [HJ2.out] at hm
        rcases List.mem_append.1 hm with h | h
        · exact H1.out _ h
        · rw [List.eq_of_mem_replicate h]; decide
      have hy64 : y < 18446744073709551616 := by rw [hy]; exact two_lt r hr
      have hor := bits_or_u64_nat x y hx64 hy64
      obtain ⟨z, hz⟩ : ∃ z, z = x ||| y := ⟨_, rfl⟩
      rw [← hz] at hor
      have HZ := Lib.hid hz
      have HY := Lib.hid hy
      clear hz hy
      go_upto_region 2 with fail
      refine wp_region_held_drew (S := (fun w' => w'.cell? ⟨b, 0, none⟩ = some (.slice (some ⟨g, 0, none⟩) us.length cb))) (by kernel_rfl) (c0) (fun hS => ?_)
      have hcd : wr.drew.cell? ⟨g, q, none⟩ = some (.int .u64 x) := hcell
      have hfd : wr.drew.frozen? ⟨g, q, none⟩ = false := hfz
      refine wpAnyH_take (i := 0) (v := ?_) rfl (by kernel_rfl) (by kernel_rfl) (by kernel_rfl) (fun _ _ _ h => h) (Or.inl ⟨by rfl, ?_⟩) (by assumption) ?_
      rotate_left
      · intro w hSw
        go_simp
        with_reducible rfl
      change wpAnyH _ _ _ _ _ _ _ (Act.put _ (some 21) _) _
      simp only [Act.put, List.setIfInBounds_toArray, List.set_cons_zero, List.set_cons_succ]
      refine wpAnyH_take (i := 1) (v := ?_) rfl (by kernel_rfl) (by kernel_rfl) (by kernel_rfl) (fun _ _ _ h => h) (Or.inl ⟨by rfl, ?_⟩) (by assumption) ?_
      rotate_left
      · intro w hSw
        go_simp
        with_reducible rfl
      change wpAnyH _ _ _ _ _ _ _ (Act.put _ (some 22) _) _
      simp only [Act.put, List.setIfInBounds_toArray, List.set_cons_zero, List.set_cons_succ]
      refine wpAnyH_take (i := 2) (v := ?_) rfl (by kernel_rfl) (by kernel_rfl) (by kernel_rfl) (fun _ _ _ h => h) (Or.inl ⟨by rfl, ?_⟩) (by assumption) ?_
      rotate_left
      · intro w hSw
        go_simp
        with_reducible rfl
      change wpAnyH _ _ _ _ _ _ _ (Act.put _ (some 23) _) _
      simp only [Act.put, List.setIfInBounds_toArray, List.set_cons_zero, List.set_cons_succ]
      refine wpAnyH_take (i := 3) (v := ?_) rfl (by kernel_rfl) (by kernel_rfl) (by kernel_rfl) (fun _ _ _ h => h) (Or.inl ⟨by rfl, ?_⟩) (by assumption) ?_
      rotate_left
      · intro w hSw
        go_simp
        with_reducible rfl
      change wpAnyH _ _ _ _ _ _ _ (Act.put _ (some 24) _) _
      simp only [Act.put, List.setIfInBounds_toArray, List.set_cons_zero, List.set_cons_succ]
      refine wpAnyH_take (i := 4) (v := ?_) rfl (by kernel_rfl) (by kernel_rfl) (by kernel_rfl) (fun _ _ _ h => h) (Or.inl ⟨by rfl, ?_⟩) (by assumption) ?_
      rotate_left
      · intro w hSw
        go_simp
        with_reducible rfl
      change wpAnyH _ _ _ _ _ _ _ (Act.put _ (some 25) _) _
      simp only [Act.put, List.setIfInBounds_toArray, List.set_cons_zero, List.set_cons_succ]
      refine wpAnyH_take (i := 5) (v := ?_) rfl (by kernel_rfl) (by kernel_rfl) (by kernel_rfl) (fun _ _ _ h => h) (Or.inl ⟨by rfl, ?_⟩) (by assumption) ?_
      rotate_left
      · intro w hSw
        go_simp
        with_reducible rfl
      change wpAnyH _ _ _ _ _ _ _ (Act.put _ (some 26) _) _
      simp only [Act.put, List.setIfInBounds_toArray, List.set_cons_zero, List.set_cons_succ]
      refine wpAnyH_take (i := 6) (v := ?_) rfl (by kernel_rfl) (by kernel_rfl) (by kernel_rfl) (fun _ _ _ h => h) (Or.inl ⟨by rfl, ?_⟩) (by assumption) ?_
      rotate_left
      · intro w hSw
        go_simp
        with_reducible rfl
      change wpAnyH _ _ _ _ _ _ _ (Act.put _ (some 27) _) _
      simp only [Act.put, List.setIfInBounds_toArray, List.set_cons_zero, List.set_cons_succ]
      refine wpAnyH_take (i := 8) (v := ?_) rfl (by kernel_rfl) (by kernel_rfl) (by kernel_rfl) (fun _ _ _ h => h) (Or.inl ⟨by rfl, ?_⟩) (by assumption) ?_
      rotate_left
      · intro w hSw
        go_simp
        with_reducible rfl
      change wpAnyH _ _ _ _ _ _ _ (Act.put _ (some 29) _) _
      simp only [Act.put, List.setIfInBounds_toArray, List.set_cons_zero, List.set_cons_succ]
      refine wpAnyH_take (i := 9) (v := ?_) rfl (by kernel_rfl) (by kernel_rfl) (by kernel_rfl) (fun _ _ _ h => h) (Or.inl ⟨by rfl, ?_⟩) (by assumption) ?_
      rotate_left
      · intro w hSw
        go_simp
        with_reducible rfl
      change wpAnyH _ _ _ _ _ _ _ (Act.put _ (some 30) _) _
      simp only [Act.put, List.setIfInBounds_toArray, List.set_cons_zero, List.set_cons_succ]
      refine wpAnyH_take (i := 10) (v := ?_) rfl (by kernel_rfl) (by kernel_rfl) (by kernel_rfl) (fun _ _ _ h => h) (Or.inl ⟨by rfl, ?_⟩) (by assumption) ?_
      rotate_left
      · intro w hSw
        go_simp
        with_reducible rfl
      change wpAnyH _ _ _ _ _ _ _ (Act.put _ (some 31) _) _
      simp only [Act.put, List.setIfInBounds_toArray, List.set_cons_zero, List.set_cons_succ]
      refine wpAnyH_ready (rs := [7]) (by kernel_rfl) (by simp) ?_
      refine AllReadyH.cons rfl (fun K hK => ?_) AllReadyH.nil
      go_simp
      refine hK.out _ _ (c0) (fun hS => ?_)
      clear hK K
      try simp only [Act.put, List.setIfInBounds_toArray, List.set_cons_zero, List.set_cons_succ]
      refine wpAnyH_take (i := 11) (v := ?_) rfl (by kernel_rfl) (by kernel_rfl) (by kernel_rfl) (fun _ _ _ h => h) (Or.inl ⟨by rfl, ?_⟩) (by assumption) ?_
      rotate_left
      · intro w hSw
        go_simp
        with_reducible rfl
      change wpAnyH _ _ _ _ _ _ _ (Act.put _ (some 32) _) _
      simp only [Act.put, List.setIfInBounds_toArray, List.set_cons_zero, List.set_cons_succ]
      refine wpAnyH_take (i := 12) (v := ?_) rfl (by kernel_rfl) (by kernel_rfl) (by kernel_rfl) (fun _ _ _ h => h) (Or.inl ⟨by rfl, ?_⟩) (by assumption) ?_
      rotate_left
      · intro w hSw
        go_simp
        with_reducible rfl
      change wpAnyH _ _ _ _ _ _ _ (Act.put _ (some 33) _) _
      simp only [Act.put, List.setIfInBounds_toArray, List.set_cons_zero, List.set_cons_succ]
      refine wpAnyH_ready (rs := [13]) (by kernel_rfl) (by simp) ?_
      refine AllReadyH.cons rfl (fun K hK => ?_) AllReadyH.nil
      go_simp
      have hbg : b ≠ g := by
        rcases HS.out.2 with ⟨e, _⟩ | ⟨g2, cap2, cur, e, _, q3, _⟩
        · cases e
        · simp only [Value.slice.injEq, Option.some.injEq, Addr.mk.injEq, and_true] at e
          obtain ⟨rfl, _, _⟩ := e
          exact blk_ne HB.out (show Blk wr g 95 cur from q3) (by decide)
      have cN : (wr.setCell ⟨g, q, none⟩ (.int .u64 z)).drew.cell? ⟨b, 0, none⟩ = some (.slice (some ⟨g, 0, none⟩) us.length cb) := (World.cell?_setCell_far wr ⟨g, q, none⟩ ⟨b, 0, none⟩ _ (Ne.symm hbg)).trans c0
      refine hK.out _ _ (cN) (fun hS => ?_)
      clear hK K
      try simp only [Act.put, List.setIfInBounds_toArray, List.set_cons_zero, List.set_cons_succ]
      refine wpAnyH_done (by kernel_rfl) ?_ _
      have hst := HS.out.store wd_len q 0 hlt' (by omega) (.int .u64 z) z (by simp [wdC])
      have HST := Lib.hid hst
      have hbg : b ≠ g := by
        rcases HS.out.2 with ⟨e, _⟩ | ⟨g2, cap2, cur, e, _, q3, _⟩
        · cases e
        · simp only [Value.slice.injEq, Option.some.injEq, Addr.mk.injEq, and_true] at e
          obtain ⟨rfl, _, _⟩ := e
          exact blk_ne HB.out (show Blk wr g 95 cur from q3) (by decide)
      have HBN := Lib.hid ((HB.out.far (p := ⟨g, q, none⟩) hbg (.int .u64 z)).drew)
      have HBF : Hid (bitF ws q r = us.set q z) := Lib.hid (by
        unfold bitF
        rw [← HJ2.out, HZ.out, HY.out, HX.out]
        congr 2
        simp [List.getD_eq_getElem?_getD, hlt'])
      have HZL : Hid (z < 18446744073709551616) := Lib.hid (by rw [HZ.out]; exact or_lt x y hx64 hy64)
      clear hst hbg
      go_end0
      refine ⟨rfl, _, ⟨H0.out, fun a ha => ?_, some ⟨g, 0, none⟩, cb, ?_, ?_, rfl⟩, HSA.out, ?_⟩
      · rw [HBF.out] at ha
        rcases List.mem_or_eq_of_mem_set ha with h | h
        · rw [HJ2.out] at h
          rcases List.mem_append.1 h with h | h
          · exact H1.out _ h
          · rw [List.eq_of_mem_replicate h]; decide
        · rw [h]; exact HZL.out
      · rw [HBF.out, List.length_set]
        exact HBN.out
      · rw [HBF.out, List.length_set]
        have h5 := HST.out
        rw [Nat.mul_one, Nat.add_zero] at h5
        exact h5.same (Nat.le_refl _) (fun _ _ => rfl)
      · refine Same.only HO.out HSA.out ((Only.setCell wr ⟨g, q, none⟩ (.int .u64 z) ?_).trans (Only.drew _ _))
        simp [Value.ownBlock]
end Go.Proofs.YtekfnonjhcfdmaaDoor
namespace Go.Proofs.YtekfnonjhcfdmaaDoor
open Go.RowKit Go.Rt Go.Rw

/-- Without the bits of another word. -/
def andN (a b : Nat) : Nat := a ^^^ (a &&& b)
theorem andN_bit (a b j : Nat) : (andN a b).testBit j = (a.testBit j && !b.testBit j) := by
  unfold andN
  rw [Nat.testBit_xor, Nat.testBit_and]
  cases a.testBit j <;> cases b.testBit j <;> rfl
theorem andN_lt (a b : Nat) (ha : a < 18446744073709551616) : andN a b < 18446744073709551616 := by
  have h1 : a &&& b < 2 ^ 64 := by have := Nat.and_le_left (n := a) (m := b); omega
  have : a ^^^ (a &&& b) < 2 ^ 64 := Nat.xor_lt_two_pow (by omega) h1
  unfold andN
  simpa using this
theorem bits_andN (a b : Nat) (ha : a < 18446744073709551616) (hb : b < 18446744073709551616) : bits .andNot .u64 (a : Int) (b : Int) = ((andN a b : Nat) : Int) := by
  have h1 : (BitVec.ofInt 64 (a : Int)).toNat = a := by
    rw [BitVec.ofInt_natCast, BitVec.toNat_ofNat]; exact Nat.mod_eq_of_lt (by omega)
  have h2 : (BitVec.ofInt 64 (b : Int)).toNat = b := by
    rw [BitVec.ofInt_natCast, BitVec.toNat_ofNat]; exact Nat.mod_eq_of_lt (by omega)
  have hx := andN_lt a b ha
  show IntKind.u64.wrap ((BitVec.ofInt 64 (a : Int) &&& ~~~ BitVec.ofInt 64 (b : Int)).toNat : Int) = _
  have h3 : (BitVec.ofInt 64 (a : Int) &&& ~~~ BitVec.ofInt 64 (b : Int)).toNat = andN a b := by
    apply Nat.eq_of_testBit_eq
    intro j
    rw [andN_bit, BitVec.testBit_toNat, BitVec.getLsbD_and, BitVec.getLsbD_not, ← BitVec.testBit_toNat, ← BitVec.testBit_toNat, h1, h2]
    by_cases hj : j < 64
    · simp [hj]
    · have : a.testBit j = false := Nat.testBit_lt_two_pow (Nat.lt_of_lt_of_le (by simpa using ha : a < 2 ^ 64) (Nat.pow_le_pow_right (by omega) (by omega)))
      simp [this]
  rw [h3, IntKind.wrap_u64]
  omega
/-- One word is joined. -/
def stepJ (c : List Nat × Bool) (i u : Nat) : List Nat × Bool :=
  let d := if c.1.length ≤ i then c.1 ++ [0] else c.1
  if andN u (d.getD i 0) = 0 then (d, c.2) else (d.set i (d.getD i 0 ||| u), true)
/-- The first words are joined. -/
def joinK (us ds ws : List Nat) : Nat → List Nat × Bool
  | 0 => (ws, false)
  | i + 1 => stepJ (joinK us ds ws i) i (andN (us.getD i 0) (ds.getD i 0))
theorem joinK_len (us ds ws : List Nat) : ∀ i, i ≤ (joinK us ds ws i).1.length ∧ (joinK us ds ws i).1.length ≤ ws.length + i
  | 0 => ⟨Nat.zero_le _, Nat.le_refl _⟩
  | i + 1 => by
    have ih := joinK_len us ds ws i
    simp only [joinK, stepJ]
    by_cases h : (joinK us ds ws i).1.length ≤ i
    · rw [if_pos h]
      split <;> simp <;> omega
    · rw [if_neg h]
      split <;> simp <;> omega
theorem joinK_lt (us ds ws : List Nat) (hw : ∀ x ∈ ws, x < 18446744073709551616) (hu : ∀ x ∈ us, x < 18446744073709551616) : ∀ i, ∀ x ∈ (joinK us ds ws i).1, x < 18446744073709551616
  | 0, x, h => hw x h
  | i + 1, x, h => by
    have ih := joinK_lt us ds ws hw hu i
    have hd : ∀ x ∈ (if (joinK us ds ws i).1.length ≤ i then (joinK us ds ws i).1 ++ [0] else (joinK us ds ws i).1), x < 18446744073709551616 := by
      intro x hx
      split at hx
      · rcases List.mem_append.1 hx with h | h
        · exact ih x h
        · rw [List.mem_singleton.1 h]; decide
      · exact ih x hx
    have hg : ∀ (l : List Nat) (k : Nat), (∀ x ∈ l, x < 18446744073709551616) → l.getD k 0 < 18446744073709551616 := fun l k hl => by
      rw [List.getD_eq_getElem?_getD]
      by_cases hk : k < l.length
      · simpa [hk] using hl _ (List.getElem_mem hk)
      · simp [hk]
    simp only [joinK, stepJ] at h
    obtain ⟨d, hde⟩ : ∃ d, d = (if (joinK us ds ws i).1.length ≤ i then (joinK us ds ws i).1 ++ [0] else (joinK us ds ws i).1) := ⟨_, rfl⟩
    rw [← hde] at h hd
    split at h
    · exact hd x h
    · rcases List.mem_or_eq_of_mem_set h with h | h
      · exact hd x h
      · rw [h]
        exact or_lt _ _ (hg _ _ hd) (andN_lt _ _ (hg _ _ hu))
theorem getD_lt (l : List Nat) (k : Nat) (hl : ∀ x ∈ l, x < 18446744073709551616) : l.getD k 0 < 18446744073709551616 := by
  rw [List.getD_eq_getElem?_getD]
  by_cases hk : k < l.length
  · simpa [hk] using hl _ (List.getElem_mem hk)
  · simp [hk]
theorem joinK_step {us ds ws cur : List Nat} {r : Bool} {i : Nat} (h : (cur, r) = joinK us ds ws i) : joinK us ds ws (i + 1) = stepJ (cur, r) i (andN (us.getD i 0) (ds.getD i 0)) := by
  rw [joinK, ← h]
/-- Another set that is read. -/
def RdAt (W : World) (p : Value) (ds : List Nat) : Prop := (p = .pointer none ∧ ds = []) ∨ ∃ b base o, p = .pointer (some ⟨b, 0, none⟩) ∧ SetAt W base b o ds
def hasF (ws : List Nat) (j : Nat) : Bool := (ws.getD (j / 64) 0).testBit (j % 64)
set_option maxRecDepth 100000 in
set_option maxHeartbeats 4000000 in
theorem join37 (b b2 base base2 : Nat) (o o2 : Option Nat) (ws us ds : List Nat) (dp : Value) (w : World) (h : SetAt w base b o ws) (h2 : SetAt w base2 b2 o2 us)
    (hw : ∀ w', Only (b :: o.toList) w w' → RdAt w' dp ds) (ho2 : ∀ g ∈ o2.toList, g ∉ b :: o.toList) (hus : us.length ≤ 1000000000) (hws : ws.length ≤ 1000000000) (hz : base ≤ w.heap.size) :
    Calls Tryd.prog 37 #[.pointer (some ⟨b, 0, none⟩), .pointer (some ⟨b2, 0, none⟩), dp] w fun e w' => e = .returned (.bool (joinK us ds ws us.length).2) ∧ ∃ o', SetAt w' base b o' (joinK us ds ws us.length).1 ∧ Same w o o' ∧ Only (b :: o.toList) w w' := by
  obtain ⟨h0, h1, sa, co, hb, hs, hown⟩ := h
  obtain ⟨k0, k1, st, ct, kb, ks, kown⟩ := h2
  obtain ⟨nu, hnu⟩ : ∃ q, q = us.length := ⟨_, rfl⟩
  rw [← hnu] at kb ks hus kown ⊢
  have HNU := Lib.hid hnu
  have c0 := kb.cell 0
  simp only [List.getElem?_toArray, List.getElem?_cons_zero] at c0
  have H0 := Lib.hid h0
  have H1 := Lib.hid h1
  have HB := Lib.hid hb
  have HS := Lib.hid hs
  have HOW := Lib.hid hown
  have K1 := Lib.hid k1
  have KS := Lib.hid ks
  have KOW := Lib.hid kown
  have HW := Lib.hid hw
  have HO2 := Lib.hid ho2
  clear h0 h1 hb hs hown k1 ks kown hw ho2 hnu
  go_enter Tryd.func37, Tryd.ntmps37
  go_wp2_with fail
  go_loopw [7, 15] (fun z7 z wr => ∃ (i : Nat) (sb : Option Addr) (cb : Nat) (cur : List Nat) (r : Bool), i ≤ nu ∧ z = .int .i64 (i : Int) ∧ z7 = .bool r ∧ Hid ((cur, r) = joinK us ds ws i) ∧ Hid (Blk wr b 62 #[.slice sb cur.length cb]) ∧ Hid (Sl wr base 95 1 wdC (.slice sb cur.length cb) cur) ∧ Hid (Only (b :: o.toList) w wr) ∧ Hid (Same w o (Value.slice sb cur.length cb).ownBlock)) (fun _ z _ => nu - (intOf z).toNat)
  case atStart => exact ⟨0, sa, co, ws, false, Nat.zero_le _, rfl, rfl, Lib.hid rfl, HB, HS, Lib.hid (Only.refl _ _), Lib.hid (.inl HOW.out)⟩
  case round =>
    obtain ⟨i, sb, cb, cur, r, hi, rfl, rfl, HC, HB, HS, HO, HSA⟩ := hrel
    by_cases hlt : i < nu
    · have hlti : (i : Int) < (nu : Int) := by omega
      obtain ⟨gt, rfl⟩ : ∃ g, st = some ⟨g, 0, none⟩ := by
        rcases KS.out.form with ⟨e, _⟩ | ⟨g, cap, e, _⟩
        · simp only [Value.slice.injEq] at e
          omega
        · simp only [Value.slice.injEq] at e
          exact ⟨g, e.1⟩
      have hiu : i < us.length := by rw [← HNU.out]; exact hlt
      have hcell0 := KS.out.cell wd_len i 0 hiu (by omega)
      simp only [Nat.mul_one, Nat.add_zero, wdC, List.getElem?_cons_zero] at hcell0
      obtain ⟨x, hx⟩ : ∃ x, x = us[i] := ⟨_, rfl⟩
      rw [← hx] at hcell0
      have hgt : wr.cell? ⟨gt, i, none⟩ = some (.int .u64 x) := by
        rw [← hcell0]
        exact World.cell?_of_block (a := ⟨gt, i, none⟩) (HO.out.block gt (KS.out.lt gt rfl).2 (HO2.out gt (by rw [← KOW.out]; simp [Value.ownBlock])))
      have HX : Hid (x = us.getD i 0) := Lib.hid (by rw [hx]; simp [List.getD_eq_getElem?_getD, hiu])
      have hx64 : x < 18446744073709551616 := by rw [HX.out]; exact getD_lt _ _ K1.out
      have HRD := Lib.hid (HW.out wr HO.out)
      have cb0 : wr.cell? ⟨b, 0, none⟩ = some (.slice sb cur.length cb) := HB.out.cell 0
      have hcl : i ≤ cur.length ∧ cur.length ≤ ws.length + i := by have := joinK_len us ds ws i; rw [← HC.out] at this; exact this
      have HCL := Lib.hid hcl
      have hzr : base ≤ wr.heap.size := Nat.le_trans hz HO.out.size
      clear hcl
      clear hcell0 hx
      rcases HRD.out with ⟨rfl, hds⟩ | ⟨b3, base3, o3, rfl, d0, d1, s3, c3, hb3, hs3, hown3⟩
      · obtain ⟨u, hu⟩ : ∃ u, u = andN (us.getD i 0) (ds.getD i 0) := ⟨_, rfl⟩
        have hux : u = x := by rw [hu, hds, HX.out]; simp [andN]
        have HU := Lib.hid hu
        have hu64 : u < 18446744073709551616 := by rw [hux]; exact hx64
        subst hux
        clear hu hds
        go_upto_if 46 with fail
        go_cut [46] from 999 (fun _ wx => ∃ (g cb' : Nat) (d : List Nat), Hid (d = if cur.length ≤ i then cur ++ [0] else cur) ∧ Hid (Blk wx b 62 #[.slice (some ⟨g, 0, none⟩) d.length cb']) ∧ Hid (Sl wx base 95 1 wdC (.slice (some ⟨g, 0, none⟩) d.length cb') d) ∧ Hid (Only (b :: o.toList) w wx) ∧ Hid (Same w o (some g)))
        case first =>
          by_cases hle : cur.length ≤ i
          · have hlei : (cur.length : Int) ≤ (i : Int) := by omega
            obtain ⟨g, cap, W2, hrun, q2, q3, q4, q5, q6⟩ := SetAt.push HB.out HS.out (by have := HCL.out; omega) hzr
            have HRN := Lib.hid hrun
            have d1 := q2.cell 0
            have d2 := q2.frozen 0
            simp only [List.getElem?_toArray, List.getElem?_cons_zero] at d1
            have Q3 := Lib.hid q3
            have Q4 := Lib.hid q4
            have Q5 := Lib.hid (Same.only HO.out HSA.out q5)
            have Q6 : Hid (Same w o (some g)) := Lib.hid (by
              rcases q6 with e | e
              · rcases HSA.out with h | ⟨g', h, hg'⟩
                · exact .inl (by rw [← h, ← e])
                · exact .inr ⟨g', by rw [← h, ← e], hg'⟩
              · exact .inr ⟨g, rfl, by have := HO.out.size; omega⟩)
            have HD := Lib.hid (if_pos hle : (if cur.length ≤ i then cur ++ [0] else cur) = cur ++ [0])
            clear hrun q2 q3 q4 q5 q6 hle
            go_wp2_with (at_builtin; refine wpList_append_run rfl _ _ 60 60 rfl rfl rfl HRN.out ?_)
            go_meet
            exact ⟨g, cap, cur ++ [0], Lib.hid HD.out.symm, Q3, Q4, Q5, Q6⟩
          · have hlei : ¬ (cur.length : Int) ≤ (i : Int) := by omega
            obtain ⟨g, rfl⟩ : ∃ g, sb = some ⟨g, 0, none⟩ := by
              rcases HS.out.form with ⟨e, _⟩ | ⟨g, cap, e, _⟩
              · simp only [Value.slice.injEq] at e
                omega
              · simp only [Value.slice.injEq] at e
                exact ⟨g, e.1⟩
            have HD := Lib.hid (if_neg hle : (if cur.length ≤ i then cur ++ [0] else cur) = cur)
            clear hle
            go_wp2_with fail
            go_meet
            exact ⟨g, cb, cur, Lib.hid HD.out.symm, HB, HS, HO, HSA⟩
        case rest =>
          obtain ⟨g, cb', d, HD, HB2, HS2, HO3, HSA2⟩ := hcut
          have hdl : i < d.length := by
            rw [HD.out]
            have := HCL.out
            split
            · simp; omega
            · omega
          have hdli : (i : Int) < (d.length : Int) := by omega
          have hdb : d.length ≤ 2000000001 := by rw [HD.out]; have := HCL.out; split <;> simp <;> omega
          have cw := HB2.out.cell 0
          simp only [List.getElem?_toArray, List.getElem?_cons_zero] at cw
          have ce := HS2.out.cell wd_len i 0 hdl (by omega)
          have cf := HS2.out.frozen i
          obtain ⟨e, he⟩ : ∃ e, e = d[i] := ⟨_, rfl⟩
          rw [← he] at ce
          simp only [Nat.mul_one, Nat.add_zero, wdC, List.getElem?_cons_zero] at ce
          have HEV : Hid (e = d.getD i 0) := Lib.hid (by rw [he]; simp [List.getD_eq_getElem?_getD, hdl])
          have he64 : e < 18446744073709551616 := by
            have hall := joinK_lt us ds ws H1.out K1.out i
            rw [← HC.out] at hall
            have hm : e ∈ d := by rw [he]; exact List.getElem_mem _
            rw [HD.out] at hm
            split at hm
            · rcases List.mem_append.1 hm with h | h
              · exact hall e h
              · rw [List.mem_singleton.1 h]; decide
            · exact hall e hm
          have hbn2 := bits_andN u e hu64 he64
          have hbo := bits_or_u64_nat e u he64 hu64
          obtain ⟨m, hm⟩ : ∃ m, m = andN u e := ⟨_, rfl⟩
          obtain ⟨z, hz2⟩ : ∃ z, z = e ||| u := ⟨_, rfl⟩
          rw [← hm] at hbn2
          rw [← hz2] at hbo
          have HM := Lib.hid hm
          have HZ := Lib.hid hz2
          have HST : Hid (joinK us ds ws (i + 1) = if m = 0 then (d, r) else (d.set i z, true)) := Lib.hid (by
            rw [joinK_step HC.out, ← HU.out]
            unfold stepJ
            dsimp only
            rw [← HD.out, ← HEV.out, ← hm, ← hz2])
          clear he hm hz2
          by_cases hm0 : m = 0
          · subst hm0
            have HST2 : Hid (joinK us ds ws (i + 1) = (d, r)) := Lib.hid (by rw [HST.out, if_pos rfl])
            go_wp2_with fail
            go_roundw
            case rel => exact ⟨i + 1, some ⟨g, 0, none⟩, cb', d, r, by omega, by go_num, rfl, Lib.hid HST2.out.symm, HB2, HS2, HO3, HSA2⟩
            case measure => simp [intOf]; omega
          · have hmi : ((m : Int) == 0) = false := by rw [beq_eq_false_iff_ne]; omega
            have hmi2 : ¬ (m : Int) = 0 := by omega
            have HST2 : Hid (joinK us ds ws (i + 1) = (d.set i z, true)) := Lib.hid (by rw [HST.out, if_neg hm0])
            have hgb : b ≠ g := by
              rcases HS2.out.2 with ⟨e, _⟩ | ⟨g2, cap2, cur2, e, _, q3, _⟩
              · cases e
              · simp only [Value.slice.injEq, Option.some.injEq, Addr.mk.injEq, and_true] at e
                obtain ⟨rfl, _, _⟩ := e
                exact blk_ne HB2.out (show Blk wc g 95 cur2 from q3) (by decide)
            have hst := HS2.out.store wd_len i 0 hdl (by omega) (.int .u64 z) z (by simp [wdC])
            rw [Nat.mul_one, Nat.add_zero] at hst
            have HB3 : Hid (Blk (wc.setCell ⟨g, i, none⟩ (.int .u64 z)) b 62 #[.slice (some ⟨g, 0, none⟩) (d.set i z).length cb']) := Lib.hid (by rw [List.length_set]; exact HB2.out.far (p := ⟨g, i, none⟩) hgb _)
            have HS3 : Hid (Sl (wc.setCell ⟨g, i, none⟩ (.int .u64 z)) base 95 1 wdC (.slice (some ⟨g, 0, none⟩) (d.set i z).length cb') (d.set i z)) := Lib.hid (by rw [List.length_set]; exact hst)
            have HO4 : Hid (Only (b :: o.toList) w (wc.setCell ⟨g, i, none⟩ (.int .u64 z))) := Lib.hid (Same.only HO3.out HSA2.out (Only.setCell wc ⟨g, i, none⟩ _ (by simp)))
            clear hst hgb hm0
            go_wp2_with fail
            go_roundw
            case rel => exact ⟨i + 1, some ⟨g, 0, none⟩, cb', d.set i z, true, by omega, by go_num, rfl, Lib.hid HST2.out.symm, HB3, by simpa using HS3, HO4, HSA2⟩
            case measure => simp [intOf]; omega
      · obtain ⟨nd, hnd⟩ : ∃ q, q = ds.length := ⟨_, rfl⟩
        have cd := hb3.cell 0
        rw [← hnd] at cd hs3
        simp only [List.getElem?_toArray, List.getElem?_cons_zero] at cd
        by_cases hid : i < nd
        · have hidi : (i : Int) < (nd : Int) := by omega
          obtain ⟨g3, rfl⟩ : ∃ g, s3 = some ⟨g, 0, none⟩ := by
            rcases hs3.form with ⟨e, _⟩ | ⟨g, cap, e, _⟩
            · simp only [Value.slice.injEq] at e
              omega
            · simp only [Value.slice.injEq] at e
              exact ⟨g, e.1⟩
          have hdi : i < ds.length := by rw [← hnd]; exact hid
          have dcell := hs3.cell wd_len i 0 hdi (by omega)
          simp only [Nat.mul_one, Nat.add_zero, wdC, List.getElem?_cons_zero] at dcell
          obtain ⟨y, hy⟩ : ∃ y, y = ds[i] := ⟨_, rfl⟩
          rw [← hy] at dcell
          have HY : Hid (y = ds.getD i 0) := Lib.hid (by rw [hy]; simp [List.getD_eq_getElem?_getD, hdi])
          have hy64 : y < 18446744073709551616 := by rw [HY.out]; exact getD_lt _ _ d1
          have hbn := bits_andN x y hx64 hy64
          obtain ⟨u, hu⟩ : ∃ u, u = andN x y := ⟨_, rfl⟩
          have HU : Hid (u = andN (us.getD i 0) (ds.getD i 0)) := Lib.hid (by rw [hu, HX.out, HY.out])
          have hu64 : u < 18446744073709551616 := by rw [hu]; exact andN_lt _ _ hx64
          rw [← hu] at hbn
          clear hu hy hb3 hs3 hown3 hnd d0 d1
          go_upto_if 46 with fail
          go_cut [46] from 999 (fun _ wx => ∃ (g cb' : Nat) (d : List Nat), Hid (d = if cur.length ≤ i then cur ++ [0] else cur) ∧ Hid (Blk wx b 62 #[.slice (some ⟨g, 0, none⟩) d.length cb']) ∧ Hid (Sl wx base 95 1 wdC (.slice (some ⟨g, 0, none⟩) d.length cb') d) ∧ Hid (Only (b :: o.toList) w wx) ∧ Hid (Same w o (some g)))
          case first =>
            by_cases hle : cur.length ≤ i
            · have hlei : (cur.length : Int) ≤ (i : Int) := by omega
              obtain ⟨g, cap, W2, hrun, q2, q3, q4, q5, q6⟩ := SetAt.push HB.out HS.out (by have := HCL.out; omega) hzr
              have HRN := Lib.hid hrun
              have d1 := q2.cell 0
              have d2 := q2.frozen 0
              simp only [List.getElem?_toArray, List.getElem?_cons_zero] at d1
              have Q3 := Lib.hid q3
              have Q4 := Lib.hid q4
              have Q5 := Lib.hid (Same.only HO.out HSA.out q5)
              have Q6 : Hid (Same w o (some g)) := Lib.hid (by
                rcases q6 with e | e
                · rcases HSA.out with h | ⟨g', h, hg'⟩
                  · exact .inl (by rw [← h, ← e])
                  · exact .inr ⟨g', by rw [← h, ← e], hg'⟩
                · exact .inr ⟨g, rfl, by have := HO.out.size; omega⟩)
              have HD := Lib.hid (if_pos hle : (if cur.length ≤ i then cur ++ [0] else cur) = cur ++ [0])
              clear hrun q2 q3 q4 q5 q6 hle
              go_wp2_with (at_builtin; refine wpList_append_run rfl _ _ 60 60 rfl rfl rfl HRN.out ?_)
              go_meet
              exact ⟨g, cap, cur ++ [0], Lib.hid HD.out.symm, Q3, Q4, Q5, Q6⟩
            · have hlei : ¬ (cur.length : Int) ≤ (i : Int) := by omega
              obtain ⟨g, rfl⟩ : ∃ g, sb = some ⟨g, 0, none⟩ := by
                rcases HS.out.form with ⟨e, _⟩ | ⟨g, cap, e, _⟩
                · simp only [Value.slice.injEq] at e
                  omega
                · simp only [Value.slice.injEq] at e
                  exact ⟨g, e.1⟩
              have HD := Lib.hid (if_neg hle : (if cur.length ≤ i then cur ++ [0] else cur) = cur)
              clear hle
              go_wp2_with fail
              go_meet
              exact ⟨g, cb, cur, Lib.hid HD.out.symm, HB, HS, HO, HSA⟩
          case rest =>
            obtain ⟨g, cb', d, HD, HB2, HS2, HO3, HSA2⟩ := hcut
            have hdl : i < d.length := by
              rw [HD.out]
              have := HCL.out
              split
              · simp; omega
              · omega
            have hdli : (i : Int) < (d.length : Int) := by omega
            have hdb : d.length ≤ 2000000001 := by rw [HD.out]; have := HCL.out; split <;> simp <;> omega
            have cw := HB2.out.cell 0
            simp only [List.getElem?_toArray, List.getElem?_cons_zero] at cw
            have ce := HS2.out.cell wd_len i 0 hdl (by omega)
            have cf := HS2.out.frozen i
            obtain ⟨e, he⟩ : ∃ e, e = d[i] := ⟨_, rfl⟩
            rw [← he] at ce
            simp only [Nat.mul_one, Nat.add_zero, wdC, List.getElem?_cons_zero] at ce
            have HEV : Hid (e = d.getD i 0) := Lib.hid (by rw [he]; simp [List.getD_eq_getElem?_getD, hdl])
            have he64 : e < 18446744073709551616 := by
              have hall := joinK_lt us ds ws H1.out K1.out i
              rw [← HC.out] at hall
              have hm : e ∈ d := by rw [he]; exact List.getElem_mem _
              rw [HD.out] at hm
              split at hm
              · rcases List.mem_append.1 hm with h | h
                · exact hall e h
                · rw [List.mem_singleton.1 h]; decide
              · exact hall e hm
            have hbn2 := bits_andN u e hu64 he64
            have hbo := bits_or_u64_nat e u he64 hu64
            obtain ⟨m, hm⟩ : ∃ m, m = andN u e := ⟨_, rfl⟩
            obtain ⟨z, hz2⟩ : ∃ z, z = e ||| u := ⟨_, rfl⟩
            rw [← hm] at hbn2
            rw [← hz2] at hbo
            have HM := Lib.hid hm
            have HZ := Lib.hid hz2
            have HST : Hid (joinK us ds ws (i + 1) = if m = 0 then (d, r) else (d.set i z, true)) := Lib.hid (by
              rw [joinK_step HC.out, ← HU.out]
              unfold stepJ
              dsimp only
              rw [← HD.out, ← HEV.out, ← hm, ← hz2])
            clear he hm hz2
            by_cases hm0 : m = 0
            · subst hm0
              have HST2 : Hid (joinK us ds ws (i + 1) = (d, r)) := Lib.hid (by rw [HST.out, if_pos rfl])
              go_wp2_with fail
              go_roundw
              case rel => exact ⟨i + 1, some ⟨g, 0, none⟩, cb', d, r, by omega, by go_num, rfl, Lib.hid HST2.out.symm, HB2, HS2, HO3, HSA2⟩
              case measure => simp [intOf]; omega
            · have hmi : ((m : Int) == 0) = false := by rw [beq_eq_false_iff_ne]; omega
              have hmi2 : ¬ (m : Int) = 0 := by omega
              have HST2 : Hid (joinK us ds ws (i + 1) = (d.set i z, true)) := Lib.hid (by rw [HST.out, if_neg hm0])
              have hgb : b ≠ g := by
                rcases HS2.out.2 with ⟨e, _⟩ | ⟨g2, cap2, cur2, e, _, q3, _⟩
                · cases e
                · simp only [Value.slice.injEq, Option.some.injEq, Addr.mk.injEq, and_true] at e
                  obtain ⟨rfl, _, _⟩ := e
                  exact blk_ne HB2.out (show Blk wc g 95 cur2 from q3) (by decide)
              have hst := HS2.out.store wd_len i 0 hdl (by omega) (.int .u64 z) z (by simp [wdC])
              rw [Nat.mul_one, Nat.add_zero] at hst
              have HB3 : Hid (Blk (wc.setCell ⟨g, i, none⟩ (.int .u64 z)) b 62 #[.slice (some ⟨g, 0, none⟩) (d.set i z).length cb']) := Lib.hid (by rw [List.length_set]; exact HB2.out.far (p := ⟨g, i, none⟩) hgb _)
              have HS3 : Hid (Sl (wc.setCell ⟨g, i, none⟩ (.int .u64 z)) base 95 1 wdC (.slice (some ⟨g, 0, none⟩) (d.set i z).length cb') (d.set i z)) := Lib.hid (by rw [List.length_set]; exact hst)
              have HO4 : Hid (Only (b :: o.toList) w (wc.setCell ⟨g, i, none⟩ (.int .u64 z))) := Lib.hid (Same.only HO3.out HSA2.out (Only.setCell wc ⟨g, i, none⟩ _ (by simp)))
              clear hst hgb hm0
              go_wp2_with fail
              go_roundw
              case rel => exact ⟨i + 1, some ⟨g, 0, none⟩, cb', d.set i z, true, by omega, by go_num, rfl, Lib.hid HST2.out.symm, HB3, by simpa using HS3, HO4, HSA2⟩
              case measure => simp [intOf]; omega
        · have hidi : ¬ (i : Int) < (nd : Int) := by omega
          obtain ⟨u, hu⟩ : ∃ u, u = andN (us.getD i 0) (ds.getD i 0) := ⟨_, rfl⟩
          have hux : u = x := by rw [hu, HX.out, List.getD_eq_getElem?_getD (l := ds), List.getElem?_eq_none (by omega)]; simp [andN]
          have HU := Lib.hid hu
          have hu64 : u < 18446744073709551616 := by rw [hux]; exact hx64
          subst hux
          clear hu hb3 hs3 hown3 hnd d0 d1
          go_upto_if 46 with fail
          go_cut [46] from 999 (fun _ wx => ∃ (g cb' : Nat) (d : List Nat), Hid (d = if cur.length ≤ i then cur ++ [0] else cur) ∧ Hid (Blk wx b 62 #[.slice (some ⟨g, 0, none⟩) d.length cb']) ∧ Hid (Sl wx base 95 1 wdC (.slice (some ⟨g, 0, none⟩) d.length cb') d) ∧ Hid (Only (b :: o.toList) w wx) ∧ Hid (Same w o (some g)))
          case first =>
            by_cases hle : cur.length ≤ i
            · have hlei : (cur.length : Int) ≤ (i : Int) := by omega
              obtain ⟨g, cap, W2, hrun, q2, q3, q4, q5, q6⟩ := SetAt.push HB.out HS.out (by have := HCL.out; omega) hzr
              have HRN := Lib.hid hrun
              have d1 := q2.cell 0
              have d2 := q2.frozen 0
              simp only [List.getElem?_toArray, List.getElem?_cons_zero] at d1
              have Q3 := Lib.hid q3
              have Q4 := Lib.hid q4
              have Q5 := Lib.hid (Same.only HO.out HSA.out q5)
              have Q6 : Hid (Same w o (some g)) := Lib.hid (by
                rcases q6 with e | e
                · rcases HSA.out with h | ⟨g', h, hg'⟩
                  · exact .inl (by rw [← h, ← e])
                  · exact .inr ⟨g', by rw [← h, ← e], hg'⟩
                · exact .inr ⟨g, rfl, by have := HO.out.size; omega⟩)
              have HD := Lib.hid (if_pos hle : (if cur.length ≤ i then cur ++ [0] else cur) = cur ++ [0])
              clear hrun q2 q3 q4 q5 q6 hle
              go_wp2_with (at_builtin; refine wpList_append_run rfl _ _ 60 60 rfl rfl rfl HRN.out ?_)
              go_meet
              exact ⟨g, cap, cur ++ [0], Lib.hid HD.out.symm, Q3, Q4, Q5, Q6⟩
            · have hlei : ¬ (cur.length : Int) ≤ (i : Int) := by omega
              obtain ⟨g, rfl⟩ : ∃ g, sb = some ⟨g, 0, none⟩ := by
                rcases HS.out.form with ⟨e, _⟩ | ⟨g, cap, e, _⟩
                · simp only [Value.slice.injEq] at e
                  omega
                · simp only [Value.slice.injEq] at e
                  exact ⟨g, e.1⟩
              have HD := Lib.hid (if_neg hle : (if cur.length ≤ i then cur ++ [0] else cur) = cur)
              clear hle
              go_wp2_with fail
              go_meet
              exact ⟨g, cb, cur, Lib.hid HD.out.symm, HB, HS, HO, HSA⟩
          case rest =>
            obtain ⟨g, cb', d, HD, HB2, HS2, HO3, HSA2⟩ := hcut
            have hdl : i < d.length := by
              rw [HD.out]
              have := HCL.out
              split
              · simp; omega
              · omega
            have hdli : (i : Int) < (d.length : Int) := by omega
            have hdb : d.length ≤ 2000000001 := by rw [HD.out]; have := HCL.out; split <;> simp <;> omega
            have cw := HB2.out.cell 0
            simp only [List.getElem?_toArray, List.getElem?_cons_zero] at cw
            have ce := HS2.out.cell wd_len i 0 hdl (by omega)
            have cf := HS2.out.frozen i
            obtain ⟨e, he⟩ : ∃ e, e = d[i] := ⟨_, rfl⟩
            rw [← he] at ce
            simp only [Nat.mul_one, Nat.add_zero, wdC, List.getElem?_cons_zero] at ce
            have HEV : Hid (e = d.getD i 0) := Lib.hid (by rw [he]; simp [List.getD_eq_getElem?_getD, hdl])
            have he64 : e < 18446744073709551616 := by
              have hall := joinK_lt us ds ws H1.out K1.out i
              rw [← HC.out] at hall
              have hm : e ∈ d := by rw [he]; exact List.getElem_mem _
              rw [HD.out] at hm
              split at hm
              · rcases List.mem_append.1 hm with h | h
                · exact hall e h
                · rw [List.mem_singleton.1 h]; decide
              · exact hall e hm
            have hbn2 := bits_andN u e hu64 he64
            have hbo := bits_or_u64_nat e u he64 hu64
            obtain ⟨m, hm⟩ : ∃ m, m = andN u e := ⟨_, rfl⟩
            obtain ⟨z, hz2⟩ : ∃ z, z = e ||| u := ⟨_, rfl⟩
            rw [← hm] at hbn2
            rw [← hz2] at hbo
            have HM := Lib.hid hm
            have HZ := Lib.hid hz2
            have HST : Hid (joinK us ds ws (i + 1) = if m = 0 then (d, r) else (d.set i z, true)) := Lib.hid (by
              rw [joinK_step HC.out, ← HU.out]
              unfold stepJ
              dsimp only
              rw [← HD.out, ← HEV.out, ← hm, ← hz2])
            clear he hm hz2
            by_cases hm0 : m = 0
            · subst hm0
              have HST2 : Hid (joinK us ds ws (i + 1) = (d, r)) := Lib.hid (by rw [HST.out, if_pos rfl])
              go_wp2_with fail
              go_roundw
              case rel => exact ⟨i + 1, some ⟨g, 0, none⟩, cb', d, r, by omega, by go_num, rfl, Lib.hid HST2.out.symm, HB2, HS2, HO3, HSA2⟩
              case measure => simp [intOf]; omega
            · have hmi : ((m : Int) == 0) = false := by rw [beq_eq_false_iff_ne]; omega
              have hmi2 : ¬ (m : Int) = 0 := by omega
              have HST2 : Hid (joinK us ds ws (i + 1) = (d.set i z, true)) := Lib.hid (by rw [HST.out, if_neg hm0])
              have hgb : b ≠ g := by
                rcases HS2.out.2 with ⟨e, _⟩ | ⟨g2, cap2, cur2, e, _, q3, _⟩
                · cases e
                · simp only [Value.slice.injEq, Option.some.injEq, Addr.mk.injEq, and_true] at e
                  obtain ⟨rfl, _, _⟩ := e
                  exact blk_ne HB2.out (show Blk wc g 95 cur2 from q3) (by decide)
              have hst := HS2.out.store wd_len i 0 hdl (by omega) (.int .u64 z) z (by simp [wdC])
              rw [Nat.mul_one, Nat.add_zero] at hst
              have HB3 : Hid (Blk (wc.setCell ⟨g, i, none⟩ (.int .u64 z)) b 62 #[.slice (some ⟨g, 0, none⟩) (d.set i z).length cb']) := Lib.hid (by rw [List.length_set]; exact HB2.out.far (p := ⟨g, i, none⟩) hgb _)
              have HS3 : Hid (Sl (wc.setCell ⟨g, i, none⟩ (.int .u64 z)) base 95 1 wdC (.slice (some ⟨g, 0, none⟩) (d.set i z).length cb') (d.set i z)) := Lib.hid (by rw [List.length_set]; exact hst)
              have HO4 : Hid (Only (b :: o.toList) w (wc.setCell ⟨g, i, none⟩ (.int .u64 z))) := Lib.hid (Same.only HO3.out HSA2.out (Only.setCell wc ⟨g, i, none⟩ _ (by simp)))
              clear hst hgb hm0
              go_wp2_with fail
              go_roundw
              case rel => exact ⟨i + 1, some ⟨g, 0, none⟩, cb', d.set i z, true, by omega, by go_num, rfl, Lib.hid HST2.out.symm, HB3, by simpa using HS3, HO4, HSA2⟩
              case measure => simp [intOf]; omega
    · have hlti : ¬ (i : Int) < (nu : Int) := by omega
      obtain rfl : i = nu := by omega
      have HR2 : Hid (joinK us ds ws i = (cur, r)) := Lib.hid HC.out.symm
      have HK := Lib.hid (joinK_lt us ds ws H1.out K1.out i)
      clear hlt
      go_wp2_with fail
      go_ret
      rw [HR2.out]
      refine ⟨rfl, _, ⟨H0.out, fun x hx => HK.out x (by rw [HR2.out]; exact hx), sb, cb, HB.out, HS.out, rfl⟩, HSA.out, HO.out⟩
end Go.Proofs.YtekfnonjhcfdmaaDoor
namespace Go.Proofs.YtekfnonjhcfdmaaDoor
open Go.RowKit Go.Rt Go.Rw

/-- The numbers of a word. -/
def bitsI (i x : Nat) : List Int := ((List.range 64).filter fun j => x.testBit j).map fun j : Nat => (64 : Int) * i + j
theorem up_bitsI (i x : Nat) : Up (bitsI i x) := by
  unfold Up bitsI
  rw [List.pairwise_map]
  exact (List.Pairwise.filter _ List.pairwise_lt_range).imp (by intro a b h; omega)
theorem mem_bitsI (i x : Nat) (n : Int) : n ∈ bitsI i x ↔ ∃ j : Nat, j < 64 ∧ x.testBit j = true ∧ n = (64 : Int) * i + j := by
  unfold bitsI
  rw [List.mem_map]
  constructor
  · rintro ⟨j, hj, rfl⟩
    rw [List.mem_filter, List.mem_range] at hj
    exact ⟨j, hj.1, hj.2, rfl⟩
  · rintro ⟨j, h1, h2, rfl⟩
    exact ⟨j, List.mem_filter.2 ⟨List.mem_range.2 h1, h2⟩, rfl⟩
/-- The lowest bit. -/
theorem low_spec (x : Nat) (h0 : x ≠ 0) (hx : x < 18446744073709551616) : Lib.ctz 64 x < 64 ∧ x.testBit (Lib.ctz 64 x) = true ∧ (∀ j, j < Lib.ctz 64 x → x.testBit j = false) ∧ ∀ j, (x &&& (x - 1)).testBit j = (x.testBit j && decide (j ≠ Lib.ctz 64 x)) := by
  have e : Lib.ctz 64 x = Lib.ctzFrom 64 x := by unfold Lib.ctz; rw [if_neg h0]
  rw [e]
  obtain ⟨m, hm, hk⟩ := Lib.ctzFrom_spec 64 x (by omega) (by simpa using hx)
  obtain ⟨k, hke⟩ : ∃ k, k = Lib.ctzFrom 64 x := ⟨_, rfl⟩
  rw [← hke] at hm hk ⊢
  have hp : 0 < 2 ^ k := Nat.pow_pos (by omega)
  have e1 : x = 2 ^ k * (2 * m + 1) + 0 := by rw [Nat.add_zero]; exact hm
  have e2 : x - 1 = 2 ^ k * (2 * m) + (2 ^ k - 1) := by rw [hm, Nat.mul_add]; omega
  have b1 : ∀ j, x.testBit j = if j < k then false else (2 * m + 1).testBit (j - k) := fun j => by
    rw [e1, Nat.testBit_two_pow_mul_add _ hp]
    simp
  have b2 : ∀ j, (x - 1).testBit j = if j < k then (2 ^ k - 1).testBit j else (2 * m).testBit (j - k) := fun j => by
    rw [e2, Nat.testBit_two_pow_mul_add _ (by omega)]
  have b3 : ∀ t, (2 * m + 1).testBit (t + 1) = (2 * m).testBit (t + 1) := fun t => by
    rw [Nat.testBit_succ, Nat.testBit_succ]
    congr 1
    omega
  refine ⟨hk, by rw [b1]; simp, fun j hj => by rw [b1, if_pos hj], fun j => ?_⟩
  rw [Nat.testBit_and, b1, b2]
  by_cases hj : j < k
  · simp [hj]
  · by_cases hjk : j = k
    · subst hjk
      simp
    · obtain ⟨t, ht⟩ : ∃ t, j - k = t + 1 := ⟨j - k - 1, by omega⟩
      rw [if_neg hj, if_neg hj, ht, b3]
      simp [hjk]
theorem bitsI_step (i x : Nat) (h0 : x ≠ 0) (hx : x < 18446744073709551616) : bitsI i x = ((64 : Int) * i + (Lib.ctz 64 x : Nat)) :: bitsI i (x &&& (x - 1)) := by
  obtain ⟨h1, h2, h3, h4⟩ := low_spec x h0 hx
  refine up_ext _ _ (up_bitsI _ _) (List.pairwise_cons.2 ⟨fun n hn => ?_, up_bitsI _ _⟩) (fun n => ?_)
  · obtain ⟨j, a, b, rfl⟩ := (mem_bitsI _ _ _).1 hn
    rw [h4] at b
    simp only [Bool.and_eq_true, decide_eq_true_eq] at b
    have : ¬ j < Lib.ctz 64 x := fun q => by rw [h3 j q] at b; cases b.1
    omega
  · rw [List.mem_cons, mem_bitsI, mem_bitsI]
    constructor
    · rintro ⟨j, a, b, rfl⟩
      by_cases hj : j = Lib.ctz 64 x
      · exact .inl (by rw [hj])
      · exact .inr ⟨j, a, by rw [h4, b]; simpa using hj, rfl⟩
    · rintro (rfl | ⟨j, a, b, rfl⟩)
      · exact ⟨_, h1, h2, rfl⟩
      · rw [h4] at b
        simp only [Bool.and_eq_true] at b
        exact ⟨j, a, b.1, rfl⟩
theorem bitsI_zero (i : Nat) : bitsI i 0 = [] := by simp [bitsI]
/-- The numbers of the first words. -/
def listK (ws : List Nat) : Nat → List Int
  | 0 => []
  | i + 1 => listK ws i ++ bitsI i (ws.getD i 0)
theorem bitsI_len (i x : Nat) : (bitsI i x).length ≤ 64 := by
  unfold bitsI
  rw [List.length_map]
  have := List.length_filter_le (fun j => x.testBit j) (List.range 64)
  simpa using this
theorem listK_len (ws : List Nat) : ∀ i, (listK ws i).length ≤ 64 * i
  | 0 => Nat.le_refl _
  | i + 1 => by
    have h1 := listK_len ws i
    have h2 := bitsI_len i (ws.getD i 0)
    simp only [listK, List.length_append]
    omega
theorem tz60 (x : Nat) (hx : x < 18446744073709551616) (w : World) (hT : TabAt 0 Lib.deBruijn64tab w) : Calls Tryd.prog 60 #[.int .u64 x] w fun e w' => e = .returned (.int .i64 (Lib.ctz 64 x)) ∧ w' = w :=
  Any7.bits_TrailingZeros64 Tryd.tzA x hx w (fun _ => hT)
theorem tab_below {n : Nat} {w w' : World} (h : TabAt 0 Lib.deBruijn64tab w) (hb : Below n w w') (hn : 0 < n) : TabAt 0 Lib.deBruijn64tab w' := fun j hj => by
  rw [← h j hj]
  exact hb.cell (p := ⟨0, j, none⟩) hn
theorem and_lt (x y : Nat) (hx : x < 18446744073709551616) : x &&& y < 18446744073709551616 := Nat.lt_of_le_of_lt Nat.and_le_left hx
set_option maxRecDepth 100000 in
set_option maxHeartbeats 4000000 in
theorem list38 (b base : Nat) (o : Option Nat) (ws : List Nat) (w : World) (h : SetAt w base b o ws) (hl : ws.length ≤ 10000000000) (hT : TabAt 0 Lib.deBruijn64tab w) (hz : 0 < w.heap.size) :
    Calls Tryd.prog 38 #[.pointer (some ⟨b, 0, none⟩)] w (NsR (listK ws ws.length) w) := by
  obtain ⟨h0, h1, sa, co, hb, hs, hown⟩ := h
  obtain ⟨n, hn⟩ : ∃ q, q = ws.length := ⟨_, rfl⟩
  rw [← hn] at hb hs hl ⊢
  have HN := Lib.hid hn
  have c0 := hb.cell 0
  simp only [List.getElem?_toArray, List.getElem?_cons_zero] at c0
  have H1 := Lib.hid h1
  have HS := Lib.hid hs
  have HT := Lib.hid hT
  clear h0 h1 hb hs hown hn hT
  go_enter Tryd.func38, Tryd.ntmps38
  go_wp2_with fail
  go_loopw [3, 11] (fun z3 z wr => ∃ (i : Nat) (sb : Option Addr) (cb : Nat) (q : List Int), i ≤ n ∧ z = .int .i64 (i : Int) ∧ z3 = .slice sb q.length cb ∧ Hid (q = listK ws i) ∧ Hid (Sl wr w.heap.size 3 1 inC (.slice sb q.length cb) q) ∧ Hid (Below w.heap.size w wr)) (fun _ z _ => n - (intOf z).toNat)
  case atStart => exact ⟨0, none, 0, [], Nat.zero_le _, rfl, rfl, Lib.hid rfl, Lib.hid (Sl.nil _ _ _ _ _), Lib.hid (Below.refl _ _)⟩
  case round =>
    obtain ⟨i, sb, cb, q, hi, rfl, rfl, HQ, HSL, HB⟩ := hrel
    by_cases hlt : i < n
    · have hlti : (i : Int) < (n : Int) := by omega
      obtain ⟨g, rfl⟩ : ∃ g, sa = some ⟨g, 0, none⟩ := by
        rcases HS.out.form with ⟨e, _⟩ | ⟨g, cap, e, _⟩
        · simp only [Value.slice.injEq] at e
          omega
        · simp only [Value.slice.injEq] at e
          exact ⟨g, e.1⟩
      have hiw : i < ws.length := by rw [← HN.out]; exact hlt
      have hc0 := HS.out.cell wd_len i 0 hiw (by omega)
      simp only [Nat.mul_one, Nat.add_zero, wdC, List.getElem?_cons_zero] at hc0
      obtain ⟨x, hx⟩ : ∃ x, x = ws[i] := ⟨_, rfl⟩
      rw [← hx] at hc0
      have hcx := (HB.out.cell (p := ⟨g, i, none⟩) (HS.out.lt g rfl).2).trans hc0
      have HX : Hid (x = ws.getD i 0) := Lib.hid (by rw [hx]; simp [List.getD_eq_getElem?_getD, hiw])
      have hx64 : x < 18446744073709551616 := by rw [HX.out]; exact getD_lt _ _ H1.out
      have HNX : Hid (listK ws (i + 1) = q ++ bitsI i x) := Lib.hid (by rw [listK, ← HX.out, ← HQ.out])
      have HXX := Lib.hid hx64
      have hql : Hid (q.length ≤ 64 * i) := Lib.hid (by rw [HQ.out]; exact listK_len ws i)
      clear hc0 hx hlt hx64
      go_wp2_with fail
      go_loopw [3, 5] (fun z3 z wr => ∃ (y : Nat) (sb : Option Addr) (cb : Nat) (p : List Int), z = .int .u64 (y : Int) ∧ z3 = .slice sb p.length cb ∧ Hid (p ++ bitsI i y = listK ws (i + 1)) ∧ Hid (y < 18446744073709551616) ∧ Hid (Sl wr w.heap.size 3 1 inC (.slice sb p.length cb) p) ∧ Hid (Below w.heap.size w wr)) (fun _ z _ => (intOf z).toNat)
      case atStart => exact ⟨x, sb, cb, q, rfl, rfl, Lib.hid HNX.out.symm, HXX, HSL, HB⟩
      case round =>
        obtain ⟨y, sb, cb, p, rfl, rfl, HP, HY, HSL, HB⟩ := hrel
        by_cases hy : y = 0
        · subst hy
          have HPE : Hid (p = listK ws (i + 1)) := Lib.hid (by rw [← HP.out, bitsI_zero, List.append_nil])
          go_wp2_with fail
          go_roundw
          case rel => exact ⟨i + 1, sb, cb, p, by omega, by go_num, rfl, HPE, HSL, HB⟩
          case measure => simp [intOf]; omega
        · have hyi : ((y : Int) == 0) = false := by rw [beq_eq_false_iff_ne]; omega
          have hyi2 : ¬ (y : Int) = 0 := by omega
          have hy64 := HY.out
          have hpl : p.length + 1 ≤ 1000000000000 := by
            have h5 := congrArg List.length HP.out
            have h6 := listK_len ws (i + 1)
            rw [bitsI_step i y hy hy64] at h5
            simp only [List.length_append, List.length_cons] at h5
            omega
          obtain ⟨k, hk⟩ : ∃ k, k = Lib.ctz 64 y := ⟨_, rfl⟩
          have hk64 : k < 64 := by rw [hk]; exact (low_spec y hy hy64).1
          obtain ⟨z, hz2⟩ : ∃ z, z = y &&& (y - 1) := ⟨_, rfl⟩
          have HP2 : Hid (p ++ [(64 : Int) * i + k] ++ bitsI i z = listK ws (i + 1)) := Lib.hid (by rw [← HP.out, bitsI_step i y hy hy64, ← hk, ← hz2]; simp)
          have HZ : Hid (z < 18446744073709551616) := Lib.hid (by rw [hz2]; exact and_lt _ _ hy64)
          have HZY : Hid (z < y) := Lib.hid (by rw [hz2]; have := Nat.and_le_right (n := y) (m := y - 1); omega)
          have hb1 : bits .and .u64 (y : Int) ((y : Int) - 1) = (z : Int) := by rw [show (y : Int) - 1 = ((y - 1 : Nat) : Int) by omega, bits_and_u64_nat y (y - 1) hy64 (by omega), ← hz2]
          have hyp : (1 : Int) ≤ (y : Int) := by omega
          have hyl : (y : Int) ≤ 18446744073709551615 := by omega
          have hwb : IntKind.u64.wrap ((y : Int) - 1) = (y : Int) - 1 := by rw [IntKind.wrap_u64]; omega
          have CT := Lib.hid (tz60 y hy64 wr (tab_below HT.out HB.out hz))
          rw [← hk] at CT
          obtain ⟨g2, cap2, W2, hrun, sl2, hgrow, _⟩ := sl_push_in (HSL.out.only (bs := []) (Only.alloc [] wr (.cells #[.int .i64 ((64 : Int) * i + k)] 3)) (fun g hg hm => by cases hm)) ((64 : Int) * i + k) wr.heap.size (Blk.new wr 3 _) (by omega) (by have := HB.out.size; simp; omega)
          have B2 : Hid (Below w.heap.size w W2) := Lib.hid (HB.out.trans (((Below.refl w.heap.size wr).alloc HB.out.size _).grown hgrow (by have := HB.out.size; simp; omega) (fun j hj => (HSL.out.lt j hj).1)))
          have HRN := Lib.hid hrun
          have SL2 := Lib.hid sl2
          have hi9 : (i : Int) ≤ 10000000000 := by omega
          have hk9 : (k : Int) < 64 := by omega
          clear hrun sl2 hgrow hk hz2 hy
          go_wp2_with fail
          refine CT.out.mono ?_
          rintro e w5 ⟨rfl, rfl⟩
          go_wp2_with (at_builtin; refine wpList_append_run rfl _ _ 23 23 rfl rfl rfl HRN.out ?_)
          go_roundw
          case rel => exact ⟨z, some ⟨g2, 0, none⟩, cap2, p ++ [(64 : Int) * i + k], by rfl, by simp, HP2, HZ, by simpa using SL2, B2⟩
          case measure => simp [intOf]; have := HZY.out; omega
    · have hlti : ¬ (i : Int) < (n : Int) := by omega
      obtain rfl : i = n := by omega
      clear hlt
      go_wp2_with fail
      go_ret
      exact ⟨HB.out, _, rfl, by rw [← HQ.out]; exact HSL.out⟩
end Go.Proofs.YtekfnonjhcfdmaaDoor
