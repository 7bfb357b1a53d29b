/- flow's lists of open handlers: open, same, list. flow.nests' closure pass: the search's state in memory. Layer 17, plain: a search step by step. Marks of ranges over functions at a function's end; slices that are made; results behind pointers. -/
import Derived.Test.YtekfnonjhcfdmaaDoorNext1
import Derived.Test.YtekfnonjhcfdmaaDoorWalk1
import Derived.LaidEqlPtr
import Derived.Deep.RegionWith
import Derived.Deep.DeepCutAuto
import Derived.Deep.RegionHeld
import Derived.StillTailTactics
import Derived.Laws.MakeOwn
namespace Go.Proofs.YtekfnonjhcfdmaaDoor
open Go.RowKit Go.Rt Go.Rw

theorem info71 : ∃ j, Tryd.prog.info? 71 = some j ∧ j.size = 3 := by
  have h : (Tryd.prog.info? 71).map (·.size) = some 3 := by kernel_rfl
  rw [Option.map_eq_some_iff] at h
  exact h
theorem und69 : Tryd.prog.underlying 69 = some (.pointer 71) := by kernel_rfl
theorem ptr_same (a : Addr) (W : World) : (binOp .neq 69 (.pointer (some a)) (.pointer (some a))).run Tryd.prog W = .ok (.bool false) W := by
  obtain ⟨j, hj, _⟩ := info71
  have h : ∀ d : Nat, (Op.equalIn (d + 1) 69 (.pointer (some a)) (.pointer (some a))).run Tryd.prog W = .ok true W := fun d => by
    simp [Op.equalIn, run_underlying und69, sizeOf, typeInfo, hj, run_sameAddr_same]
  simp only [binOp]
  simp [Op.equal, Op.maxDepth, h 9999]
theorem ptr_other {a b : Nat} {W : World} {ca cb : Array Value} (hne : a ≠ b) (ha : Blk W a 71 ca) (hb : Blk W b 71 cb) : (binOp .neq 69 (.pointer (some ⟨a, 0, none⟩)) (.pointer (some ⟨b, 0, none⟩))).run Tryd.prog W = .ok (.bool true) W := by
  obtain ⟨j, hj, hs⟩ := info71
  have hne' : (⟨a, 0, none⟩ : Addr) ≠ ⟨b, 0, none⟩ := fun e => hne (by cases e; rfl)
  have h : ∀ d : Nat, (Op.equalIn (d + 1) 69 (.pointer (some ⟨a, 0, none⟩)) (.pointer (some ⟨b, 0, none⟩))).run Tryd.prog W = .ok false W := fun d => by
    simp [Op.equalIn, run_underlying und69, sizeOf, typeInfo, hj, hs, run_sameAddr_other W hne' ha hb]
  simp only [binOp]
  simp [Op.equal, Op.maxDepth, h 9999]
theorem ptr_nil (b : Addr) (W : World) : (binOp .neq 69 (.pointer none) (.pointer (some b))).run Tryd.prog W = .ok (.bool true) W := by
  have h : ∀ d : Nat, (Op.equalIn (d + 1) 69 (.pointer none) (.pointer (some b))).run Tryd.prog W = .ok false W := fun d => by
    simp [Op.equalIn, run_underlying und69]
  simp only [binOp]
  simp [Op.equal, Op.maxDepth, h 9999]
/-- A list of handlers in memory, the last one first. -/
def NestAt (W : World) : List Int → Value → Prop
  | [], v => v = .pointer none
  | a :: r, v => ∃ b outer, v = .pointer (some ⟨b, 0, none⟩) ∧ Blk W b 71 #[.int .i64 a, outer, .int .i64 (wrap64 (r.length + 1))] ∧ NestAt W r outer
/-- No such cell turns. -/
def Keep71 (w w' : World) : Prop := ∀ g cs, Blk w g 71 cs → Blk w' g 71 cs
theorem Keep71.trans {a b c : World} (h : Keep71 a b) (k : Keep71 b c) : Keep71 a c := fun g cs hb => k g cs (h g cs hb)
theorem Keep71.refl (a : World) : Keep71 a a := fun _ _ h => h
theorem Keep71.below {m : Nat} {w w' : World} (hb : Below m w w') (hm : w.heap.size ≤ m) : Keep71 w w' := fun _ _ h => (hb.block _ (Nat.lt_of_lt_of_le h.lt hm)).trans h
theorem Keep71.set {w : World} {b j : Nat} {t : TypeId} {cs : Array Value} (h : Blk w b t cs) (ht : t ≠ 71) (v : Value) : Keep71 w (w.setCell ⟨b, j, none⟩ v) := fun _ _ hg => hg.far (fun e => by
  subst e
  have := hg.symm.trans h
  simp only [Option.some.injEq, Obj.cells.injEq] at this
  exact ht this.2.1.symm) v
theorem NestAt.keep {w w' : World} (hk : Keep71 w w') : ∀ (r : List Int) (v : Value), NestAt w r v → NestAt w' r v
  | [], _, h => h
  | _ :: r, _, ⟨b, o, h1, h2, h3⟩ => ⟨b, o, h1, hk _ _ h2, NestAt.keep hk r o h3⟩
/-- One value, one list. -/
theorem NestAt.one {w : World} : ∀ (r s : List Int) (v : Value), NestAt w r v → NestAt w s v → r = s
  | [], [], _, _, _ => rfl
  | [], _ :: _, _, h, ⟨b, o, k, _⟩ => by rw [show _ = Value.pointer none from h] at k; cases k
  | _ :: _, [], _, ⟨b, o, k, _⟩, h => by rw [show _ = Value.pointer none from h] at k; cases k
  | a :: r, c :: s, v, ⟨b, o, h1, h2, h3⟩, ⟨b', o', k1, k2, k3⟩ => by
    rw [h1] at k1
    cases k1
    have := h2.symm.trans k2
    simp only [Option.some.injEq, Obj.cells.injEq, Array.mk.injEq, List.cons.injEq, and_true, Value.int.injEq, true_and] at this
    obtain ⟨e1, rfl, _⟩ := this
    rw [e1, NestAt.one r s o h3 k3]
open Classical in
/-- How many. -/
noncomputable def nestN (W : World) (v : Value) : Nat := if h : ∃ r, NestAt W r v then h.choose.length else 0
theorem NestAt.len {w : World} {r : List Int} {v : Value} (h : NestAt w r v) : nestN w v = r.length := by
  have he : ∃ r, NestAt w r v := ⟨r, h⟩
  unfold nestN
  rw [dif_pos he, NestAt.one _ _ _ he.choose_spec h]
theorem NestAt.drewN {w : World} {r : List Int} {v : Value} (h : NestAt w r v) (n : Nat) : NestAt (w.drewN n) r v := NestAt.keep (w := w) (w' := w.drewN n) (fun _ _ q => q.drewN n) _ _ h
theorem NestAt.keepB {w w' : World} {r : List Int} {v : Value} (h : NestAt w r v) (hb : Below w.heap.size w w') : NestAt w' r v := NestAt.keep (Keep71.below hb (Nat.le_refl _)) _ _ h
/-- .. whose cells lie below m. -/
def NestB (W : World) (m : Nat) : List Int → Value → Prop
  | [], v => v = .pointer none
  | a :: r, v => ∃ b outer, v = .pointer (some ⟨b, 0, none⟩) ∧ b < m ∧ Blk W b 71 #[.int .i64 a, outer, .int .i64 (wrap64 (r.length + 1))] ∧ NestB W m r outer
theorem NestB.at {w : World} {m : Nat} : ∀ {r : List Int} {v : Value}, NestB w m r v → NestAt w r v
  | [], _, h => h
  | _ :: _, _, ⟨b, o, h1, _, h2, h3⟩ => ⟨b, o, h1, h2, NestB.at h3⟩
theorem NestAt.lows {w : World} {m : Nat} (hm : w.heap.size ≤ m) : ∀ {r : List Int} {v : Value}, NestAt w r v → NestB w m r v
  | [], _, h => h
  | _ :: _, _, ⟨b, o, h1, h2, h3⟩ => ⟨b, o, h1, Nat.lt_of_lt_of_le h2.lt hm, h2, NestAt.lows hm h3⟩
theorem NestB.mono {w : World} {m m' : Nat} (hm : m ≤ m') : ∀ {r : List Int} {v : Value}, NestB w m r v → NestB w m' r v
  | [], _, h => h
  | _ :: _, _, ⟨b, o, h1, h0, h2, h3⟩ => ⟨b, o, h1, Nat.lt_of_lt_of_le h0 hm, h2, NestB.mono hm h3⟩
theorem NestB.keep {w w' : World} {m : Nat} (hk : Keep71 w w') : ∀ {r : List Int} {v : Value}, NestB w m r v → NestB w' m r v
  | [], _, h => h
  | _ :: _, _, ⟨b, o, h1, h0, h2, h3⟩ => ⟨b, o, h1, h0, hk _ _ h2, NestB.keep hk h3⟩
theorem NestB.only {w w' : World} {m : Nat} {bs : List Nat} (ho : Only bs w w') (hb : ∀ r ∈ bs, m ≤ r) : ∀ {r : List Int} {v : Value}, NestB w m r v → NestB w' m r v
  | [], _, h => h
  | _ :: _, _, ⟨b, o, h1, h0, h2, h3⟩ => ⟨b, o, h1, h0, h2.only ho (fun hm => by have := hb b hm; omega), NestB.only ho hb h3⟩
set_option maxRecDepth 100000 in
set_option maxHeartbeats 4000000 in
theorem open55 (r : List Int) (u : Value) (goal : Int) (w : World) (h : NestAt w r u) : Calls Tryd.prog 55 #[u, .int .i64 goal] w fun e w' => ∃ v, e = .returned v ∧ NestAt w' (goal :: r) v ∧ Below w.heap.size w w' := by
  cases r with
  | nil =>
    obtain rfl : u = .pointer none := h
    have X := Lib.hid (Blk.new w 71 #[.int .i64 goal, .pointer none, .int .i64 1])
    have B := Lib.hid ((Below.refl w.heap.size w).alloc (Nat.le_refl _) (.cells #[.int .i64 goal, .pointer none, .int .i64 1] 71))
    go_enter Tryd.func55, Tryd.ntmps55
    go_wp2_with fail
    go_ret
    exact ⟨_, rfl, ⟨_, _, rfl, by rw [show wrap64 (([] : List Int).length + 1) = 1 by simp [wrap64]]; exact X.out, rfl⟩, B.out⟩
  | cons a r =>
    obtain ⟨b, o, rfl, h2, h3⟩ := h
    obtain ⟨d, hd⟩ : ∃ d, d = wrap64 (r.length + 1) := ⟨_, rfl⟩
    have h2' := h2
    rw [← hd] at h2'
    have c2 := h2'.cell 2
    have hd2 : Hid (wrap64 (d + 1) = wrap64 ((a :: r).length + 1)) := Lib.hid (by rw [hd, List.length_cons]; unfold wrap64; omega)
    simp only [List.getElem?_toArray, List.getElem?_cons_succ, List.getElem?_cons_zero] at c2
    have H2 := Lib.hid h2
    have H3 := Lib.hid h3
    have X := Lib.hid (Blk.new w 71 #[.int .i64 goal, .pointer (some ⟨b, 0, none⟩), .int .i64 (wrap64 (d + 1))])
    have B := Lib.hid ((Below.refl w.heap.size w).alloc (Nat.le_refl _) (.cells #[.int .i64 goal, .pointer (some ⟨b, 0, none⟩), .int .i64 (wrap64 (d + 1))] 71))
    clear h2 h3 hd h2'
    go_enter Tryd.func55, Tryd.ntmps55
    go_wp2_with fail
    go_ret
    have KB := Keep71.below B.out (Nat.le_refl _)
    exact ⟨_, rfl, ⟨_, _, rfl, by rw [← hd2.out]; exact X.out, ⟨_, _, rfl, KB _ _ H2.out, H3.out.keep KB⟩⟩, B.out⟩
set_option maxRecDepth 100000 in
set_option maxHeartbeats 4000000 in
theorem list46 (r : List Int) (u : Value) (w : World) (h : NestAt w r u) (hl : r.length ≤ 1000000000000) : Calls Tryd.prog 46 #[u] w (NsR r.reverse w) := by
  have H := Lib.hid h
  clear h
  go_enter Tryd.func46, Tryd.ntmps46
  go_wp2_with fail
  go_loopw [0, 3] (fun u z wr => ∃ (s q : List Int) (sa : Option Addr) (co : Nat), Hid (r = q ++ s) ∧ Hid (NestAt wr s u) ∧ z = .slice sa q.length co ∧ Hid (Sl wr w.heap.size 3 1 inC (.slice sa q.length co) q) ∧ Hid (Below w.heap.size w wr)) (fun u z _ => match z with | .slice _ n _ => r.length - n | _ => 0)
  case atStart => exact ⟨r, [], none, 0, Lib.hid rfl, H, rfl, Lib.hid (Sl.nil _ _ _ _ _), Lib.hid (Below.refl _ _)⟩
  case round =>
    obtain ⟨s, q, sa, co, hr, hn, rfl, hs, hb⟩ := hrel
    clear H
    cases s with
    | nil =>
      obtain rfl : _ = Value.pointer none := hn.out
      have HQ : Hid (r.reverse = q.reverse) := Lib.hid (by rw [hr.out, List.append_nil])
      have hql : q.length ≤ 1000000000000 := by have := congrArg List.length hr.out; simp at this; omega
      go_wp2_with fail
      refine (rev62 hs.out (by omega)).mono ?_
      rintro e w1 ⟨rfl, s1, g1⟩
      have B1 := Lib.hid (hb.out.grown g1 hb.out.size (fun j hj => (hs.out.lt j hj).1))
      have S1 := Lib.hid s1
      clear s1 g1 hs
      go_wp2_with fail
      go_ret
      exact ⟨B1.out, _, rfl, by rw [HQ.out]; exact S1.out⟩
    | cons a s =>
      obtain ⟨b, o, rfl, h2, h3⟩ := hn.out
      have hql : q.length + 1 ≤ 1000000000000 := by have := congrArg List.length hr.out; simp at this; omega
      have c0 := h2.cell 0
      simp only [List.getElem?_toArray, List.getElem?_cons_zero] at c0
      have hwb := hb.out.size
      obtain ⟨g, cap, W2, hrun, sl2, hgrow, _⟩ := sl_push_in (hs.out.only (bs := []) (Only.alloc [] wr (.cells #[.int .i64 a] 3)) (fun g hg hm => by cases hm)) a wr.heap.size (Blk.new wr 3 _) (by omega) (by simp; omega)
      have K2 : Keep71 wr W2 := fun g' cs hg => (hgrow.block g' (by have := hg.lt; simp; omega) (fun e => by
        rcases hs.out.2 with ⟨q1, _⟩ | ⟨g2, cap2, cur, q1, _, q3, _⟩
        · rw [q1] at e
          simp [Value.ownBlock] at e
        · rw [q1] at e
          simp only [Value.ownBlock, Option.some.injEq] at e
          subst e
          have := hg.symm.trans q3
          simp at this)).trans (hg.alloc _)
      have B2 : Hid (Below w.heap.size w W2) := Lib.hid (hb.out.trans (((Below.refl w.heap.size wr).alloc hwb _).grown hgrow (by simp; omega) (fun j hj => (hs.out.lt j hj).1)))
      have c1 := (K2 _ _ h2).cell 1
      simp only [List.getElem?_toArray, List.getElem?_cons_zero, List.getElem?_cons_succ] at c1
      have N2 := Lib.hid (h3.keep K2)
      have SL2 := Lib.hid sl2
      have HRN := Lib.hid hrun
      clear hrun sl2 hgrow K2 h2 h3 hn hs hb
      go_wp2_with (at_builtin; refine wpList_append_run rfl _ _ 23 23 rfl rfl rfl HRN.out ?_)
      go_roundw
      case rel => exact ⟨s, q ++ [a], some ⟨g, 0, none⟩, cap, Lib.hid (by rw [hr.out]; simp), N2, by simp, by simpa using SL2, B2⟩
      case measure => have := congrArg List.length hr.out; simp at this; simp; omega
set_option maxRecDepth 100000 in
set_option maxHeartbeats 4000000 in
theorem same54 (r s : List Int) (u v : Value) (w : World) (h : NestAt w r u) (k : NestAt w s v) : Calls Tryd.prog 54 #[u, v] w fun e w' => e = .returned (.bool (decide (r = s))) ∧ Below w.heap.size w w' := by
  have H := Lib.hid h
  have K := Lib.hid k
  clear h k
  go_enter Tryd.func54, Tryd.ntmps54
  go_wp2_with fail
  go_loopw [0, 1] (fun u v wr => ∃ (r' s' : List Int), Hid (decide (r = s) = decide (r' = s')) ∧ Hid (NestAt wr r' u) ∧ Hid (NestAt wr s' v) ∧ Hid (Below w.heap.size w wr)) (fun u v wr => nestN wr u)
  case atStart => exact ⟨r, s, Lib.hid rfl, H, K, Lib.hid (Below.refl _ _)⟩
  case round =>
    obtain ⟨r', s', he, hn, hm, hb⟩ := hrel
    clear H K
    cases r' with
    | nil =>
      obtain rfl : _ = Value.pointer none := hn.out
      cases s' with
      | nil =>
        obtain rfl : _ = Value.pointer none := hm.out
        go_wp2_with fail
        go_ret
        exact ⟨by rw [he.out]; rfl, hb.out⟩
      | cons c s' =>
        obtain ⟨b, o, rfl, k2, k3⟩ := hm.out
        have HE : Hid (decide (r = s) = false) := Lib.hid (by rw [he.out]; simp)
        have hpq := fun (W : World) => ptr_nil ⟨b, 0, none⟩ W
        clear k2 k3 hn hm he
        go_wp2_with fail
        go_quiet (fail)
        go_wp2_with fail
        go_ret
        exact ⟨by rw [HE.out]; rfl, below_drewN hb.out _⟩
    | cons a r' =>
      obtain ⟨b, o, rfl, h2, h3⟩ := hn.out
      cases s' with
      | nil =>
        obtain rfl : _ = Value.pointer none := hm.out
        have HE : Hid (decide (r = s) = false) := Lib.hid (by rw [he.out]; simp)
        clear h2 h3 hn hm he
        go_wp2_with fail
        go_quiet (fail)
        go_wp2_with fail
        go_ret
        exact ⟨by rw [HE.out]; rfl, below_drewN hb.out _⟩
      | cons c s' =>
        obtain ⟨b', o', rfl, k2, k3⟩ := hm.out
        by_cases hbb : b = b'
        · subst hbb
          have HE : Hid (decide (r = s) = true) := Lib.hid (by rw [he.out, decide_eq_true_eq]; exact NestAt.one _ _ _ hn.out hm.out)
          have hpq := fun (W : World) => ptr_same ⟨b, 0, none⟩ W
          clear h2 h3 k2 k3 hn hm he
          go_wp2_with fail
          go_ret
          exact ⟨by rw [HE.out]; rfl, hb.out⟩
        · have hpq := ptr_other hbb h2 k2
          obtain ⟨d, hd⟩ : ∃ d, d = wrap64 (r'.length + 1) := ⟨_, rfl⟩
          obtain ⟨d', hd'⟩ : ∃ d, d = wrap64 (s'.length + 1) := ⟨_, rfl⟩
          rw [← hd] at h2
          rw [← hd'] at k2
          have c0 := h2.cell 0
          have c1 := h2.cell 1
          have c2 := h2.cell 2
          have e0 := k2.cell 0
          have e1 := k2.cell 1
          have e2 := k2.cell 2
          simp only [List.getElem?_toArray, List.getElem?_cons_succ, List.getElem?_cons_zero] at c0 c1 c2 e0 e1 e2
          have H3 := Lib.hid h3
          have K3 := Lib.hid k3
          have HL : Hid (nestN wr o < nestN wr (.pointer (some ⟨b, 0, none⟩))) := Lib.hid (by rw [hn.out.len, h3.len]; simp)
          clear h2 h3 k2 k3 hn hm
          by_cases hdd : d = d'
          · by_cases hac : a = c
            · have HE : Hid (decide (r = s) = decide (r' = s')) := Lib.hid (by rw [he.out, hac]; simp)
              subst hdd
              subst hac
              clear hd hd' he
              go_wp2_with fail
              go_quiet (fail)
              have c1' : (wr.drewN nq).cell? ⟨b, 1, none⟩ = some o := c1
              have e1' : (wr.drewN nq).cell? ⟨b', 1, none⟩ = some o' := e1
              have BX := Lib.hid (below_drewN hb.out nq)
              have H3' := Lib.hid (H3.out.drewN nq)
              have K3' := Lib.hid (K3.out.drewN nq)
              have HL' : Hid (nestN (wr.drewN nq) o < nestN wr (.pointer (some ⟨b, 0, none⟩))) := Lib.hid (by rw [H3'.out.len, ← H3.out.len]; exact HL.out)
              clear c0 c1 c2 e0 e1 e2 hb H3 K3 HL hpq
              generalize wr.drewN nq = w2 at *
              go_wp2_with fail
              go_quiet (fail)
              have BY := Lib.hid (below_drewN BX.out nq)
              have H4 := Lib.hid (H3'.out.drewN nq)
              have K4 := Lib.hid (K3'.out.drewN nq)
              have HL4 : Hid (nestN (w2.drewN nq) o < nestN wr (.pointer (some ⟨b, 0, none⟩))) := Lib.hid (by rw [H4.out.len, ← H3'.out.len]; exact HL'.out)
              go_wp2_with fail
              go_roundw
              case rel => exact ⟨r', s', HE, H4, K4, BY⟩
              case measure => exact HL4.out
            · have HE : Hid (decide (r = s) = false) := Lib.hid (by rw [he.out]; simp [hac])
              have dn := i64_bne a c hac
              subst hdd
              clear hd hd' he hac
              go_wp2_with fail
              go_quiet (fail)
              go_wp2_with fail
              go_ret
              exact ⟨by rw [HE.out]; rfl, below_drewN hb.out _⟩
          · have HE : Hid (decide (r = s) = false) := Lib.hid (by rw [he.out, decide_eq_false_iff_not]; intro q; rw [List.cons.injEq] at q; exact hdd (by rw [hd, hd', q.2]))
            have dn := i64_bne d d' hdd
            clear hd hd' he hdd
            go_wp2_with fail
            go_quiet (fail)
            go_wp2_with fail
            go_ret
            exact ⟨by rw [HE.out]; rfl, below_drewN hb.out _⟩
end Go.Proofs.YtekfnonjhcfdmaaDoor
namespace Go.Proofs.YtekfnonjhcfdmaaDoor
open Go.RowKit Go.Rt Go.Rw

theorem NestAt.ptr {w : World} : ∀ (r : List Int) (v : Value), NestAt w r v → ∃ p, v = .pointer p
  | [], _, h => ⟨none, h⟩
  | _ :: _, _, ⟨b, _, h, _⟩ => ⟨some ⟨b, 0, none⟩, h⟩
/-- The search's state: what is known of the instructions (Q), what is open (O); blocks of a list F are others'. -/
structure NS (Bl Bs Bb Bo gS gB base m : Nat) (lv : Value) (n : Nat) (F : List Nat) (Q : Nat → Option (List Int)) (O : List Int) (W : World) : Prop where
  l : Boxed W Bl 22 lv
  bs : Boxed W Bs 47 (.slice (some ⟨gS, 0, none⟩) n n)
  bb : Boxed W Bb 52 (.slice (some ⟨gB, 0, none⟩) n n)
  seen : Blk W gS 4 ((List.range n).map fun i => Value.bool (Q i).isSome).toArray
  bef : ∃ T : List Value, T.length = n ∧ Blk W gB 69 T.toArray ∧ ∀ (i : Nat) (h : i < T.length), NestB W m ((Q i).getD []).reverse T[i]
  op : ∃ v, Boxed W Bo 23 v ∧ Sl W base 3 1 inC v O ∧ Off v F
  lo : base ≤ Bo ∧ base ≤ gS ∧ base ≤ gB ∧ base ≤ W.heap.size
  fr : ∀ r ∈ F, r < W.heap.size ∧ r ≠ gS ∧ r ≠ gB ∧ r ≠ Bo
/-- What a step of the search leaves alone. -/
structure NK (base : Nat) (F : List Nat) (w w' : World) : Prop where
  below : Below base w w'
  keep : ∀ r ∈ F, w'.heap[r]? = w.heap[r]?
  nests : Keep71 w w'
theorem NK.trans {base : Nat} {F : List Nat} {a b c : World} (h : NK base F a b) (k : NK base F b c) : NK base F a c := ⟨h.below.trans k.below, fun r hr => (k.keep r hr).trans (h.keep r hr), h.nests.trans k.nests⟩
theorem NK.of {base m : Nat} {F : List Nat} {w w' : World} (h : Below m w w') (hm : w.heap.size ≤ m) (hb : base ≤ m) (hF : ∀ r ∈ F, r < w.heap.size) : NK base F w w' := ⟨h.mono hb, fun r hr => h.block r (by have := hF r hr; omega), Keep71.below h hm⟩
theorem NS.below {Bl Bs Bb Bo gS gB base m : Nat} {lv : Value} {n m2 : Nat} {F : List Nat} {Q : Nat → Option (List Int)} {O : List Int} {w w' : World} (h : NS Bl Bs Bb Bo gS gB base m lv n F Q O w) (hb : Below m2 w w') (hm : w.heap.size ≤ m2) : NS Bl Bs Bb Bo gS gB base m lv n F Q O w' := by
  obtain ⟨v, o1, o2, o3⟩ := h.op
  obtain ⟨T, t1, t2, t3⟩ := h.bef
  have K := Keep71.below hb hm
  exact ⟨(hb.block _ (Nat.lt_of_lt_of_le h.l.lt hm)).trans h.l, (hb.block _ (Nat.lt_of_lt_of_le h.bs.lt hm)).trans h.bs, (hb.block _ (Nat.lt_of_lt_of_le h.bb.lt hm)).trans h.bb,
    h.seen.below hb (Nat.lt_of_lt_of_le h.seen.lt hm), ⟨T, t1, t2.below hb (Nat.lt_of_lt_of_le t2.lt hm), fun i hi => (t3 i hi).keep K⟩,
    ⟨v, (hb.block _ (Nat.lt_of_lt_of_le o1.lt hm)).trans o1, o2.below hb (fun g hg => Nat.lt_of_lt_of_le (o2.lt g hg).2 hm), o3⟩,
    ⟨h.lo.1, h.lo.2.1, h.lo.2.2.1, Nat.le_trans h.lo.2.2.2 hb.size⟩, fun r hr => ⟨Nat.lt_of_lt_of_le (h.fr r hr).1 hb.size, (h.fr r hr).2⟩⟩
/-- One more handler list is known. -/
def setQ (Q : Nat → Option (List Int)) (i : Nat) (t : List Int) : Nat → Option (List Int) := fun k => if k = i then some t else Q k
theorem map_setQ (Q : Nat → Option (List Int)) (n i : Nat) (t : List Int) (hi : i < n) : ((List.range n).map fun k => Value.bool (setQ Q i t k).isSome).toArray = (((List.range n).map fun k => Value.bool (Q k).isSome).toArray).setIfInBounds i (.bool true) := by
  apply Array.ext_getElem?
  intro j
  rw [Array.getElem?_setIfInBounds]
  by_cases h : i = j
  · subst h
    simp [hi, setQ]
  · have h' : ¬ j = i := fun e => h e.symm
    simp only [List.getElem?_toArray, List.getElem?_map, if_neg h]
    by_cases hj : j < n
    · simp [hj, setQ, h']
    · simp [hj]
/-- What pass does. -/
def passF (Q : Nat → Option (List Int)) (n : Nat) (O : List Int) (i : Int) (t : List Int) : Bool × (Nat → Option (List Int)) × List Int :=
  if 0 ≤ i ∧ i < n then (match Q i.toNat with | some u => (decide (u = t), Q, O) | none => (true, setQ Q i.toNat t, O ++ [i])) else (true, Q, O)
theorem NS.drew {Bl Bs Bb Bo gS gB base m : Nat} {lv : Value} {n : Nat} {F : List Nat} {Q : Nat → Option (List Int)} {O : List Int} {w : World} (h : NS Bl Bs Bb Bo gS gB base m lv n F Q O w) : NS Bl Bs Bb Bo gS gB base m lv n F Q O w.drew :=
  h.below (m2 := w.heap.size) ((Below.refl w.heap.size w).drew) (Nat.le_refl _)
theorem blk_ne {w : World} {a b : Nat} {s t : TypeId} {cs ds : Array Value} (h : Blk w a s cs) (k : Blk w b t ds) (hne : s ≠ t) : a ≠ b := h.ne_ k hne
/-- An instruction is marked. -/
theorem NS.mark {Bl Bs Bb Bo gS gB base m : Nat} {lv : Value} {n : Nat} {F : List Nat} {Q : Nat → Option (List Int)} {O : List Int} {w : World} (h : NS Bl Bs Bb Bo gS gB base m lv n F Q O w) {k : Nat} (hk : k < n) {t : List Int} {p : Option Addr} (hu : NestB w m t.reverse (.pointer p)) :
    NS Bl Bs Bb Bo gS gB base m lv n F (setQ Q k t) O ((w.setCell ⟨gS, k, none⟩ (.bool true)).setCell ⟨gB, k, none⟩ (.pointer p)) ∧ NK base F w ((w.setCell ⟨gS, k, none⟩ (.bool true)).setCell ⟨gB, k, none⟩ (.pointer p)) := by
  obtain ⟨v, o1, o2, o3⟩ := h.op
  obtain ⟨T, t1, t2, t3⟩ := h.bef
  have hon : Only [gS, gB] w ((w.setCell ⟨gS, k, none⟩ (.bool true)).setCell ⟨gB, k, none⟩ (.pointer p)) := (Only.setCell w ⟨gS, k, none⟩ _ (by simp)).trans (Only.setCell _ ⟨gB, k, none⟩ _ (by simp))
  have hsb := blk_ne h.seen t2 (by decide)
  have hot : ∀ {a : Nat} {ty : TypeId} {cs : Array Value}, Blk w a ty cs → ty ≠ 4 → ty ≠ 69 → Blk ((w.setCell ⟨gS, k, none⟩ (.bool true)).setCell ⟨gB, k, none⟩ (.pointer p)) a ty cs := fun {a ty cs} hb n1 n2 => hb.only hon (by
    simp only [List.mem_cons, List.not_mem_nil, or_false, not_or]
    exact ⟨blk_ne hb h.seen n1, blk_ne hb t2 n2⟩)
  have K : Keep71 w ((w.setCell ⟨gS, k, none⟩ (.bool true)).setCell ⟨gB, k, none⟩ (.pointer p)) := fun g cs hb => hot hb (by decide) (by decide)
  refine ⟨⟨hot h.l (by decide) (by decide), hot h.bs (by decide) (by decide), hot h.bb (by decide) (by decide), ?_, ⟨T.set k (.pointer p), by simp [t1], ?_, ?_⟩, ⟨v, hot o1 (by decide) (by decide), o2.only hon ?_, o3⟩, ⟨h.lo.1, h.lo.2.1, h.lo.2.2.1, by have := h.lo.2.2.2; have := hon.size; omega⟩, fun r hr => ⟨Nat.lt_of_lt_of_le (h.fr r hr).1 hon.size, (h.fr r hr).2⟩⟩, ⟨hon.below (by
      intro b hb
      simp only [List.mem_cons, List.not_mem_nil, or_false] at hb
      rcases hb with rfl | rfl
      · exact h.lo.2.1
      · exact h.lo.2.2.1) h.lo.2.2.2, fun r hr => hon.block r (h.fr r hr).1 (by
      simp only [List.mem_cons, List.not_mem_nil, or_false, not_or]
      exact ⟨(h.fr r hr).2.1, (h.fr r hr).2.2.1⟩), K⟩⟩
  · rw [map_setQ Q n k t hk]
    exact (h.seen.set_ k (.bool true)).far (p := ⟨gB, k, none⟩) hsb _
  · have := (t2.far (p := ⟨gS, k, none⟩) (Ne.symm hsb) (.bool true)).set_ k (.pointer p)
    simpa using this
  · intro i hi
    simp only [List.length_set] at hi
    rw [List.getElem_set]
    unfold setQ
    by_cases hik : i = k
    · subst hik
      simpa using hu.keep K
    · rw [if_neg hik, if_neg (fun e => hik e.symm)]
      exact (t3 i hi).keep K
  · intro g hg hm
    simp only [List.mem_cons, List.not_mem_nil, or_false] at hm
    rcases o2.2 with ⟨q, _⟩ | ⟨g2, cap2, cur, q, _, q3, _⟩
    · rw [q] at hg
      simp [Value.ownBlock] at hg
    · rw [q] at hg
      simp only [Value.ownBlock, Option.some.injEq] at hg
      subst hg
      rcases hm with e | e
      · exact blk_ne (show Blk w g2 3 cur from q3) h.seen (by decide) e
      · exact blk_ne (show Blk w g2 3 cur from q3) t2 (by decide) e
/-- An instruction is pushed. -/
theorem NS.push {Bl Bs Bb Bo gS gB base m : Nat} {lv : Value} {n : Nat} {F : List Nat} {Q : Nat → Option (List Int)} {O : List Int} {w : World} (h : NS Bl Bs Bb Bo gS gB base m lv n F Q O w) (x : Int) (hl : O.length + 1 ≤ 10000000000000) :
    ∃ sa co g cap W2, Boxed w Bo 23 (.slice sa O.length co) ∧ (Builtin.append_ #[23, 23] 23 #[.slice sa O.length co, .slice (some ⟨w.heap.size, 0, none⟩) 1 1]).run Tryd.prog (w.alloc (.cells #[.int .i64 x] 3)) = .ok (.slice (some ⟨g, 0, none⟩) (O.length + 1) cap) W2 ∧ Boxed W2 Bo 23 (.slice sa O.length co) ∧
      NS Bl Bs Bb Bo gS gB base m lv n F Q (O ++ [x]) (W2.setCell ⟨Bo, 0, none⟩ (.slice (some ⟨g, 0, none⟩) (O.length + 1) cap)) ∧ NK base F w (W2.setCell ⟨Bo, 0, none⟩ (.slice (some ⟨g, 0, none⟩) (O.length + 1) cap)) := by
  obtain ⟨v, o1, o2, o3⟩ := h.op
  obtain ⟨T, t1, t2, t3⟩ := h.bef
  obtain ⟨sa, co, hv⟩ : ∃ sa co, v = .slice sa O.length co := by
    rcases o2.form with ⟨rfl, q⟩ | ⟨g0, cap0, rfl, _⟩
    · exact ⟨none, 0, by rw [q]; rfl⟩
    · exact ⟨_, _, rfl⟩
  subst hv
  have hbw := h.lo.2.2.2
  obtain ⟨g, cap, W2, hrun, sl2, hgrow, hwh⟩ := sl_push_in (o2.only (bs := []) (Only.alloc [] w (.cells #[.int .i64 x] 3)) (fun g hg hm => by cases hm)) x w.heap.size (Blk.new w 3 _) hl (by simp; omega)
  obtain ⟨a1, a2, a3, _, a5⟩ := Boxed.appended (n₀ := base) o1 (by decide) o2 hbw h.lo.1 sl2 hgrow
  have og : Only (Bo :: (Value.slice sa O.length co).ownBlock.toList) w (W2.setCell ⟨Bo, 0, none⟩ (.slice (some ⟨g, 0, none⟩) (O.length + 1) cap)) :=
    (((Only.alloc _ _ _).trans (grown_only hgrow)).mono (fun b hb => .inl (by simp only [List.mem_cons]; exact .inr hb))).trans (Only.setCell _ _ _ (by simp))
  have hot : ∀ {a : Nat} {ty : TypeId} {cs : Array Value}, Blk w a ty cs → ty ≠ 23 → ty ≠ 3 → Blk (W2.setCell ⟨Bo, 0, none⟩ (.slice (some ⟨g, 0, none⟩) (O.length + 1) cap)) a ty cs := fun {a ty cs} hb n1 n2 => hb.only og (by
    simp only [List.mem_cons, Option.mem_toList, not_or]
    refine ⟨blk_ne hb o1 n1, fun e => ?_⟩
    rcases o2.2 with ⟨q, _⟩ | ⟨g2, cap2, cur, q, _, q3, _⟩
    · rw [q] at e
      simp [Value.ownBlock] at e
    · rw [q] at e
      simp only [Value.ownBlock, Option.some.injEq] at e
      subst e
      exact blk_ne hb (show Blk w _ 3 cur from q3) n2 rfl)
  have K : Keep71 w (W2.setCell ⟨Bo, 0, none⟩ (.slice (some ⟨g, 0, none⟩) (O.length + 1) cap)) := fun g cs hb => hot hb (by decide) (by decide)
  have hF : ∀ r ∈ F, r ∉ Bo :: (Value.slice sa O.length co).ownBlock.toList := fun r hr hm => by
    simp only [List.mem_cons, Option.mem_toList] at hm
    rcases hm with e | e
    · exact (h.fr r hr).2.2.2 e
    · exact o3 r e hr
  refine ⟨sa, co, g, cap, W2, o1, hrun, a1, ⟨hot h.l (by decide) (by decide), hot h.bs (by decide) (by decide), hot h.bb (by decide) (by decide), hot h.seen (by decide) (by decide), ⟨T, t1, hot t2 (by decide) (by decide), fun i hi => (t3 i hi).keep K⟩, ⟨_, a2, ?_, ?_⟩, ⟨h.lo.1, h.lo.2.1, h.lo.2.2.1, by have := og.size; omega⟩, fun r hr => ⟨Nat.lt_of_lt_of_le (h.fr r hr).1 og.size, (h.fr r hr).2⟩⟩, ⟨a5, fun r hr => og.block r (h.fr r hr).1 (hF r hr), K⟩⟩
  · have := a3
    unfold Sl
    simpa using this
  · intro g' hg' hm
    simp only [Value.ownBlock, Option.some.injEq] at hg'
    subst hg'
    rcases hwh with q | q
    · exact o3 _ q hm
    · have := (h.fr _ hm).1
      simp at q
      omega
set_option maxRecDepth 100000 in
set_option maxHeartbeats 4000000 in
theorem pass53 {Bl Bs Bb Bo gS gB base m : Nat} {sa : Option Addr} {cap n : Nat} {F : List Nat} {Q : Nat → Option (List Int)} {O : List Int} (w : World) (i : Int) (u : Value) (t : List Int) (h : NS Bl Bs Bb Bo gS gB base m (.slice sa n cap) n F Q O w) (hu : NestB w m t.reverse u) (hO : O.length + 1 ≤ 10000000000000) :
    Calls Tryd.prog 53 #[.int .i64 i, u, .pointer (some ⟨Bl, 0, none⟩), .pointer (some ⟨Bs, 0, none⟩), .pointer (some ⟨Bb, 0, none⟩), .pointer (some ⟨Bo, 0, none⟩)] w fun e w' =>
      e = .returned (.bool (passF Q n O i t).1) ∧ NS Bl Bs Bb Bo gS gB base m (.slice sa n cap) n F (passF Q n O i t).2.1 (passF Q n O i t).2.2 w' ∧ NK base F w w' := by
  have HS := Lib.hid h
  have HF : Hid (∀ r ∈ F, r < w.heap.size) := Lib.hid (fun r hr => (h.fr r hr).1)
  have HU := Lib.hid hu
  have HB := Lib.hid h.lo.2.2.2
  have cl := h.l.cell
  obtain ⟨p, rfl⟩ := hu.at.ptr
  clear hu
  by_cases h0 : i < 0
  · have HP : Hid (passF Q n O i t = (true, Q, O)) := Lib.hid (by unfold passF; rw [if_neg (by omega)])
    clear h
    rw [HP.out]
    go_enter Tryd.func53, Tryd.ntmps53
    go_wp2_with fail
    go_ret
    exact ⟨rfl, HS.out, NK.of (Below.refl w.heap.size w) (Nat.le_refl _) HB.out HF.out⟩
  · by_cases h1 : (n : Int) ≤ i
    · have HP : Hid (passF Q n O i t = (true, Q, O)) := Lib.hid (by unfold passF; rw [if_neg (by omega)])
      clear h
      rw [HP.out]
      go_enter Tryd.func53, Tryd.ntmps53
      go_wp2_with fail
      go_ret
      exact ⟨rfl, HS.out, NK.of (Below.refl w.heap.size w) (Nat.le_refl _) HB.out HF.out⟩
    · obtain ⟨k, rfl⟩ := Int.eq_ofNat_of_zero_le (show 0 ≤ i by omega)
      have hk : k < n := by omega
      have hki : (k : Int) < (n : Int) := by omega
      have cs := h.bs.cell
      have cb := h.bb.cell
      have ck : w.cell? ⟨gS, k, none⟩ = some (.bool (Q k).isSome) := by
        have := h.seen.cell k
        simpa [hk] using this
      cases hq : Q k with
      | some v =>
        have HP : Hid (passF Q n O k t = (decide (v = t), Q, O)) := Lib.hid (by unfold passF; rw [if_pos (by omega), Int.toNat_natCast, hq])
        rw [hq] at ck
        simp only [Option.isSome_some] at ck
        obtain ⟨T, t1, t2, t3⟩ := h.bef
        have tk : w.cell? ⟨gB, k, none⟩ = some (T[k]'(by omega)) := by
          have := t2.cell k
          rw [this]
          simp [t1, hk]
        have nk := t3 k (by omega)
        rw [hq, Option.getD_some] at nk
        obtain ⟨p', hp'⟩ := nk.at.ptr
        rw [hp'] at tk nk
        have NKk := Lib.hid nk
        have HVT : Hid (decide (v.reverse = t.reverse) = decide (v = t)) := Lib.hid (by simp)
        clear h t1 t2 t3 nk hp' hq h0 h1
        rw [HP.out]
        go_enter Tryd.func53, Tryd.ntmps53
        go_wp2_with fail
        refine (same54 v.reverse t.reverse _ _ w NKk.out.at HU.out.at).mono ?_
        rintro e w1 ⟨rfl, b1⟩
        have B1 := Lib.hid b1
        clear b1
        go_wp2_with fail
        go_ret
        exact ⟨by rw [← HVT.out]; rfl, HS.out.below B1.out (Nat.le_refl _), NK.of B1.out (Nat.le_refl _) HB.out HF.out⟩
      | none =>
        have HP : Hid (passF Q n O k t = (true, setQ Q k t, O ++ [(k : Int)])) := Lib.hid (by unfold passF; rw [if_pos (by omega), Int.toNat_natCast, hq])
        rw [hq] at ck
        simp only [Option.isSome_none] at ck
        obtain ⟨T, t1, t2, t3⟩ := h.bef
        obtain ⟨tv, tk⟩ : ∃ x, w.cell? ⟨gB, k, none⟩ = some x := ⟨T[k]'(by omega), by
          have := t2.cell k
          rw [this]
          simp [t1, hk]⟩
        have fs := h.seen.frozen k
        have fb := t2.frozen k
        have hsb := h.seen.ne_ t2 (by decide)
        clear h0 h1 hq h
        rw [HP.out]
        go_enter Tryd.func53, Tryd.ntmps53
        go_upto_region 5 with fail
        refine wp_region_held_drew (S := (fun w' => w'.cell? ⟨Bs, 0, none⟩ = some (.slice (some ⟨gS, 0, none⟩) n n) ∧ w'.cell? ⟨Bb, 0, none⟩ = some (.slice (some ⟨gB, 0, none⟩) n n))) (by kernel_rfl) (⟨cs, cb⟩) (fun hS => ?_)
        have ck3 : w.drew.cell? ⟨gS, k, none⟩ = some (.bool false) := ck
        have tk3 : w.drew.cell? ⟨gB, k, none⟩ = some tv := tk
        have fs3 : w.drew.frozen? ⟨gS, k, none⟩ = false := fs
        have fb3 : w.drew.frozen? ⟨gB, k, none⟩ = false := fb
        refine wpAnyH_take (i := 0) (v := ?_) rfl (by kernel_rfl) (by kernel_rfl) (by kernel_rfl) (fun _ _ _ h => h) (Or.inl ⟨by rfl, ?_⟩) (by assumption) ?_
        rotate_left
        · intro w hSw
          go_simp
          with_reducible rfl
        change wpAnyH _ _ _ _ _ _ _ (Act.put _ (some 27) _) _
        simp only [Act.put, List.setIfInBounds_toArray, List.set_cons_zero, List.set_cons_succ]
        refine wpAnyH_take (i := 1) (v := ?_) rfl (by kernel_rfl) (by kernel_rfl) (by kernel_rfl) (fun _ _ _ h => h) (Or.inl ⟨by rfl, ?_⟩) (by assumption) ?_
        rotate_left
        · intro w hSw
          go_simp
          with_reducible rfl
        change wpAnyH _ _ _ _ _ _ _ (Act.put _ (some 28) _) _
        simp only [Act.put, List.setIfInBounds_toArray, List.set_cons_zero, List.set_cons_succ]
        refine wpAnyH_take (i := 2) (v := ?_) rfl (by kernel_rfl) (by kernel_rfl) (by kernel_rfl) (fun _ _ _ h => h) (Or.inl ⟨by rfl, ?_⟩) (by assumption) ?_
        rotate_left
        · intro w hSw
          go_simp
          with_reducible rfl
        change wpAnyH _ _ _ _ _ _ _ (Act.put _ (some 29) _) _
        simp only [Act.put, List.setIfInBounds_toArray, List.set_cons_zero, List.set_cons_succ]
        refine wpAnyH_take (i := 3) (v := ?_) rfl (by kernel_rfl) (by kernel_rfl) (by kernel_rfl) (fun _ _ _ h => h) (Or.inl ⟨by rfl, ?_⟩) (by assumption) ?_
        rotate_left
        · intro w hSw
          go_simp
          with_reducible rfl
        change wpAnyH _ _ _ _ _ _ _ (Act.put _ (some 30) _) _
        simp only [Act.put, List.setIfInBounds_toArray, List.set_cons_zero, List.set_cons_succ]
        refine wpAnyH_take (i := 4) (v := ?_) rfl (by kernel_rfl) (by kernel_rfl) (by kernel_rfl) (fun _ _ _ h => h) (Or.inl ⟨by rfl, ?_⟩) (by assumption) ?_
        rotate_left
        · intro w hSw
          go_simp
          with_reducible rfl
        change wpAnyH _ _ _ _ _ _ _ (Act.put _ (some 31) _) _
        simp only [Act.put, List.setIfInBounds_toArray, List.set_cons_zero, List.set_cons_succ]
        refine wpAnyH_take (i := 5) (v := ?_) rfl (by kernel_rfl) (by kernel_rfl) (by kernel_rfl) (fun _ _ _ h => h) (Or.inl ⟨by rfl, ?_⟩) (by assumption) ?_
        rotate_left
        · intro w hSw
          go_simp
          with_reducible rfl
        change wpAnyH _ _ _ _ _ _ _ (Act.put _ (some 32) _) _
        simp only [Act.put, List.setIfInBounds_toArray, List.set_cons_zero, List.set_cons_succ]
        refine wpAnyH_ready (rs := [6]) (by kernel_rfl) (by simp) ?_
        refine AllReadyH.cons rfl (fun K hK => ?_) AllReadyH.nil
        go_simp
        have c1' : (w.setCell ⟨gS, k, none⟩ (.bool true)).drew.cell? ⟨Bs, 0, none⟩ = some (.slice (some ⟨gS, 0, none⟩) n n) := (((show Blk w Bs 47 _ from HS.out.bs).far (p := ⟨gS, k, none⟩) (blk_ne HS.out.bs HS.out.seen (by decide)) _).cell 0)
        have c2' : (w.setCell ⟨gS, k, none⟩ (.bool true)).drew.cell? ⟨Bb, 0, none⟩ = some (.slice (some ⟨gB, 0, none⟩) n n) := (((show Blk w Bb 52 _ from HS.out.bb).far (p := ⟨gS, k, none⟩) (blk_ne HS.out.bb HS.out.seen (by decide)) _).cell 0)
        have tk4 : (w.setCell ⟨gS, k, none⟩ (.bool true)).drew.cell? ⟨gB, k, none⟩ = some tv := by rw [← tk]; exact World.cell?_setCell_far w ⟨gS, k, none⟩ ⟨gB, k, none⟩ _ hsb
        have fb4 : (w.setCell ⟨gS, k, none⟩ (.bool true)).drew.frozen? ⟨gB, k, none⟩ = false := (t2.far (p := ⟨gS, k, none⟩) (Ne.symm hsb) _).frozen k
        refine hK.out _ _ (⟨c1', c2'⟩) (fun hS => ?_)
        clear hK K
        try simp only [Act.put, List.setIfInBounds_toArray, List.set_cons_zero, List.set_cons_succ]
        have HM := Lib.hid (HS.out.mark hk HU.out)
        refine wpAnyH_take (i := 7) (v := ?_) rfl (by kernel_rfl) (by kernel_rfl) (by kernel_rfl) (fun _ _ _ h => h) (Or.inl ⟨by rfl, ?_⟩) (by assumption) ?_
        rotate_left
        · intro w hSw
          go_simp
          with_reducible rfl
        change wpAnyH _ _ _ _ _ _ _ (Act.put _ (some 33) _) _
        simp only [Act.put, List.setIfInBounds_toArray, List.set_cons_zero, List.set_cons_succ]
        refine wpAnyH_ready (rs := [8]) (by kernel_rfl) (by simp) ?_
        refine AllReadyH.cons rfl (fun K hK => ?_) AllReadyH.nil
        go_simp
        have HN := Lib.hid HM.out.1.drew
        have HNK := Lib.hid (HM.out.2.trans (NK.of ((Below.refl _ ((w.setCell ⟨gS, k, none⟩ (.bool true)).setCell ⟨gB, k, none⟩ (.pointer p))).drew) (Nat.le_refl _) HM.out.1.lo.2.2.2 (fun r hr => (HM.out.1.fr r hr).1)))
        refine hK.out _ _ (⟨HM.out.1.bs.cell, HM.out.1.bb.cell⟩) (fun hS => ?_)
        clear hK K
        try simp only [Act.put, List.setIfInBounds_toArray, List.set_cons_zero, List.set_cons_succ]
        refine wpAnyH_done (by kernel_rfl) ?_ _
        generalize ((w.setCell ⟨gS, k, none⟩ (.bool true)).setCell ⟨gB, k, none⟩ (.pointer p)).drew = w5 at HN HNK ⊢
        obtain ⟨sa', co, g, cap', W2, q1, hrun, q2, q3, q4⟩ := HN.out.push k hO
        have HRN := Lib.hid hrun
        have Q3 := Lib.hid q3
        have Q4 := Lib.hid (HNK.out.trans q4)
        have d0 := q1.cell
        have d1 := q2.cell
        have d2 := q2.frozen
        clear hrun q1 q2 q3 q4 HN HNK HM cs cb ck tk fs fb ck3 tk3 fs3 fb3 c1' c2' tk4 fb4 t1 t2 t3 cl
        go_wp2_with (at_builtin; refine wpList_append_run rfl _ _ 23 23 rfl rfl rfl HRN.out ?_)
        go_ret
        exact ⟨rfl, Q3.out, Q4.out⟩
end Go.Proofs.YtekfnonjhcfdmaaDoor
namespace Go.Proofs.YtekfnonjhcfdmaaDoor

/-- How many are not known yet. -/
def un (Q : Nat → Option (List Int)) (n : Nat) : Nat := ((List.range n).filter fun i => (Q i).isNone).length
theorem un_le (Q : Nat → Option (List Int)) (n : Nat) : un Q n ≤ n := by
  have := List.length_filter_le (fun i => (Q i).isNone) (List.range n)
  simpa [un] using this
theorem un_set (Q : Nat → Option (List Int)) (i : Nat) (t : List Int) : ∀ n, i < n → Q i = none → un (setQ Q i t) n + 1 = un Q n
  | 0, h, _ => by omega
  | n + 1, h, hq => by
    unfold un
    rw [List.range_succ, List.filter_append, List.filter_append, List.length_append, List.length_append]
    by_cases hin : i = n
    · subst hin
      have e1 : (List.range i).filter (fun k => (setQ Q i t k).isNone) = (List.range i).filter fun k => (Q k).isNone := List.filter_congr fun k hk => by
        have := List.mem_range.1 hk
        unfold setQ
        rw [if_neg (by omega)]
      rw [e1]
      simp [setQ, hq]
    · have := un_set Q i t n (by omega) hq
      unfold un at this
      have e2 : (setQ Q i t n).isNone = (Q n).isNone := by unfold setQ; rw [if_neg (fun e => hin e.symm)]
      simp only [List.filter_cons, List.filter_nil, e2]
      omega
/-- What is known stays. -/
def LeQ (Q Q' : Nat → Option (List Int)) : Prop := ∀ i t, Q i = some t → Q' i = some t
theorem LeQ.refl (Q : Nat → Option (List Int)) : LeQ Q Q := fun _ _ h => h
theorem LeQ.trans {a b c : Nat → Option (List Int)} (h : LeQ a b) (k : LeQ b c) : LeQ a c := fun i t q => k i t (h i t q)
/-- An instruction is done with. -/
def Don (l : List In) (Q : Nat → Option (List Int)) (i : Nat) (t : List Int) : Prop :=
  ∀ hi : i < l.length, (∀ j : Nat, j < l.length → l[i].op = 28 → l[i].to = j → Q j = some t) ∧ ∃ o, aftF l[i] t = some o ∧ ∀ j : Nat, j < l.length → (j : Int) ∈ targF l[i] i → Q j = some o
theorem Don.le {l : List In} {Q Q' : Nat → Option (List Int)} {i : Nat} {t : List Int} (h : Don l Q i t) (hq : LeQ Q Q') : Don l Q' i t := fun hi => by
  obtain ⟨h1, o, h2, h3⟩ := h hi
  exact ⟨fun j hj a b => hq _ _ (h1 j hj a b), o, h2, fun j hj a => hq _ _ (h3 j hj a)⟩
/-- The search's invariant; x is being treated. -/
structure SI (l : List In) (fr : List Int) (Q : Nat → Option (List Int)) (O : List Int) (x : Int) : Prop where
  forced : ∀ i t, Q i = some t → Forced l fr i t
  opens : ∀ k ∈ O, ∃ j : Nat, k = j ∧ ∃ t, Q j = some t
  closed : ∀ i t, Q i = some t → (i : Int) ∉ O → (i : Int) ≠ x → Don l Q i t
  cnt : O.length + un Q l.length ≤ l.length
theorem SI.start (l : List In) (fr : List Int) : SI l fr (fun _ => none) [] (-1) := ⟨fun _ _ h => (by cases h), fun _ h => (by cases h), fun _ _ h => (by cases h), by simpa using un_le _ _⟩
/-- One pass. -/
theorem SI.pass {l : List In} {fr : List Int} {Q : Nat → Option (List Int)} {O : List Int} {x : Int} (h : SI l fr Q O x) (i : Int) (t : List Int) (hf : ∀ j : Nat, i = j → j < l.length → Forced l fr j t) :
    ((passF Q l.length O i t).1 = false → ¬ ∃ T, Fits l fr T) ∧
    ((passF Q l.length O i t).1 = true → SI l fr (passF Q l.length O i t).2.1 (passF Q l.length O i t).2.2 x ∧ LeQ Q (passF Q l.length O i t).2.1 ∧ (∀ j : Nat, i = j → j < l.length → (passF Q l.length O i t).2.1 j = some t) ∧ 2 * un (passF Q l.length O i t).2.1 l.length + (passF Q l.length O i t).2.2.length ≤ 2 * un Q l.length + O.length) := by
  unfold passF
  by_cases hi : 0 ≤ i ∧ i < l.length
  · rw [if_pos hi]
    obtain ⟨k, rfl⟩ := Int.eq_ofNat_of_zero_le hi.1
    have hk : k < l.length := by omega
    have hfk := hf k rfl hk
    rw [Int.toNat_natCast]
    cases hq : Q k with
    | some u =>
      refine ⟨fun e => ?_, fun e => ⟨h, LeQ.refl _, fun j hj hjl => ?_, Nat.le_refl _⟩⟩
      · exact Forced.clash (h.forced k u hq) hfk (of_decide_eq_false e)
      · obtain rfl : j = k := by omega
        simp only at e ⊢
        rw [hq, of_decide_eq_true e]
    | none =>
      have hle : LeQ Q (setQ Q k t) := fun j u hj => by
        unfold setQ
        rw [if_neg (fun e => by subst e; rw [hq] at hj; cases hj)]
        exact hj
      have hun := un_set Q k t l.length hk hq
      refine ⟨fun e => (by cases e), fun _ => ⟨⟨fun j u hj => ?_, fun y hy => ?_, fun j u hj hjo hjx => ?_, ?_⟩, hle, fun j hj hjl => ?_, ?_⟩⟩
      · dsimp only at hj
        unfold setQ at hj
        by_cases hjk : j = k
        · subst hjk
          rw [if_pos rfl] at hj
          cases hj
          exact hfk
        · rw [if_neg hjk] at hj
          exact h.forced j u hj
      · rcases List.mem_append.1 hy with hy | hy
        · obtain ⟨j, e, u, hu⟩ := h.opens y hy
          exact ⟨j, e, u, hle _ _ hu⟩
        · rw [List.mem_singleton] at hy
          exact ⟨k, hy, t, by simp [setQ]⟩
      · rw [List.mem_append, not_or, List.mem_singleton] at hjo
        have hjk : j ≠ k := fun e => hjo.2 (by rw [e])
        simp only [setQ] at hj
        rw [if_neg hjk] at hj
        exact (h.closed j u hj hjo.1 hjx).le hle
      · have := h.cnt
        simp only [List.length_append, List.length_cons, List.length_nil]
        omega
      · obtain rfl : j = k := by omega
        simp [setQ]
      · simp only [List.length_append, List.length_cons, List.length_nil]
        omega
  · rw [if_neg hi]
    exact ⟨fun e => (by cases e), fun _ => ⟨h, LeQ.refl _, fun j hj hjl => absurd ⟨by omega, by omega⟩ hi, Nat.le_refl _⟩⟩
/-- The last one is taken. -/
theorem SI.pop {l : List In} {fr : List Int} {Q : Nat → Option (List Int)} {O : List Int} {y : Int} (h : SI l fr Q (O ++ [y]) (-1)) : ∃ (j : Nat) (t : List Int), y = j ∧ j < l.length ∧ Q j = some t ∧ Forced l fr j t ∧ SI l fr Q O j := by
  obtain ⟨j, e, t, ht⟩ := h.opens y (by simp)
  have hf := h.forced j t ht
  refine ⟨j, t, e, hf.1.lt, ht, hf, ⟨h.forced, fun k hk => h.opens k (by simp [hk]), fun i u hi ho hx => h.closed i u hi (fun hm => ?_) (by omega), by have := h.cnt; simp at this; omega⟩⟩
  rw [List.mem_append, List.mem_singleton] at hm
  rcases hm with hm | hm
  · exact ho hm
  · exact hx (by rw [hm, e])
/-- It is done with. -/
theorem SI.done {l : List In} {fr : List Int} {Q : Nat → Option (List Int)} {O : List Int} {j : Nat} {t : List Int} (h : SI l fr Q O j) (hj : Q j = some t) (hd : Don l Q j t) : SI l fr Q O (-1) :=
  ⟨h.forced, h.opens, fun i u hi ho _ => by
    by_cases hij : i = j
    · subst hij
      rw [hj] at hi
      cases hi
      exact hd
    · exact h.closed i u hi ho (by omega), h.cnt⟩
/-- The end. -/
theorem SI.shut {l : List In} {fr : List Int} {Q : Nat → Option (List Int)} (h : SI l fr Q [] (-1)) (he : ∀ i : Nat, (i : Int) ∈ fr → i < l.length → Q i = some []) : Shut l fr Q := by
  have hc : ∀ i t, Q i = some t → Don l Q i t := fun i t hi => h.closed i t hi (by simp) (by omega)
  exact ⟨h.forced, he, fun i j hi t hq hj h1 h2 => (hc i t hq hi).1 j hj h1 h2, fun i hi t hq => (hc i t hq hi).2⟩
end Go.Proofs.YtekfnonjhcfdmaaDoor
namespace Go.Rw
open Go Go.RowKit Go.Rt

/-- The mark of a range over a function. -/
def rmark (D : Nat) : Deferred := { target := .collected D, args := #[] }
/-- Whatever the marks, the function's end is its results. -/
theorem leaves_marks {F : Fence} {n : Nat} {P : Program} {fn : Func} {tmps : Array Value} {R : Ending → World → Prop} : ∀ (Ds : List Nat) (w : World), Ds.Nodup → (∀ D ∈ Ds, w.heap[D]? = some (.deferred (some []))) →
    (∀ w', Only Ds w w' → ∃ v, (results fn tmps).run P w' = .ok v w' ∧ R (.returned v) w') → LeavesInM F n P fn tmps R (Ds.map rmark) .returning w
  | [], w, _, _, h => h w (Only.refl _ _)
  | D :: Ds, w, hn, hd, h => by
    obtain ⟨h1, h2⟩ := List.nodup_cons.1 hn
    refine ⟨by simp, .inl ⟨D, _, rfl, run_takeDeferred (hd D (by simp)), ?_⟩⟩
    refine leaves_marks Ds _ h2 (fun E hE => ?_) (fun w' ho => h w' ?_)
    · have hne : E ≠ D := fun e => h1 (e ▸ hE)
      rw [World.putObj_heap_other hne]
      exact hd E (by simp [hE])
    · exact (Only.putObj (bs := D :: Ds) w D _ (by simp)).trans (ho.mono (fun b hb => .inl (by simp [hb])))
/-- make([]T, n). -/
theorem run_mk {P : Program} {t e : TypeId} {z : Value} {bytes : Nat} (hu : P.underlying t = some (.slice e)) (hi : (P.info? e).map (fun i => (i.zero, i.size, i.bytes)) = some (some z, 1, bytes)) (hz : z.cells = #[z]) (n : Nat) (hb : bytes * n ≤ 281474976710656) (hn : n ≤ 9223372036854775807) (W : World) :
    (Instr.makeSlice t (.int .i64 n) (.int .i64 n)).run P W = .ok (.slice (some ⟨W.heap.size, 0, none⟩) n n) (W.alloc (.cells (Array.replicate n z) e)) := by
  obtain ⟨i, h1, h2, h3, h4⟩ := info_parts hi
  have := run_make (P := P) W t e i z hu h1 h2 .i64 .i64 (n : Int) (n : Int) (by omega) (by omega) (by rw [h4]; omega) (by omega)
  rw [this, h3, Int.toNat_natCast, Nat.mul_one, hz]
  congr 3
  unfold madeCells
  apply Array.ext
  · simp
  · intro j h1 h2
    simp [Nat.mod_one]
end Go.Rw
namespace Go.Proofs.YtekfnonjhcfdmaaDoor
open Go.RowKit Go.Rt Go.Rw
theorem mk47 (n : Nat) (hn : n ≤ 10000000000000) (W : World) : (Instr.makeSlice 47 (.int .i64 n) (.int .i64 n)).run Tryd.prog W = .ok (.slice (some ⟨W.heap.size, 0, none⟩) n n) (W.alloc (.cells (Array.replicate n (.bool false)) 4)) :=
  run_mk (bytes := 1) (by kernel_rfl) (by kernel_rfl) rfl n (by omega) (by omega) W
theorem mk52 (n : Nat) (hn : n ≤ 10000000000000) (W : World) : (Instr.makeSlice 52 (.int .i64 n) (.int .i64 n)).run Tryd.prog W = .ok (.slice (some ⟨W.heap.size, 0, none⟩) n n) (W.alloc (.cells (Array.replicate n (.pointer none)) 69)) :=
  run_mk (bytes := 8) (by kernel_rfl) (by kernel_rfl) rfl n (by omega) (by omega) W
theorem mk58 (n : Nat) (hn : n ≤ 10000000000000) (W : World) : (Instr.makeSlice 58 (.int .i64 n) (.int .i64 n)).run Tryd.prog W = .ok (.slice (some ⟨W.heap.size, 0, none⟩) n n) (W.alloc (.cells (Array.replicate n (.pointer none)) 59)) :=
  run_mk (bytes := 8) (by kernel_rfl) (by kernel_rfl) rfl n (by omega) (by omega) W
theorem mk26 (n : Nat) (hn : n ≤ 10000000000000) (W : World) : (Instr.makeSlice 26 (.int .i64 n) (.int .i64 n)).run Tryd.prog W = .ok (.slice (some ⟨W.heap.size, 0, none⟩) n n) (W.alloc (.cells (Array.replicate n (.slice none 0 0)) 23)) :=
  run_mk (bytes := 24) (by kernel_rfl) (by kernel_rfl) rfl n (by omega) (by omega) W
/-- Three results behind pointers. -/
theorem results_ccc {fn : Func} {a b c : Tmp} (h : fn.results = #[.cell a 52, .cell b 47, .cell c 27]) (tmps : Array Value) (w : World) (A B C : Nat) (u v x : Value) (ha : tmps.getD a undef = .pointer (some ⟨A, 0, none⟩)) (hb : tmps.getD b undef = .pointer (some ⟨B, 0, none⟩)) (hc : tmps.getD c undef = .pointer (some ⟨C, 0, none⟩))
    (h1 : Boxed w A 52 u) (h2 : Boxed w B 47 v) (h3 : Boxed w C 27 x) : (results fn tmps).run Tryd.prog w = .ok (.tuple #[u, v, x]) w := by
  have e1 := h1.cell
  have e2 := h2.cell
  have e3 := h3.cell
  have a1 := Tryd.isAgg52
  have a2 := Tryd.isAgg47
  have a3 := Tryd.isAgg27
  rw [Array.getD_eq_getD_getElem?] at ha hb hc
  simp [results, h, ha, hb, hc, asAddr, loadVar, a1, a2, a3, e1, e2, e3, Sem.run_bind, Result.andThen]

/-- The open slice is none of these. -/
def OffO (Bo : Nat) (bs : List Nat) (W : World) : Prop := ∀ v, Boxed W Bo 23 v → Off v bs
theorem NS.off {Bl Bs Bb Bo gS gB base m : Nat} {lv : Value} {n : Nat} {F : List Nat} {Q : Nat → Option (List Int)} {O : List Int} {w : World} (h : NS Bl Bs Bb Bo gS gB base m lv n F Q O w) (bs : List Nat) (hb : ∀ r ∈ bs, w.heap.size ≤ r) : OffO Bo bs w := by
  obtain ⟨v, o1, o2, _⟩ := h.op
  intro v' hv' g hg hm
  have := o1.symm.trans hv'
  simp only [Option.some.injEq, Obj.cells.injEq, Array.mk.injEq, List.cons.injEq, and_true] at this
  subst this
  have := (o2.lt g hg).2
  have := hb g hm
  omega
theorem NS.only {Bl Bs Bb Bo gS gB base m : Nat} {lv : Value} {n : Nat} {F : List Nat} {Q : Nat → Option (List Int)} {O : List Int} {w w' : World} (h : NS Bl Bs Bb Bo gS gB base m lv n F Q O w) {bs : List Nat} (ho : Only bs w w') (hm : ∀ r ∈ bs, m ≤ r) (hf : OffO Bo bs w) (hlt : Bl < m ∧ Bs < m ∧ Bb < m ∧ Bo < m ∧ gS < m ∧ gB < m) :
    NS Bl Bs Bb Bo gS gB base m lv n F Q O w' ∧ OffO Bo bs w' := by
  obtain ⟨v, o1, o2, o3⟩ := h.op
  obtain ⟨T, t1, t2, t3⟩ := h.bef
  have hn : ∀ a, a < m → a ∉ bs := fun a ha hb => by have := hm a hb; omega
  have o1' : Boxed w' Bo 23 v := (ho.block _ o1.lt (hn _ hlt.2.2.2.1)).trans o1
  refine ⟨⟨(ho.block _ h.l.lt (hn _ hlt.1)).trans h.l, (ho.block _ h.bs.lt (hn _ hlt.2.1)).trans h.bs, (ho.block _ h.bb.lt (hn _ hlt.2.2.1)).trans h.bb, h.seen.only ho (hn _ hlt.2.2.2.2.1), ⟨T, t1, t2.only ho (hn _ hlt.2.2.2.2.2), fun i hi => (t3 i hi).only ho hm⟩, ⟨v, o1', o2.only ho (hf v o1), o3⟩,
    ⟨h.lo.1, h.lo.2.1, h.lo.2.2.1, Nat.le_trans h.lo.2.2.2 ho.size⟩, fun r hr => ⟨Nat.lt_of_lt_of_le (h.fr r hr).1 ho.size, (h.fr r hr).2⟩⟩, fun v' hv' => ?_⟩
  have := o1'.symm.trans hv'
  simp only [Option.some.injEq, Obj.cells.injEq, Array.mk.injEq, List.cons.injEq, and_true] at this
  subst this
  exact hf v o1
theorem NS.more {Bl Bs Bb Bo gS gB base m : Nat} {lv : Value} {n : Nat} {F : List Nat} {Q : Nat → Option (List Int)} {O : List Int} {w : World} (h : NS Bl Bs Bb Bo gS gB base m lv n F Q O w) (bs : List Nat) (hf : OffO Bo bs w) (hb : ∀ r ∈ bs, r < w.heap.size ∧ r ≠ gS ∧ r ≠ gB ∧ r ≠ Bo) : NS Bl Bs Bb Bo gS gB base m lv n (bs ++ F) Q O w := by
  obtain ⟨v, o1, o2, o3⟩ := h.op
  exact ⟨h.l, h.bs, h.bb, h.seen, h.bef, ⟨v, o1, o2, fun g hg hm => by
    rcases List.mem_append.1 hm with q | q
    · exact hf v o1 g hg q
    · exact o3 g hg q⟩, h.lo, fun r hr => (List.mem_append.1 hr).elim (hb r) (h.fr r)⟩
theorem NS.less {Bl Bs Bb Bo gS gB base m : Nat} {lv : Value} {n : Nat} {F : List Nat} {Q : Nat → Option (List Int)} {O : List Int} {w : World} {bs : List Nat} (h : NS Bl Bs Bb Bo gS gB base m lv n (bs ++ F) Q O w) : NS Bl Bs Bb Bo gS gB base m lv n F Q O w ∧ OffO Bo bs w := by
  obtain ⟨v, o1, o2, o3⟩ := h.op
  refine ⟨⟨h.l, h.bs, h.bb, h.seen, h.bef, ⟨v, o1, o2, fun g hg hm => o3 g hg (by simp [hm])⟩, h.lo, fun r hr => h.fr r (by simp [hr])⟩, fun v' hv' => ?_⟩
  have := o1.symm.trans hv'
  simp only [Option.some.injEq, Obj.cells.injEq, Array.mk.injEq, List.cons.injEq, and_true] at this
  subst this
  exact fun g hg hm => o3 g hg (by simp [hm])
theorem NS.mono {Bl Bs Bb Bo gS gB base m m' : Nat} {lv : Value} {n : Nat} {F : List Nat} {Q : Nat → Option (List Int)} {O : List Int} {w : World} (h : NS Bl Bs Bb Bo gS gB base m lv n F Q O w) (hm : m ≤ m') : NS Bl Bs Bb Bo gS gB base m' lv n F Q O w := by
  obtain ⟨T, t1, t2, t3⟩ := h.bef
  exact ⟨h.l, h.bs, h.bb, h.seen, ⟨T, t1, t2, fun i hi => (t3 i hi).mono hm⟩, h.op, h.lo, h.fr⟩
theorem NS.lts {Bl Bs Bb Bo gS gB base m : Nat} {lv : Value} {n : Nat} {F : List Nat} {Q : Nat → Option (List Int)} {O : List Int} {w : World} (h : NS Bl Bs Bb Bo gS gB base m lv n F Q O w) : Bl < w.heap.size ∧ Bs < w.heap.size ∧ Bb < w.heap.size ∧ Bo < w.heap.size ∧ gS < w.heap.size ∧ gB < w.heap.size := by
  obtain ⟨v, o1, _, _⟩ := h.op
  obtain ⟨T, _, t2, _⟩ := h.bef
  exact ⟨h.l.lt, h.bs.lt, h.bb.lt, o1.lt, h.seen.lt, t2.lt⟩
/-- Blocks that a region makes: address, type, cells. -/
def MkF (z0 : Nat) (w0 : World) (L : List (Nat × TypeId × Array Value)) (W : World) : Prop := z0 ≤ w0.heap.size ∧ Below z0 w0 W ∧ ∀ e ∈ L, z0 ≤ e.1 ∧ Blk W e.1 e.2.1 e.2.2
theorem MkF.start {z0 : Nat} {w0 : World} (h : w0.heap.size = z0) : MkF z0 w0 [] w0 := ⟨by omega, Below.refl _ _, fun _ h => by cases h⟩
theorem MkF.alloc {z0 : Nat} {w0 W : World} {L : List (Nat × TypeId × Array Value)} (M : MkF z0 w0 L W) {A : Nat} {lv : Value} (hS : W.cell? ⟨A, 0, none⟩ = some lv) (ty : TypeId) (cs : Array Value) {a : Nat} (ha : a = W.heap.size) :
    ∃ W', W.alloc (.cells cs ty) = W' ∧ W'.cell? ⟨A, 0, none⟩ = some lv ∧ Hid (MkF z0 w0 ((a, ty, cs) :: L) W') := by
  subst ha
  have hz := M.2.1.size
  have h0 := M.1
  refine ⟨_, rfl, (World.cell?_alloc_some _ _ _ (by rw [hS]; rfl)).trans hS, Lib.hid ⟨M.1, M.2.1.alloc (by omega) _, fun e he => ?_⟩⟩
  rcases List.mem_cons.1 he with rfl | he
  · exact ⟨by omega, Blk.new _ _ _⟩
  · exact ⟨(M.2.2 e he).1, (M.2.2 e he).2.alloc _⟩
theorem MkF.store {z0 : Nat} {w0 W : World} {L : List (Nat × TypeId × Array Value)} (M : MkF z0 w0 L W) {A : Nat} {lv : Value} (hS : W.cell? ⟨A, 0, none⟩ = some lv) (hA : A < z0) {p : Nat} {T : TypeId} {cs : Array Value} (hp : (p, T, cs) ∈ L) (hc : cs.size = 1) (v : Value) :
    ∃ W', W.setCell ⟨p, 0, none⟩ v = W' ∧ W'.cell? ⟨A, 0, none⟩ = some lv ∧ Hid (MkF z0 w0 ((p, T, #[v]) :: L.filter (fun e => decide (e.2.1 ≠ T))) W') := by
  obtain ⟨h1, h2⟩ := M.2.2 _ hp
  dsimp only at h1 h2
  refine ⟨_, rfl, (World.cell?_setCell_far W ⟨p, 0, none⟩ ⟨A, 0, none⟩ _ (by show p ≠ A; omega)).trans hS, Lib.hid ⟨M.1, M.2.1.setCell (p := ⟨p, 0, none⟩) h1 v, fun e he => ?_⟩⟩
  rcases List.mem_cons.1 he with rfl | he
  · refine ⟨h1, ?_⟩
    have := h2.set_ 0 v
    have hcs : cs.setIfInBounds 0 v = #[v] := by
      apply Array.ext
      · simp [hc]
      · intro j a b
        simp [hc] at a
        subst a
        simp []
    rwa [hcs] at this
  · obtain ⟨he1, he2⟩ := List.mem_filter.1 he
    obtain ⟨q1, q2⟩ := M.2.2 e he1
    exact ⟨q1, q2.far (p := ⟨p, 0, none⟩) (blk_ne q2 h2 (of_decide_eq_true he2)) v⟩
theorem MkF.at {z0 : Nat} {w0 W : World} {L : List (Nat × TypeId × Array Value)} (M : MkF z0 w0 L W) {p : Nat} {T : TypeId} {cs : Array Value} (hp : (p, T, cs) ∈ L) : z0 ≤ p ∧ Blk W p T cs := M.2.2 _ hp
theorem MkF.one {z0 : Nat} {w0 W : World} {L : List (Nat × TypeId × Array Value)} (M : MkF z0 w0 L W) {p : Nat} {T : TypeId} {v : Value} (hp : (p, T, #[v]) ∈ L) : W.cell? ⟨p, 0, none⟩ = some v ∧ W.frozen? ⟨p, 0, none⟩ = false := ⟨(M.2.2 _ hp).2.cell 0, (M.2.2 _ hp).2.frozen 0⟩
end Go.Proofs.YtekfnonjhcfdmaaDoor
