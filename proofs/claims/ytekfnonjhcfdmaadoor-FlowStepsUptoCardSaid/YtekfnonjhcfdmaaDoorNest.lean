/- flow's lists of open handlers: open, same, list. -/
import Derived.Test.YtekfnonjhcfdmaaDoorNext
import Derived.Test.YtekfnonjhcfdmaaDoorSames
import Derived.LaidEqlPtr
import Derived.Deep.RegionWith
import Derived.Deep.DeepCutAuto
import Derived.Deep.RegionHeld
import Derived.StillTailTactics
namespace Go.Proofs.YtekfnonjhcfdmaaDoor
open Go.RowKit Go.Rt Go.Rw

theorem info71 : ∃ j, Tryd.prog.info? 71 = some j ∧ j.size = 3 := by
  have h : (Tryd.prog.info? 71).map (·.size) = some 3 := by kernel_rfl
  rw [Option.map_eq_some_iff] at h
  exact h
theorem und69 : Tryd.prog.underlying 69 = some (.pointer 71) := by kernel_rfl
theorem ptr_same (a : Addr) (W : World) : (binOp .neq 69 (.pointer (some a)) (.pointer (some a))).run Tryd.prog W = .ok (.bool false) W := by
  obtain ⟨j, hj, _⟩ := info71
  have h : ∀ d : Nat, (Op.equalIn (d + 1) 69 (.pointer (some a)) (.pointer (some a))).run Tryd.prog W = .ok true W := fun d => by
    simp [Op.equalIn, run_underlying und69, sizeOf, typeInfo, hj, run_sameAddr_same]
  simp only [binOp]
  simp [Op.equal, Op.maxDepth, h 9999]
theorem ptr_other {a b : Nat} {W : World} {ca cb : Array Value} (hne : a ≠ b) (ha : Blk W a 71 ca) (hb : Blk W b 71 cb) : (binOp .neq 69 (.pointer (some ⟨a, 0, none⟩)) (.pointer (some ⟨b, 0, none⟩))).run Tryd.prog W = .ok (.bool true) W := by
  obtain ⟨j, hj, hs⟩ := info71
  have hne' : (⟨a, 0, none⟩ : Addr) ≠ ⟨b, 0, none⟩ := fun e => hne (by cases e; rfl)
  have h : ∀ d : Nat, (Op.equalIn (d + 1) 69 (.pointer (some ⟨a, 0, none⟩)) (.pointer (some ⟨b, 0, none⟩))).run Tryd.prog W = .ok false W := fun d => by
    simp [Op.equalIn, run_underlying und69, sizeOf, typeInfo, hj, hs, run_sameAddr_other W hne' ha hb]
  simp only [binOp]
  simp [Op.equal, Op.maxDepth, h 9999]
theorem ptr_nil (b : Addr) (W : World) : (binOp .neq 69 (.pointer none) (.pointer (some b))).run Tryd.prog W = .ok (.bool true) W := by
  have h : ∀ d : Nat, (Op.equalIn (d + 1) 69 (.pointer none) (.pointer (some b))).run Tryd.prog W = .ok false W := fun d => by
    simp [Op.equalIn, run_underlying und69]
  simp only [binOp]
  simp [Op.equal, Op.maxDepth, h 9999]
/-- A list of handlers in memory, the last one first. -/
def NestAt (W : World) : List Int → Value → Prop
  | [], v => v = .pointer none
  | a :: r, v => ∃ b outer, v = .pointer (some ⟨b, 0, none⟩) ∧ Blk W b 71 #[.int .i64 a, outer, .int .i64 (wrap64 (r.length + 1))] ∧ NestAt W r outer
/-- No such cell turns. -/
def Keep71 (w w' : World) : Prop := ∀ g cs, Blk w g 71 cs → Blk w' g 71 cs
theorem Keep71.trans {a b c : World} (h : Keep71 a b) (k : Keep71 b c) : Keep71 a c := fun g cs hb => k g cs (h g cs hb)
theorem Keep71.refl (a : World) : Keep71 a a := fun _ _ h => h
theorem Keep71.below {m : Nat} {w w' : World} (hb : Below m w w') (hm : w.heap.size ≤ m) : Keep71 w w' := fun _ _ h => (hb.block _ (Nat.lt_of_lt_of_le h.lt hm)).trans h
theorem Keep71.set {w : World} {b j : Nat} {t : TypeId} {cs : Array Value} (h : Blk w b t cs) (ht : t ≠ 71) (v : Value) : Keep71 w (w.setCell ⟨b, j, none⟩ v) := fun _ _ hg => hg.far (fun e => by
  subst e
  have := hg.symm.trans h
  simp only [Option.some.injEq, Obj.cells.injEq] at this
  exact ht this.2.1.symm) v
theorem NestAt.keep {w w' : World} (hk : Keep71 w w') : ∀ (r : List Int) (v : Value), NestAt w r v → NestAt w' r v
  | [], _, h => h
  | _ :: r, _, ⟨b, o, h1, h2, h3⟩ => ⟨b, o, h1, hk _ _ h2, NestAt.keep hk r o h3⟩
/-- One value, one list. -/
theorem NestAt.one {w : World} : ∀ (r s : List Int) (v : Value), NestAt w r v → NestAt w s v → r = s
  | [], [], _, _, _ => rfl
  | [], _ :: _, _, h, ⟨b, o, k, _⟩ => by rw [show _ = Value.pointer none from h] at k; cases k
  | _ :: _, [], _, ⟨b, o, k, _⟩, h => by rw [show _ = Value.pointer none from h] at k; cases k
  | a :: r, c :: s, v, ⟨b, o, h1, h2, h3⟩, ⟨b', o', k1, k2, k3⟩ => by
    rw [h1] at k1
    cases k1
    have := h2.symm.trans k2
    simp only [Option.some.injEq, Obj.cells.injEq, Array.mk.injEq, List.cons.injEq, and_true, Value.int.injEq, true_and] at this
    obtain ⟨e1, rfl, _⟩ := this
    rw [e1, NestAt.one r s o h3 k3]
open Classical in
/-- How many. -/
noncomputable def nestN (W : World) (v : Value) : Nat := if h : ∃ r, NestAt W r v then h.choose.length else 0
theorem NestAt.len {w : World} {r : List Int} {v : Value} (h : NestAt w r v) : nestN w v = r.length := by
  have he : ∃ r, NestAt w r v := ⟨r, h⟩
  unfold nestN
  rw [dif_pos he, NestAt.one _ _ _ he.choose_spec h]
theorem NestAt.drewN {w : World} {r : List Int} {v : Value} (h : NestAt w r v) (n : Nat) : NestAt (w.drewN n) r v := NestAt.keep (w := w) (w' := w.drewN n) (fun _ _ q => q.drewN n) _ _ h
theorem NestAt.keepB {w w' : World} {r : List Int} {v : Value} (h : NestAt w r v) (hb : Below w.heap.size w w') : NestAt w' r v := NestAt.keep (Keep71.below hb (Nat.le_refl _)) _ _ h
/-- .. whose cells lie below m. -/
def NestB (W : World) (m : Nat) : List Int → Value → Prop
  | [], v => v = .pointer none
  | a :: r, v => ∃ b outer, v = .pointer (some ⟨b, 0, none⟩) ∧ b < m ∧ Blk W b 71 #[.int .i64 a, outer, .int .i64 (wrap64 (r.length + 1))] ∧ NestB W m r outer
theorem NestB.at {w : World} {m : Nat} : ∀ {r : List Int} {v : Value}, NestB w m r v → NestAt w r v
  | [], _, h => h
  | _ :: _, _, ⟨b, o, h1, _, h2, h3⟩ => ⟨b, o, h1, h2, NestB.at h3⟩
theorem NestAt.lows {w : World} {m : Nat} (hm : w.heap.size ≤ m) : ∀ {r : List Int} {v : Value}, NestAt w r v → NestB w m r v
  | [], _, h => h
  | _ :: _, _, ⟨b, o, h1, h2, h3⟩ => ⟨b, o, h1, Nat.lt_of_lt_of_le h2.lt hm, h2, NestAt.lows hm h3⟩
theorem NestB.mono {w : World} {m m' : Nat} (hm : m ≤ m') : ∀ {r : List Int} {v : Value}, NestB w m r v → NestB w m' r v
  | [], _, h => h
  | _ :: _, _, ⟨b, o, h1, h0, h2, h3⟩ => ⟨b, o, h1, Nat.lt_of_lt_of_le h0 hm, h2, NestB.mono hm h3⟩
theorem NestB.keep {w w' : World} {m : Nat} (hk : Keep71 w w') : ∀ {r : List Int} {v : Value}, NestB w m r v → NestB w' m r v
  | [], _, h => h
  | _ :: _, _, ⟨b, o, h1, h0, h2, h3⟩ => ⟨b, o, h1, h0, hk _ _ h2, NestB.keep hk h3⟩
theorem NestB.only {w w' : World} {m : Nat} {bs : List Nat} (ho : Only bs w w') (hb : ∀ r ∈ bs, m ≤ r) : ∀ {r : List Int} {v : Value}, NestB w m r v → NestB w' m r v
  | [], _, h => h
  | _ :: _, _, ⟨b, o, h1, h0, h2, h3⟩ => ⟨b, o, h1, h0, h2.only ho (fun hm => by have := hb b hm; omega), NestB.only ho hb h3⟩
set_option maxRecDepth 100000 in
set_option maxHeartbeats 4000000 in
theorem open55 (r : List Int) (u : Value) (goal : Int) (w : World) (h : NestAt w r u) : Calls Tryd.prog 55 #[u, .int .i64 goal] w fun e w' => ∃ v, e = .returned v ∧ NestAt w' (goal :: r) v ∧ Below w.heap.size w w' := by
  cases r with
  | nil =>
    obtain rfl : u = .pointer none := h
    have X := Lib.hid (Blk.new w 71 #[.int .i64 goal, .pointer none, .int .i64 1])
    have B := Lib.hid ((Below.refl w.heap.size w).alloc (Nat.le_refl _) (.cells #[.int .i64 goal, .pointer none, .int .i64 1] 71))
    go_enter Tryd.func55, Tryd.ntmps55
    go_wp2_with fail
    go_ret
    exact ⟨_, rfl, ⟨_, _, rfl, by rw [show wrap64 (([] : List Int).length + 1) = 1 by simp [wrap64]]; exact X.out, rfl⟩, B.out⟩
  | cons a r =>
    obtain ⟨b, o, rfl, h2, h3⟩ := h
    obtain ⟨d, hd⟩ : ∃ d, d = wrap64 (r.length + 1) := ⟨_, rfl⟩
    have h2' := h2
    rw [← hd] at h2'
    have c2 := h2'.cell 2
    have hd2 : Hid (wrap64 (d + 1) = wrap64 ((a :: r).length + 1)) := Lib.hid (by rw [hd, List.length_cons]; unfold wrap64; omega)
    simp only [List.getElem?_toArray, List.getElem?_cons_succ, List.getElem?_cons_zero] at c2
    have H2 := Lib.hid h2
    have H3 := Lib.hid h3
    have X := Lib.hid (Blk.new w 71 #[.int .i64 goal, .pointer (some ⟨b, 0, none⟩), .int .i64 (wrap64 (d + 1))])
    have B := Lib.hid ((Below.refl w.heap.size w).alloc (Nat.le_refl _) (.cells #[.int .i64 goal, .pointer (some ⟨b, 0, none⟩), .int .i64 (wrap64 (d + 1))] 71))
    clear h2 h3 hd h2'
    go_enter Tryd.func55, Tryd.ntmps55
    go_wp2_with fail
    go_ret
    have KB := Keep71.below B.out (Nat.le_refl _)
    exact ⟨_, rfl, ⟨_, _, rfl, by rw [← hd2.out]; exact X.out, ⟨_, _, rfl, KB _ _ H2.out, H3.out.keep KB⟩⟩, B.out⟩
set_option maxRecDepth 100000 in
set_option maxHeartbeats 4000000 in
theorem list46 (r : List Int) (u : Value) (w : World) (h : NestAt w r u) (hl : r.length ≤ 1000000000000) : Calls Tryd.prog 46 #[u] w (NsR r.reverse w) := by
  have H := Lib.hid h
  clear h
  go_enter Tryd.func46, Tryd.ntmps46
  go_wp2_with fail
  go_loopw [0, 3] (fun u z wr => ∃ (s q : List Int) (sa : Option Addr) (co : Nat), Hid (r = q ++ s) ∧ Hid (NestAt wr s u) ∧ z = .slice sa q.length co ∧ Hid (Sl wr w.heap.size 3 1 inC (.slice sa q.length co) q) ∧ Hid (Below w.heap.size w wr)) (fun u z _ => match z with | .slice _ n _ => r.length - n | _ => 0)
  case atStart => exact ⟨r, [], none, 0, Lib.hid rfl, H, rfl, Lib.hid (Sl.nil _ _ _ _ _), Lib.hid (Below.refl _ _)⟩
  case round =>
    obtain ⟨s, q, sa, co, hr, hn, rfl, hs, hb⟩ := hrel
    clear H
    cases s with
    | nil =>
      obtain rfl : _ = Value.pointer none := hn.out
      have HQ : Hid (r.reverse = q.reverse) := Lib.hid (by rw [hr.out, List.append_nil])
      have hql : q.length ≤ 1000000000000 := by have := congrArg List.length hr.out; simp at this; omega
      go_wp2_with fail
      refine (rev62 hs.out (by omega)).mono ?_
      rintro e w1 ⟨rfl, s1, g1⟩
      have B1 := Lib.hid (hb.out.grown g1 hb.out.size (fun j hj => (hs.out.lt j hj).1))
      have S1 := Lib.hid s1
      clear s1 g1 hs
      go_wp2_with fail
      go_ret
      exact ⟨B1.out, _, rfl, by rw [HQ.out]; exact S1.out⟩
    | cons a s =>
      obtain ⟨b, o, rfl, h2, h3⟩ := hn.out
      have hql : q.length + 1 ≤ 1000000000000 := by have := congrArg List.length hr.out; simp at this; omega
      have c0 := h2.cell 0
      simp only [List.getElem?_toArray, List.getElem?_cons_zero] at c0
      have hwb := hb.out.size
      obtain ⟨g, cap, W2, hrun, sl2, hgrow, _⟩ := sl_push_in (hs.out.only (bs := []) (Only.alloc [] wr (.cells #[.int .i64 a] 3)) (fun g hg hm => by cases hm)) a wr.heap.size (Blk.new wr 3 _) (by omega) (by simp; omega)
      have K2 : Keep71 wr W2 := fun g' cs hg => (hgrow.block g' (by have := hg.lt; simp; omega) (fun e => by
        rcases hs.out.2 with ⟨q1, _⟩ | ⟨g2, cap2, cur, q1, _, q3, _⟩
        · rw [q1] at e
          simp [Value.ownBlock] at e
        · rw [q1] at e
          simp only [Value.ownBlock, Option.some.injEq] at e
          subst e
          have := hg.symm.trans q3
          simp at this)).trans (hg.alloc _)
      have B2 : Hid (Below w.heap.size w W2) := Lib.hid (hb.out.trans (((Below.refl w.heap.size wr).alloc hwb _).grown hgrow (by simp; omega) (fun j hj => (hs.out.lt j hj).1)))
      have c1 := (K2 _ _ h2).cell 1
      simp only [List.getElem?_toArray, List.getElem?_cons_zero, List.getElem?_cons_succ] at c1
      have N2 := Lib.hid (h3.keep K2)
      have SL2 := Lib.hid sl2
      have HRN := Lib.hid hrun
      clear hrun sl2 hgrow K2 h2 h3 hn hs hb
      go_wp2_with (at_builtin; refine wpList_append_run rfl _ _ 23 23 rfl rfl rfl HRN.out ?_)
      go_roundw
      case rel => exact ⟨s, q ++ [a], some ⟨g, 0, none⟩, cap, Lib.hid (by rw [hr.out]; simp), N2, by simp, by simpa using SL2, B2⟩
      case measure => have := congrArg List.length hr.out; simp at this; simp; omega
set_option maxRecDepth 100000 in
set_option maxHeartbeats 4000000 in
theorem same54 (r s : List Int) (u v : Value) (w : World) (h : NestAt w r u) (k : NestAt w s v) : Calls Tryd.prog 54 #[u, v] w fun e w' => e = .returned (.bool (decide (r = s))) ∧ Below w.heap.size w w' := by
  have H := Lib.hid h
  have K := Lib.hid k
  clear h k
  go_enter Tryd.func54, Tryd.ntmps54
  go_wp2_with fail
  go_loopw [0, 1] (fun u v wr => ∃ (r' s' : List Int), Hid (decide (r = s) = decide (r' = s')) ∧ Hid (NestAt wr r' u) ∧ Hid (NestAt wr s' v) ∧ Hid (Below w.heap.size w wr)) (fun u v wr => nestN wr u)
  case atStart => exact ⟨r, s, Lib.hid rfl, H, K, Lib.hid (Below.refl _ _)⟩
  case round =>
    obtain ⟨r', s', he, hn, hm, hb⟩ := hrel
    clear H K
    cases r' with
    | nil =>
      obtain rfl : _ = Value.pointer none := hn.out
      cases s' with
      | nil =>
        obtain rfl : _ = Value.pointer none := hm.out
        go_wp2_with fail
        go_ret
        exact ⟨by rw [he.out]; rfl, hb.out⟩
      | cons c s' =>
        obtain ⟨b, o, rfl, k2, k3⟩ := hm.out
        have HE : Hid (decide (r = s) = false) := Lib.hid (by rw [he.out]; simp)
        have hpq := fun (W : World) => ptr_nil ⟨b, 0, none⟩ W
        clear k2 k3 hn hm he
        go_wp2_with fail
        go_quiet (fail)
        go_wp2_with fail
        go_ret
        exact ⟨by rw [HE.out]; rfl, below_drewN hb.out _⟩
    | cons a r' =>
      obtain ⟨b, o, rfl, h2, h3⟩ := hn.out
      cases s' with
      | nil =>
        obtain rfl : _ = Value.pointer none := hm.out
        have HE : Hid (decide (r = s) = false) := Lib.hid (by rw [he.out]; simp)
        clear h2 h3 hn hm he
        go_wp2_with fail
        go_quiet (fail)
        go_wp2_with fail
        go_ret
        exact ⟨by rw [HE.out]; rfl, below_drewN hb.out _⟩
      | cons c s' =>
        obtain ⟨b', o', rfl, k2, k3⟩ := hm.out
        by_cases hbb : b = b'
        · subst hbb
          have HE : Hid (decide (r = s) = true) := Lib.hid (by rw [he.out, decide_eq_true_eq]; exact NestAt.one _ _ _ hn.out hm.out)
          have hpq := fun (W : World) => ptr_same ⟨b, 0, none⟩ W
          clear h2 h3 k2 k3 hn hm he
          go_wp2_with fail
          go_ret
          exact ⟨by rw [HE.out]; rfl, hb.out⟩
        · have hpq := ptr_other hbb h2 k2
          obtain ⟨d, hd⟩ : ∃ d, d = wrap64 (r'.length + 1) := ⟨_, rfl⟩
          obtain ⟨d', hd'⟩ : ∃ d, d = wrap64 (s'.length + 1) := ⟨_, rfl⟩
          rw [← hd] at h2
          rw [← hd'] at k2
          have c0 := h2.cell 0
          have c1 := h2.cell 1
          have c2 := h2.cell 2
          have e0 := k2.cell 0
          have e1 := k2.cell 1
          have e2 := k2.cell 2
          simp only [List.getElem?_toArray, List.getElem?_cons_succ, List.getElem?_cons_zero] at c0 c1 c2 e0 e1 e2
          have H3 := Lib.hid h3
          have K3 := Lib.hid k3
          have HL : Hid (nestN wr o < nestN wr (.pointer (some ⟨b, 0, none⟩))) := Lib.hid (by rw [hn.out.len, h3.len]; simp)
          clear h2 h3 k2 k3 hn hm
          by_cases hdd : d = d'
          · by_cases hac : a = c
            · have HE : Hid (decide (r = s) = decide (r' = s')) := Lib.hid (by rw [he.out, hac]; simp)
              subst hdd
              subst hac
              clear hd hd' he
              go_wp2_with fail
              go_quiet (fail)
              have c1' : (wr.drewN nq).cell? ⟨b, 1, none⟩ = some o := c1
              have e1' : (wr.drewN nq).cell? ⟨b', 1, none⟩ = some o' := e1
              have BX := Lib.hid (below_drewN hb.out nq)
              have H3' := Lib.hid (H3.out.drewN nq)
              have K3' := Lib.hid (K3.out.drewN nq)
              have HL' : Hid (nestN (wr.drewN nq) o < nestN wr (.pointer (some ⟨b, 0, none⟩))) := Lib.hid (by rw [H3'.out.len, ← H3.out.len]; exact HL.out)
              clear c0 c1 c2 e0 e1 e2 hb H3 K3 HL hpq
              generalize wr.drewN nq = w2 at *
              go_wp2_with fail
              go_quiet (fail)
              have BY := Lib.hid (below_drewN BX.out nq)
              have H4 := Lib.hid (H3'.out.drewN nq)
              have K4 := Lib.hid (K3'.out.drewN nq)
              have HL4 : Hid (nestN (w2.drewN nq) o < nestN wr (.pointer (some ⟨b, 0, none⟩))) := Lib.hid (by rw [H4.out.len, ← H3'.out.len]; exact HL'.out)
              go_wp2_with fail
              go_roundw
              case rel => exact ⟨r', s', HE, H4, K4, BY⟩
              case measure => exact HL4.out
            · have HE : Hid (decide (r = s) = false) := Lib.hid (by rw [he.out]; simp [hac])
              have dn := i64_bne a c hac
              subst hdd
              clear hd hd' he hac
              go_wp2_with fail
              go_quiet (fail)
              go_wp2_with fail
              go_ret
              exact ⟨by rw [HE.out]; rfl, below_drewN hb.out _⟩
          · have HE : Hid (decide (r = s) = false) := Lib.hid (by rw [he.out, decide_eq_false_iff_not]; intro q; rw [List.cons.injEq] at q; exact hdd (by rw [hd, hd', q.2]))
            have dn := i64_bne d d' hdd
            clear hd hd' he hdd
            go_wp2_with fail
            go_quiet (fail)
            go_wp2_with fail
            go_ret
            exact ⟨by rw [HE.out]; rfl, below_drewN hb.out _⟩
end Go.Proofs.YtekfnonjhcfdmaaDoor
