/- kit.Great over one term: what it lets by has few nodes and short strings. -/
import Derived.Test.YtoaimoemaoinhaaGreatDoorRform
namespace Go.Proofs.YtoaimoemaoinhaaGreatDoor
open Go.RowKit Go.Rt Go.Rw

mutual
/-- The number of nodes. -/
def cnt : Tm → Nat
  | .mk _ l => 1 + cntL l
def cntL : List Tm → Nat
  | [] => 0
  | t :: r => cnt t + cntL r
end
def smallF (f : Fl) : Prop := f.nm.size ≤ 6000 ∧ f.fn.size ≤ 6000 ∧ f.bs.size ≤ 6000
mutual
def smallT : Tm → Prop
  | .mk f l => smallF f ∧ smallL l
def smallL : List Tm → Prop
  | [] => True
  | t :: r => smallT t ∧ smallL r
end
theorem cntL_take (l : List Tm) (k : Nat) (hk : k < l.length) : cntL (l.take (k + 1)) = cntL (l.take k) + cnt l[k] := by
  induction l generalizing k with
  | nil => simp at hk
  | cons t r ih =>
    cases k with
    | zero => simp [cntL]
    | succ k => simp [cntL, ih k (by simpa using hk)]; omega
theorem smallL_take (l : List Tm) (k : Nat) (hk : k < l.length) : smallL (l.take (k + 1)) ↔ (smallL (l.take k) ∧ smallT l[k]) := by
  induction l generalizing k with
  | nil => simp at hk
  | cons t r ih =>
    cases k with
    | zero => simp [smallL]
    | succ k => simp [smallL, ih k (by simpa using hk), and_assoc]
/-- What kit.left says of terms. -/
def LeftR (l : List Tm) (most : Int) (w : World) (e : Ending) (w' : World) : Prop :=
  ∃ v : Int, e = .returned (.int .i64 v) ∧ (-1 ≤ v ∧ v ≤ most) ∧ (0 ≤ v → smallL l ∧ (cntL l : Int) + v ≤ most) ∧ Below w.heap.size w w'
set_option maxRecDepth 100000 in
set_option maxHeartbeats 2000000 in
theorem left_core (S : Nat → Prop) (l : List Tm) (v : Value) (most : Int) (w : World) (hl : ItsAt S w l v) (hm : -1 ≤ most ∧ most ≤ 6000)
    (ih : ∀ t ∈ l, ∀ (u : Value) (W : World) (m : Int), ItsAt S W t.l u → -1 ≤ m ∧ m ≤ 6000 → Calls Tryz.prog 87 #[u, .int .i64 m] W (LeftR t.l m W)) :
    Calls Tryz.prog 87 #[v, .int .i64 most] w (LeftR l most w) := by
  obtain ⟨hmx, sa, cap, rfl⟩ := hl.form
  have HL := Lib.hid hl
  have IH := Lib.hid ih
  have HM := Lib.hid hm
  obtain ⟨len, hlen⟩ : ∃ len, len = l.length := ⟨_, rfl⟩
  rw [← hlen] at HL hmx ⊢
  have HLEN := Lib.hid hlen
  clear hl ih hm hlen
  go_enter Tryz.func87, Tryz.ntmps87
  go_wp2_with fail
  go_loopw [1, 5] (fun s i wr => ∃ c : Nat, ∃ m : Int, c ≤ len ∧ i = .int .i64 c ∧ s = .int .i64 m ∧ (-1 ≤ m ∧ m ≤ most) ∧ Hid (0 ≤ m → smallL (l.take c) ∧ (cntL (l.take c) : Int) + m ≤ most) ∧ Below w.heap.size w wr) (fun _ i _ => len - (intOf i).toNat)
  case atStart => exact ⟨0, most, Nat.zero_le _, rfl, rfl, ⟨HM.out.1, Int.le_refl _⟩, Lib.hid (fun _ => ⟨trivial, by simp [cntL]⟩), Below.refl _ _⟩
  case round =>
    obtain ⟨c, m, hc, rfl, rfl, hm, HS, bw⟩ := hrel
    have BW := Lib.hid bw
    clear bw
    by_cases hm0 : m < 0
    · obtain rfl : m = -1 := by omega
      by_cases hlt : c < len
      · go_wp2_with fail
        go_ret
        exact ⟨-1, rfl, hm, fun h => by omega, BW.out⟩
      · go_wp2_with fail
        go_ret
        exact ⟨-1, rfl, hm, fun h => by omega, BW.out⟩
    · obtain ⟨q, rfl⟩ := Int.eq_ofNat_of_zero_le (by omega : 0 ≤ m)
      clear hm0
      have HS2 := Lib.hid (HS.out (by omega))
      have HMQ := Lib.hid hm
      have hq : q ≤ 6000 := by have := HM.out; omega
      clear hm HS
      by_cases hlt : c < len
      · have hlt2 : c < l.length := by rw [← HLEN.out]; exact hlt
        obtain ⟨b, o, rfl, hb, _, hcc⟩ := HL.out.get (by omega)
        obtain ⟨x, hx, hcx⟩ := hcc c hlt2
        obtain ⟨e2, sx, cx, vx⟩ := hx.its.2.form
        have e1 := hx.its.1
        obtain ⟨⟨xk, xn, xg, xnm, xfn, xar, xbs, xbt⟩, xv⟩ := x
        dsimp only at vx e1
        subst vx
        have A1 := Lib.hid (hx.below BW.out (fun b _ h => h))
        obtain ⟨p0, p1, p2, p3, p4, p5, p6, p7, p8⟩ := cells9 (W := wr) (b := b) (p := o + c * 9) (x := ⟨⟨xk, xn, xg, xnm, xfn, xar, xbs, xbt⟩, .slice sx l[c].l.length cx⟩) (fun j hj => by rw [← hcx j hj]; exact BW.out.cell (p := ⟨b, _, none⟩) hb)
        dsimp only at p0 p1 p2 p3 p4 p5 p6 p7 p8
        have IK := Lib.hid (fun (W : World) (m : Int) (a1 : ItsAt S W l[c].l (.slice sx l[c].l.length cx)) (a2 : -1 ≤ m ∧ m ≤ 6000) => IH.out l[c] (List.getElem_mem hlt2) (.slice sx l[c].l.length cx) W m a1 a2)
        have HF : Hid (l[c] = .mk ⟨xk, xn, xg, xnm, xfn, xar, xbs, xbt⟩ l[c].l) := Lib.hid (by rw [e1]; exact Tm.eta _)
        have A2 := Lib.hid A1.out.its.2
        dsimp only at A2
        obtain ⟨tl, htl⟩ : ∃ tl, tl = l[c].l := ⟨_, rfl⟩
        rw [← htl] at IK A2 HF p6
        generalize tl.length = lx at IK A2 p6
        clear hcc hcx hx e1 e2 htl A1
        by_cases h1 : q < xnm.size
        · have d1 : decide (q < xnm.size) = true := decide_eq_true (by omega)
          go_wp2_with fail
          go_ret
          exact ⟨-1, rfl, ⟨by omega, by have := HMQ.out; omega⟩, fun h => by omega, BW.out.alloc BW.out.size _⟩
        · have d1 : decide (q < xnm.size) = false := decide_eq_false (by omega)
          by_cases h2 : q < xfn.size
          · have d2 : decide (q < xfn.size) = true := decide_eq_true (by omega)
            go_wp2_with fail
            go_ret
            exact ⟨-1, rfl, ⟨by omega, by have := HMQ.out; omega⟩, fun h => by omega, BW.out.alloc BW.out.size _⟩
          · have d2 : decide (q < xfn.size) = false := decide_eq_false (by omega)
            by_cases h3 : q < xbs.size
            · have d3 : decide (q < xbs.size) = true := decide_eq_true (by omega)
              go_wp2_with fail
              go_ret
              exact ⟨-1, rfl, ⟨by omega, by have := HMQ.out; omega⟩, fun h => by omega, BW.out.alloc BW.out.size _⟩
            · have d3 : decide (q < xbs.size) = false := decide_eq_false (by omega)
              have HSM : Hid (smallF ⟨xk, xn, xg, xnm, xfn, xar, xbs, xbt⟩) := Lib.hid ⟨by dsimp only; omega, by dsimp only; omega, by dsimp only; omega⟩
              have HN : Hid (∀ j, (-1 ≤ j ∧ j ≤ (q : Int) - 1 - (xnm.size : Int) / 8 - (xfn.size : Int) / 8 - (xbs.size : Int) / 8) → -1 ≤ (q : Int) - 1 - (xnm.size : Int) / 8 - (xfn.size : Int) / 8 - (xbs.size : Int) / 8 ∧ j ≤ (q : Int) - 1) := Lib.hid (fun j hj => ⟨by omega, by omega⟩)
              have HB : Hid (-1 ≤ (q : Int) - 1 - (xnm.size : Int) / 8 - (xfn.size : Int) / 8 - (xbs.size : Int) / 8 ∧ (q : Int) - 1 - (xnm.size : Int) / 8 - (xfn.size : Int) / 8 - (xbs.size : Int) / 8 ≤ 6000) := Lib.hid ⟨by omega, by omega⟩
              have e1 : xnm.size ≤ 6000 := by omega
              have e2 : xfn.size ≤ 6000 := by omega
              have e3 : xbs.size ≤ 6000 := by omega
              have w1 : IntKind.i64.wrap ((q : Int) - 1) = (q : Int) - 1 := by rw [IntKind.wrap_i64]; omega
              have w2 : IntKind.i64.wrap ((q : Int) - 1 - (xnm.size : Int) / 8) = (q : Int) - 1 - (xnm.size : Int) / 8 := by rw [IntKind.wrap_i64]; omega
              have w3 : IntKind.i64.wrap ((q : Int) - 1 - (xnm.size : Int) / 8 - (xfn.size : Int) / 8) = (q : Int) - 1 - (xnm.size : Int) / 8 - (xfn.size : Int) / 8 := by rw [IntKind.wrap_i64]; omega
              have w4 : IntKind.i64.wrap ((q : Int) - 1 - (xnm.size : Int) / 8 - (xfn.size : Int) / 8 - (xbs.size : Int) / 8) = (q : Int) - 1 - (xnm.size : Int) / 8 - (xfn.size : Int) / 8 - (xbs.size : Int) / 8 := by rw [IntKind.wrap_i64]; omega
              clear h1 h2 h3
              have A3 := Lib.hid (fun o => A2.out.below ((Below.refl wr.heap.size wr).alloc (Nat.le_refl _) o) (fun _ _ h => h))
              go_wp2_with fail
              refine (IK.out _ _ (A3.out _) HB.out).mono ?_
              rintro e w4 ⟨j, rfl, hj, hsm, b4⟩
              have HJ := Lib.hid hj
              have HJS := Lib.hid hsm
              have B4 := Lib.hid ((BW.out.alloc BW.out.size _).trans (b4.mono (Nat.le_trans BW.out.size (by simp))))
              clear b4 A2 A3 hj hsm p0 p1 p2 p3 p4 p5 p6 p7 p8
              go_wp2_with fail
              go_roundw
              case rel =>
                refine ⟨c + 1, j, by omega, by go_num, rfl, ⟨HJ.out.1, ?_⟩, Lib.hid (fun h0 => ?_), B4.out⟩
                · have := (HN.out j HJ.out).2; have := HMQ.out; omega
                · obtain ⟨s1, s2⟩ := HJS.out h0
                  obtain ⟨s3, s4⟩ := HS2.out
                  have s5 := (HN.out j HJ.out).2
                  rw [smallL_take l c hlt2, cntL_take l c hlt2, HF.out]
                  refine ⟨⟨s3, ?_⟩, ?_⟩
                  · rw [smallT]; exact ⟨HSM.out, s1⟩
                  · rw [cnt]; omega
              case measure => simp [intOf]; omega
      · go_wp2_with fail
        go_ret
        have hcl : c = l.length := by have := HLEN.out; omega
        exact ⟨q, rfl, HMQ.out, fun _ => by have := HS2.out; rw [hcl, List.take_length] at this; exact this, BW.out⟩
theorem left_any (S : Nat → Prop) (l : List Tm) (v : Value) (most : Int) (w : World) (hl : ItsAt S w l v) (hm : -1 ≤ most ∧ most ≤ 6000) :
    Calls Tryz.prog 87 #[v, .int .i64 most] w (LeftR l most w) := by
  have all : ∀ (t : Tm) (u : Value) (W : World) (m : Int), ItsAt S W t.l u → -1 ≤ m ∧ m ≤ 6000 → Calls Tryz.prog 87 #[u, .int .i64 m] W (LeftR t.l m W) := by
    intro t
    induction t using Tm.ind with
    | h f l ih => exact fun u W m hu hm => left_core S l u m W hu hm ih
  exact left_core S l v most w hl hm (fun t _ => all t)
/-- One term in a new block is a slice of one term. -/
theorem one_item {S : Nat → Prop} {w W : World} {t : Tm} {x : Ft} (hx : TmAt S w t x) (b cap : Nat) (hb : Below w.heap.size w W) (hlt : b < W.heap.size) (hc : ∀ j, j < 9 → W.cell? ⟨b, j, none⟩ = (ftC x)[j]?) :
    ItsAt (fun b => b < W.heap.size) W [t] (.slice (some ⟨b, 0, none⟩) 1 cap) := by
  refine ⟨[x], .inr ⟨b, 0, cap, rfl, by simp, hlt, ?_⟩, fun b o n c e _ => by cases e; exact hlt, ?_⟩
  · intro i j hi hj
    obtain rfl : i = 0 := by simpa using hi
    have := hc j hj
    simpa using this
  · unfold TmsAt
    refine ⟨_, [], rfl, ?_, by unfold TmsAt; rfl⟩
    exact hx.map hb.size (fun b _ hl => hb.block b hl) (fun b _ hl => by have := hb.size; omega)
end Go.Proofs.YtoaimoemaoinhaaGreatDoor
