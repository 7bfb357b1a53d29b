/- flow.Uses. -/
import Derived.Test.YtekfnonjhcfdmaaDoorWalk1
namespace Go.Proofs.YtekfnonjhcfdmaaDoor
open Go.RowKit Go.Rt Go.Rw

/-- A list of operands that grows behind a box. -/
def UsS (n B : Nat) (L : List Ar) (sa : Option Addr) (co : Nat) (w : World) : Prop := Boxed w B 35 (.slice sa L.length co) ∧ Sl w n 38 2 arC (.slice sa L.length co) L ∧ n ≤ B
theorem UsS.below {n B m : Nat} {L : List Ar} {sa : Option Addr} {co : Nat} {w w' : World} (h : UsS n B L sa co w) (hb : Below m w w') (hm : w.heap.size ≤ m) : UsS n B L sa co w' := by
  obtain ⟨h1, h2, h3⟩ := h
  exact ⟨(hb.block _ (Nat.lt_of_lt_of_le h1.lt hm)).trans h1, h2.below hb (fun g hg => Nat.lt_of_lt_of_le (h2.lt g hg).2 hm), h3⟩
theorem UsS.drew {n B : Nat} {L : List Ar} {sa : Option Addr} {co : Nat} {w : World} (h : UsS n B L sa co w) : UsS n B L sa co w.drew := ⟨h.1, h.2.1.same (Nat.le_refl _) (fun _ _ => rfl), h.2.2⟩
/-- Blocks of other types stay. -/
def KeepA (w w' : World) : Prop := ∀ g t cs, Blk w g t cs → t ≠ 35 → t ≠ 38 → Blk w' g t cs
theorem KeepA.trans {a b c : World} (h : KeepA a b) (k : KeepA b c) : KeepA a c := fun g t cs hb h1 h2 => k g t cs (h g t cs hb h1 h2) h1 h2
theorem KeepA.below {m : Nat} {w w' : World} (hb : Below m w w') (hm : w.heap.size ≤ m) : KeepA w w' := fun g _ _ h _ _ => (hb.block g (Nat.lt_of_lt_of_le h.lt hm)).trans h
/-- One more: what the append and the store leave. -/
theorem UsS.push {n B : Nat} {L : List Ar} {sa : Option Addr} {co : Nat} {w : World} (h : UsS n B L sa co w) (hn : n ≤ w.heap.size) (a : Ar) (hl : L.length + 1 ≤ 1000000000) :
    ∃ g cap W2, (Builtin.append_ #[35, 35] 35 #[.slice sa L.length co, .slice (some ⟨w.heap.size, 0, none⟩) 1 1]).run Tryd.prog (w.alloc (.cells #[.int .i64 a.k, .int .i64 a.n] 38)) = .ok (.slice (some ⟨g, 0, none⟩) (L.length + 1) cap) W2 ∧
      Boxed W2 B 35 (.slice sa L.length co) ∧ UsS n B (L ++ [a]) (some ⟨g, 0, none⟩) cap (W2.setCell ⟨B, 0, none⟩ (.slice (some ⟨g, 0, none⟩) (L.length + 1) cap)) ∧ KeepA w (W2.setCell ⟨B, 0, none⟩ (.slice (some ⟨g, 0, none⟩) (L.length + 1) cap)) ∧ Below n w (W2.setCell ⟨B, 0, none⟩ (.slice (some ⟨g, 0, none⟩) (L.length + 1) cap)) := by
  obtain ⟨h1, h2, h3⟩ := h
  obtain ⟨g, cap, W2, hrun, sl2, hgrow, hwh⟩ := sl_push_ar (h2.only (bs := []) (Only.alloc [] w (.cells #[.int .i64 a.k, .int .i64 a.n] 38)) (fun g hg hm => by cases hm)) a w.heap.size (Blk.new w 38 _) hl (by simp; omega)
  obtain ⟨a1, a2, a3, a4, a5⟩ := Boxed.appended h1 (by decide) h2 hn h3 sl2 hgrow
  refine ⟨g, cap, W2, hrun, a1, ⟨?_, ?_, h3⟩, ?_, a5⟩
  · simpa using a2
  · have := a3
    unfold Sl
    simpa using this
  · intro g' t cs hb n1 n2
    have hne : g' ≠ B := by
      rintro rfl
      have := hb.symm.trans h1
      simp only [Option.some.injEq, Obj.cells.injEq] at this
      exact n1 this.2.1
    have hno : some g' ≠ (Value.slice sa L.length co).ownBlock := by
      intro e
      rcases h2.2 with ⟨q, _⟩ | ⟨g2, cap2, cur, q, _, q3, _⟩
      · rw [q] at e
        simp [Value.ownBlock] at e
      · rw [q] at e
        simp only [Value.ownBlock, Option.some.injEq] at e
        subst e
        have := hb.symm.trans q3
        simp only [Option.some.injEq, Obj.cells.injEq] at this
        exact n2 this.2.1
    refine (Below.heap_setCell _ _ _ _ hne).trans ((hgrow.block g' (by have := hb.lt; simp; omega) hno).trans ((Below.heap_alloc _ _ _ hb.lt).trans hb))
/-- What a step on the list leaves. -/
def UsD (n B : Nat) (L : List Ar) (w w' : World) : Prop := (∃ sa co, UsS n B L sa co w') ∧ KeepA w w' ∧ Below n w w'
set_option maxRecDepth 100000 in
set_option maxHeartbeats 4000000 in
theorem uses41 (a : Ar) (n B : Nat) (L : List Ar) (w : World) (h : ∃ sa co, UsS n B L sa co w) (hn : n ≤ w.heap.size) (hl : L.length + 1 ≤ 1000000000) :
    Calls Tryd.prog 41 #[arV a, .pointer (some ⟨B, 0, none⟩)] w fun e w' => e = .returned (.tuple #[]) ∧ UsD n B (L ++ [a].filter placeF) w w' := by
  obtain ⟨k, m⟩ := a
  obtain ⟨sa, co, h⟩ := h
  have CP := Lib.hid (fun (W : World) => place42 ⟨k, m⟩ W)
  obtain ⟨p, hp⟩ : ∃ p, p = placeF ⟨k, m⟩ := ⟨_, rfl⟩
  rw [← hp] at CP
  have HP := Lib.hid hp
  unfold arV at CP ⊢
  dsimp only at CP ⊢
  clear hp
  have X := Lib.hid (Blk.new w 38 #[.int .i64 k, .int .i64 m])
  have B0 := Lib.hid ((Below.refl w.heap.size w).alloc (Nat.le_refl _) (.cells #[.int .i64 k, .int .i64 m] 38))
  go_enter Tryd.func41, Tryd.ntmps41
  go_upto_region 1 with fail
  generalize w.alloc (.cells #[.int .i64 k, .int .i64 m] 38) = v0 at X B0 ⊢
  have H0 := Lib.hid (h.below B0.out (Nat.le_refl _))
  have K0 := Lib.hid (KeepA.below B0.out (Nat.le_refl _))
  have hn0 : n ≤ v0.heap.size := by have := B0.out.size; omega
  have c0 : v0.cell? ⟨w.heap.size, 0, none⟩ = some (.int .i64 k) := X.out.cell 0
  have c1 : v0.cell? ⟨w.heap.size, 1, none⟩ = some (.int .i64 m) := X.out.cell 1
  go_wp2_with fail
  refine (CP.out _).mono ?_
  rintro e v1 ⟨rfl, b1⟩
  have H1 := Lib.hid (H0.out.below b1 (Nat.le_refl _))
  have K1 := Lib.hid (K0.out.trans (KeepA.below b1 (Nat.le_refl _)))
  have B1 := Lib.hid ((B0.out.mono hn).trans (b1.mono hn0))
  have hn1 : n ≤ v1.heap.size := by have := b1.size; omega
  have c0 : v1.cell? ⟨w.heap.size, 0, none⟩ = some (.int .i64 k) := (X.out.below b1 X.out.lt).cell 0
  have c1 : v1.cell? ⟨w.heap.size, 1, none⟩ = some (.int .i64 m) := (X.out.below b1 X.out.lt).cell 1
  clear b1 B0 X H0 K0 h hn hn0
  cases p with
  | false =>
    go_wp2_with fail
    go_end0
    refine ⟨rfl, ⟨sa, co, ?_⟩, K1.out, B1.out⟩
    rw [show [(⟨k, m⟩ : Ar)].filter placeF = [] by simp [← HP.out]]
    simpa using H1.out
  | true =>
    obtain ⟨g, cap, W2, hrun, q2, q3, q4, q5⟩ := H1.out.push hn1 ⟨k, m⟩ hl
    have HRN := Lib.hid hrun
    have Q3 := Lib.hid q3
    have Q4 := Lib.hid (K1.out.trans q4)
    have Q5 := Lib.hid (B1.out.trans q5)
    have d1 := H1.out.1.cell
    have d2 := q2.cell
    have d3 := q2.frozen
    clear hrun q3 q4 q5 H1 K1 B1 q2
    go_wp2_with (at_builtin; refine wpList_append_run rfl _ _ 35 35 rfl rfl rfl HRN.out ?_)
    go_end0
    refine ⟨rfl, ⟨some ⟨g, 0, none⟩, cap, ?_⟩, Q4.out, Q5.out⟩
    rw [show [(⟨k, m⟩ : Ar)].filter placeF = [⟨k, m⟩] by simp [← HP.out]]
    exact Q3.out
theorem segArgs_len (l : List Sg) : (segArgs l).length = 2 * l.length := by
  unfold segArgs
  induction l with
  | nil => rfl
  | cons a r ih => simp only [List.flatMap_cons, List.length_append, ih, List.length_cons, List.length_nil]; omega
theorem regs_succ (k : Nat) : regs (k + 1) = regs k ++ [⟨1, (k : Int)⟩] := by simp [regs, List.range_succ]
theorem regs_len (k : Nat) : (regs k).length = k := by simp [regs]
theorem filter_le (L : List Ar) : (L.filter placeF).length ≤ L.length := List.length_filter_le _ _
set_option maxRecDepth 100000 in
set_option maxHeartbeats 4000000 in
theorem uses19 (f : Im) (w : World) (hf : ImAt w f) (hl : f.x.src.length + 2 * f.x.segs.length ≤ 900000000) : Calls Tryd.prog 19 #[imV f] w (ArsR (usesF f.x) w) := by
  obtain ⟨_, s1, c1, e1⟩ := hf.src.len
  obtain ⟨_, s2, c2, e2⟩ := hf.cases.len
  obtain ⟨_, s3, c3, e3⟩ := hf.segs.len
  obtain ⟨⟨op, ⟨dk, dn⟩, src, goal, m, live, name, cas, segs⟩, sv, cv, gv⟩ := f
  dsimp only at e1 e2 e3 hl
  have HSRC := hf.src
  have HSEG := hf.segs
  dsimp only at HSRC HSEG
  obtain ⟨n1, hn1⟩ : ∃ n, n = src.length := ⟨_, rfl⟩
  obtain ⟨n2, hn2⟩ : ∃ n, n = cas.length := ⟨_, rfl⟩
  obtain ⟨n3, hn3⟩ : ∃ n, n = segs.length := ⟨_, rfl⟩
  rw [← hn1] at e1
  rw [← hn2] at e2
  rw [← hn3] at e3
  subst e1 e2 e3
  replace HSRC := Lib.hid HSRC
  replace HSEG := Lib.hid HSEG
  replace hl := Lib.hid hl
  have HN1 := Lib.hid hn1
  have HN3 := Lib.hid hn3
  clear hn2 hn1 hn3 hf
  unfold imV
  dsimp only
  obtain ⟨R, hR⟩ : ∃ R, R = usesF ⟨op, ⟨dk, dn⟩, src, goal, m, live, name, cas, segs⟩ := ⟨_, rfl⟩
  rw [← hR]
  unfold usesF moreF at hR
  dsimp only at hR
  replace hR := Lib.hid hR
  have CA := Lib.hid (fun (a : Ar) => uses41 a)
  have CX := Lib.hid (fun (n : Int) (W : World) => x43 n W)
  unfold arV at CA CX
  dsimp only at CX
  go_enter Tryd.func19, Tryd.ntmps19
  go_upto_region 3 with fail
  obtain ⟨W0, hW0⟩ : ∃ W0, (w.alloc (.cells #[.int .i64 op, .int .i64 dk, .int .i64 dn, .slice s1 n1 c1, .int .i64 goal, .int .i64 m, .int .i64 live, .string name, .slice s2 n2 c2, .slice s3 n3 c3] 42)).alloc (.cells #[.slice none 0 0] 35) = W0 := ⟨_, rfl⟩
  have U0 : Hid (UsS w.heap.size (w.heap.size + 1) [] none 0 W0) := Lib.hid (by
    rw [← hW0]
    refine ⟨?_, Sl.nil _ _ _ _ _, by omega⟩
    have := Boxed.new (w.alloc (.cells #[.int .i64 op, .int .i64 dk, .int .i64 dn, .slice s1 n1 c1, .int .i64 goal, .int .i64 m, .int .i64 live, .string name, .slice s2 n2 c2, .slice s3 n3 c3] 42)) 35 (.slice none 0 0)
    rwa [World.size_alloc] at this)
  have X0 : Hid (Blk W0 w.heap.size 42 #[.int .i64 op, .int .i64 dk, .int .i64 dn, .slice s1 n1 c1, .int .i64 goal, .int .i64 m, .int .i64 live, .string name, .slice s2 n2 c2, .slice s3 n3 c3]) := Lib.hid (by rw [← hW0]; exact (Blk.new w 42 _).alloc _)
  have B0 : Hid (Below w.heap.size w W0) := Lib.hid (by rw [← hW0]; exact ((Below.refl _ w).alloc (Nat.le_refl _) _).alloc (by simp) _)
  rw [hW0]
  clear hW0
  have q3 : W0.cell? ⟨w.heap.size, 3, none⟩ = some (.slice s1 n1 c1) := X0.out.cell 3
  go_wp2_with fail
  clear q3
  go_loopw [14] (fun z wr => ∃ k : Nat, k ≤ n1 ∧ z = .int .i64 (k : Int) ∧ ∃ sa co, Hid (UsS w.heap.size (w.heap.size + 1) ((src.take k).filter placeF) sa co wr) ∧ Hid (Blk wr w.heap.size 42 #[.int .i64 op, .int .i64 dk, .int .i64 dn, .slice s1 n1 c1, .int .i64 goal, .int .i64 m, .int .i64 live, .string name, .slice s2 n2 c2, .slice s3 n3 c3]) ∧ Hid (Below w.heap.size w wr)) (fun z _ => n1 - (intOf z).toNat)
  case atStart => exact ⟨0, Nat.zero_le _, rfl, none, 0, by simpa using U0, X0, B0⟩
  case round =>
    obtain ⟨k, hk, rfl, sa, co, HU, HX, HB⟩ := hrel
    clear U0 X0 B0
    by_cases hlt : k < n1
    · have hlti : (k : Int) < (n1 : Int) := by omega
      obtain ⟨b, o, rfl, hb, hc⟩ := HSRC.out.get (by rw [← HN1.out]; omega)
      have hks : k < src.length := by rw [← HN1.out]; exact hlt
      have k0 := hc k 0 hks (by omega)
      have k1 := hc k 1 hks (by omega)
      have ES := Lib.hid (List.take_succ_eq_append_getElem hks)
      obtain ⟨a, ha⟩ : ∃ a, a = src[k] := ⟨_, rfl⟩
      rw [← ha] at k0 k1 ES
      obtain ⟨ak, an⟩ := a
      simp only [arC, List.getElem?_cons_zero, List.getElem?_cons_succ, Nat.add_zero] at k0 k1
      have k0' := (HB.out.cell (p := ⟨b, _, none⟩) hb).trans k0
      have k1' := (HB.out.cell (p := ⟨b, _, none⟩) hb).trans k1
      have BA : Hid (Below wr.heap.size wr (wr.alloc (.cells #[.int .i64 ak, .int .i64 an] 38))) := Lib.hid ((Below.refl _ wr).alloc (Nat.le_refl _) _)
      have XA := Lib.hid (Blk.new wr 38 #[.int .i64 ak, .int .i64 an])
      have hws := HB.out.size
      clear k0 k1 ha hc
      go_upto_region 6 with fail
      generalize wr.alloc (.cells #[.int .i64 ak, .int .i64 an] 38) = w1 at BA XA ⊢
      have c0 : w1.cell? ⟨wr.heap.size, 0, none⟩ = some (.int .i64 ak) := XA.out.cell 0
      have c1' : w1.cell? ⟨wr.heap.size, 1, none⟩ = some (.int .i64 an) := XA.out.cell 1
      have U1 := Lib.hid (HU.out.below BA.out (Nat.le_refl _))
      have X1 := Lib.hid (HX.out.below BA.out HX.out.lt)
      have B1 := Lib.hid (HB.out.trans (BA.out.mono hws))
      have hw1 := B1.out.size
      clear BA XA HU HX HB
      go_wp2_with fail
      refine (CA.out ⟨ak, an⟩ w.heap.size (w.heap.size + 1) ((src.take k).filter placeF) w1 ⟨sa, co, U1.out⟩ hw1 (by have := List.length_filter_le placeF (src.take k); have := List.length_take_le k src; have := hl.out; have := HN1.out; omega)).mono ?_
      rintro e w2 ⟨rfl, ⟨sa2, co2, u2⟩, k2, b2⟩
      have U2 := Lib.hid u2
      have X2 := Lib.hid (k2 _ _ _ X1.out (by decide) (by decide))
      have B2 := Lib.hid (B1.out.trans b2)
      clear u2 k2 b2 U1 X1 B1
      go_wp2_with fail
      go_roundw
      case rel => exact ⟨k + 1, by omega, by simp, sa2, co2, by rw [ES.out, List.filter_append]; exact U2, X2, B2⟩
      case measure => simp [intOf]; omega
    · have hlti : ¬ (k : Int) < (n1 : Int) := by omega
      obtain rfl : n1 = k := by omega
      have HU : Hid (UsS w.heap.size (w.heap.size + 1) (src.filter placeF) sa co wr) := by have := HU; rwa [List.take_of_length_le (by rw [← HN1.out]; exact Nat.le_refl _)] at this
      have q9 : wr.cell? ⟨w.heap.size, 9, none⟩ = some (.slice s3 n3 c3) := HX.out.cell 9
      clear hlt
      go_wp2_with fail
      clear q9
      go_loopw [25] (fun z wr => ∃ k : Nat, k ≤ n3 ∧ z = .int .i64 (k : Int) ∧ ∃ sa co, Hid (UsS w.heap.size (w.heap.size + 1) (src.filter placeF ++ (segArgs (segs.take k)).filter placeF) sa co wr) ∧ Hid (Blk wr w.heap.size 42 #[.int .i64 op, .int .i64 dk, .int .i64 dn, .slice s1 n1 c1, .int .i64 goal, .int .i64 m, .int .i64 live, .string name, .slice s2 n2 c2, .slice s3 n3 c3]) ∧ Hid (Below w.heap.size w wr)) (fun z _ => n3 - (intOf z).toNat)
      case atStart => exact ⟨0, Nat.zero_le _, rfl, sa, co, by simpa [segArgs] using HU, HX, HB⟩
      case round =>
        obtain ⟨j, hj, rfl, sa, co, HU, HX, HB⟩ := hrel
        by_cases hlt : j < n3
        · have hlti : (j : Int) < (n3 : Int) := by omega
          obtain ⟨b, o, rfl, hb, hc⟩ := HSEG.out.get (by rw [← HN3.out]; omega)
          have hks : j < segs.length := by rw [← HN3.out]; exact hlt
          have k0 := hc j 0 hks (by omega)
          have k1 := hc j 1 hks (by omega)
          have k2 := hc j 2 hks (by omega)
          have k3 := hc j 3 hks (by omega)
          have k4 := hc j 4 hks (by omega)
          have k5 := hc j 5 hks (by omega)
          have ES := Lib.hid (List.take_succ_eq_append_getElem hks)
          obtain ⟨a, ha⟩ : ∃ a, a = segs[j] := ⟨_, rfl⟩
          rw [← ha] at k0 k1 k2 k3 k4 k5 ES
          obtain ⟨ty, ⟨vk, vn⟩, ⟨zk, zn⟩, li⟩ := a
          simp only [sgC, List.getElem?_cons_zero, List.getElem?_cons_succ, Nat.add_zero] at k0 k1 k2 k3 k4 k5
          have k0' := (HB.out.cell (p := ⟨b, _, none⟩) hb).trans k0
          have k1' := (HB.out.cell (p := ⟨b, _, none⟩) hb).trans k1
          have k2' := (HB.out.cell (p := ⟨b, _, none⟩) hb).trans k2
          have k3' := (HB.out.cell (p := ⟨b, _, none⟩) hb).trans k3
          have k4' := (HB.out.cell (p := ⟨b, _, none⟩) hb).trans k4
          have k5' := (HB.out.cell (p := ⟨b, _, none⟩) hb).trans k5
          have BA : Hid (Below wr.heap.size wr (wr.alloc (.cells #[.int .i64 ty, .int .i64 vk, .int .i64 vn, .int .i64 zk, .int .i64 zn, .bool li] 80))) := Lib.hid ((Below.refl _ wr).alloc (Nat.le_refl _) _)
          have XA := Lib.hid (Blk.new wr 80 #[.int .i64 ty, .int .i64 vk, .int .i64 vn, .int .i64 zk, .int .i64 zn, .bool li])
          have hws := HB.out.size
          clear k0 k1 k2 k3 k4 k5 ha hc
          go_upto_region 11 with fail
          generalize wr.alloc (.cells #[.int .i64 ty, .int .i64 vk, .int .i64 vn, .int .i64 zk, .int .i64 zn, .bool li] 80) = w1 at BA XA ⊢
          have c0 : w1.cell? ⟨wr.heap.size, 1, none⟩ = some (.int .i64 vk) := XA.out.cell 1
          have c1' : w1.cell? ⟨wr.heap.size, 2, none⟩ = some (.int .i64 vn) := XA.out.cell 2
          have U1 := Lib.hid (HU.out.below BA.out (Nat.le_refl _))
          have X1 := Lib.hid (HX.out.below BA.out HX.out.lt)
          have B1 := Lib.hid (HB.out.trans (BA.out.mono hws))
          have hw1 := B1.out.size
          clear BA HU HX HB
          go_wp2_with fail
          refine (CA.out ⟨vk, vn⟩ w.heap.size (w.heap.size + 1) (src.filter placeF ++ (segArgs (segs.take j)).filter placeF) w1 ⟨sa, co, U1.out⟩ hw1 (by have := List.length_filter_le placeF src; have := List.length_filter_le placeF (segArgs (segs.take j)); have := segArgs_len (segs.take j); have := List.length_take_le j segs; have := hl.out; have := HN3.out; simp only [List.length_append]; omega)).mono ?_
          rintro e w2 ⟨rfl, ⟨sa2, co2, u2⟩, k2, b2⟩
          have U2 := Lib.hid u2
          have X2 := Lib.hid (k2 _ _ _ X1.out (by decide) (by decide))
          have G2 := Lib.hid (k2 _ _ _ XA.out (by decide) (by decide))
          have B2 := Lib.hid (B1.out.trans b2)
          have hw2 := B2.out.size
          clear u2 k2 b2 U1 X1 B1 XA c0 c1'
          have c0 : w2.cell? ⟨wr.heap.size, 3, none⟩ = some (.int .i64 zk) := G2.out.cell 3
          have c1' : w2.cell? ⟨wr.heap.size, 4, none⟩ = some (.int .i64 zn) := G2.out.cell 4
          go_wp2_with fail
          refine (CA.out ⟨zk, zn⟩ w.heap.size (w.heap.size + 1) _ w2 ⟨sa2, co2, U2.out⟩ hw2 (by have := List.length_filter_le placeF src; have := List.length_filter_le placeF (segArgs (segs.take j)); have := segArgs_len (segs.take j); have := List.length_take_le j segs; have := hl.out; have := HN3.out; have := List.length_filter_le placeF [(⟨vk, vn⟩ : Ar)]; simp only [List.length_append, List.length_cons, List.length_nil] at *; omega)).mono ?_
          rintro e w3 ⟨rfl, ⟨sa3, co3, u3⟩, k3, b3⟩
          have U3 := Lib.hid u3
          have X3 := Lib.hid (k3 _ _ _ X2.out (by decide) (by decide))
          have B3 := Lib.hid (B2.out.trans b3)
          clear u3 k3 b3 U2 X2 B2 G2
          go_wp2_with fail
          go_roundw
          case rel =>
            refine ⟨j + 1, by omega, by simp, sa3, co3, ?_, X3, B3⟩
            rw [ES.out]
            have := U3
            simp only [segArgs, List.flatMap_append, List.flatMap_cons, List.flatMap_nil, List.append_nil, List.filter_append, List.append_assoc] at this ⊢
            rw [show [(⟨vk, vn⟩ : Ar), ⟨zk, zn⟩].filter placeF = [(⟨vk, vn⟩ : Ar)].filter placeF ++ [(⟨zk, zn⟩ : Ar)].filter placeF from List.filter_append [(⟨vk, vn⟩ : Ar)] [⟨zk, zn⟩]]
            exact this
          case measure => simp [intOf]; omega
        · have hlti : ¬ (j : Int) < (n3 : Int) := by omega
          obtain rfl : n3 = j := by omega
          have HU : Hid (UsS w.heap.size (w.heap.size + 1) ((src ++ segArgs segs).filter placeF) sa co wr) := by have := HU; rwa [List.take_of_length_le (by rw [← HN3.out]; exact Nat.le_refl _), ← List.filter_append] at this
          have q0 : wr.cell? ⟨w.heap.size, 0, none⟩ = some (.int .i64 op) := HX.out.cell 0
          clear hlt
          have hlen : Hid (((src ++ segArgs segs).filter placeF).length ≤ 900000000) := Lib.hid (by have := List.length_filter_le placeF (src ++ segArgs segs); have := segArgs_len segs; have := hl.out; simp only [List.length_append] at *; omega)
          obtain ⟨A, hA⟩ : ∃ A, A = (src ++ segArgs segs).filter placeF := ⟨_, rfl⟩
          rw [← hA] at HU hlen hR
          clear hA
          go_upto_if 40 with fail
          clear q0
          go_cut [40] (fun z40 wy => z40 = .bool (callOp op) ∧ wr = wy)
          case first =>
            by_cases h15 : op = 15
            · subst h15
              go_wp2_with fail
              go_meet
              exact ⟨rfl, rfl⟩
            have e15 : (op == 15) = false := by rw [beq_eq_false_iff_ne]; exact h15
            by_cases h18 : op = 18
            · subst h18
              go_wp2_with fail
              go_meet
              exact ⟨rfl, rfl⟩
            have e18 : (op == 18) = false := by rw [beq_eq_false_iff_ne]; exact h18
            by_cases h19 : op = 19
            · subst h19
              go_wp2_with fail
              go_meet
              exact ⟨rfl, rfl⟩
            have e19 : (op == 19) = false := by rw [beq_eq_false_iff_ne]; exact h19
            by_cases h20 : op = 20
            · subst h20
              go_wp2_with fail
              go_meet
              exact ⟨rfl, rfl⟩
            have e20 : (op == 20) = false := by rw [beq_eq_false_iff_ne]; exact h20
            by_cases h21 : op = 21
            · subst h21
              go_wp2_with fail
              go_meet
              exact ⟨rfl, rfl⟩
            have e21 : (op == 21) = false := by rw [beq_eq_false_iff_ne]; exact h21
            have hg : callOp op = false := by unfold callOp; simp [h15, h18, h19, h20, h21]
            replace hg := Lib.hid hg
            clear h15 h18 h19 h20 h21
            go_wp2_with fail
            go_meet
            exact ⟨by rw [hg.out], rfl⟩
          case rest =>
            obtain ⟨rfl, rfl⟩ := hcut
            obtain ⟨g, hg⟩ : ∃ g, g = callOp op := ⟨_, rfl⟩
            rw [← hg] at hR ⊢
            replace hg := Lib.hid hg
            cases g with
            | true =>
              have q4 : wr.cell? ⟨w.heap.size, 5, none⟩ = some (.int .i64 m) := HX.out.cell 5
              by_cases h16 : m ≤ 16
              · go_wp2_with fail
                clear q4
                go_loopw [51] (fun z wr => ∃ k : Nat, (k : Int) ≤ max m 0 ∧ z = .int .i64 (k : Int) ∧ ∃ AK sa co, Hid (AK = A ++ regs k) ∧ Hid (UsS w.heap.size (w.heap.size + 1) AK sa co wr) ∧ Hid (Below w.heap.size w wr)) (fun z _ => m.toNat - (intOf z).toNat)
                case atStart => exact ⟨0, by omega, rfl, A, sa, co, Lib.hid (by simp [regs]), HU, HB⟩
                case round =>
                  obtain ⟨k, hk, rfl, AK, sa, co, HAK, HU, HB⟩ := hrel
                  clear HX
                  have hlk : Hid (AK.length = A.length + k) := Lib.hid (by rw [HAK.out, List.length_append, regs_len])
                  by_cases hlt : (k : Int) < m
                  · have hk16 : k < 16 := by omega
                    have hb0 : wr.cell? ⟨w.heap.size + 1, 0, none⟩ = some (.slice sa AK.length co) := HU.out.1.cell
                    go_upto_region 24 with fail
                    refine wp_region_held_drew (S := fun _ => True) (by kernel_rfl) trivial (fun hS => ?_)
                    have HUD := Lib.hid HU.out.drew
                    have HBD := Lib.hid HB.out.drew
                    clear HU HB hb0
                    generalize wr.drew = w3 at *
                    have hb3 : w3.cell? ⟨w.heap.size + 1, 0, none⟩ = some (.slice sa AK.length co) := HUD.out.1.cell
                    refine wpAnyH_take (i := 1) (v := ?_) rfl (by kernel_rfl) (by kernel_rfl) (by kernel_rfl) (fun _ _ _ h => h) (Or.inl ⟨by rfl, ?_⟩) (by assumption) ?_
                    rotate_left
                    · intro w hSw
                      go_simp
                      with_reducible rfl
                    change wpAnyH _ _ _ _ _ _ _ (Act.put _ (some 55) _) _
                    simp only [Act.put, List.setIfInBounds_toArray, List.set_cons_zero, List.set_cons_succ]
                    refine wpAnyH_ready (rs := [0, 2]) (by kernel_rfl) (by simp) ?_
                    refine AllReadyH.cons rfl (fun K hK => ?_) (AllReadyH.cons rfl (fun K hK => ?_) AllReadyH.nil)
                    · go_simp
                      refine hK.out _ _ trivial (fun hS => ?_)
                      clear hK K
                      try simp only [Act.put, List.setIfInBounds_toArray, List.set_cons_zero, List.set_cons_succ]
                      refine wpAnyH_ready (rs := [2]) (by kernel_rfl) (by simp) ?_
                      refine AllReadyH.cons rfl (fun K hK => ?_) AllReadyH.nil
                      go_simp
                      refine (CX.out k w3).mono ?_
                      rintro e w4 ⟨rfl, b4⟩
                      have U4 := Lib.hid (HUD.out.below b4 (Nat.le_refl _))
                      have B4 := Lib.hid (HBD.out.trans (b4.mono HBD.out.size))
                      clear b4 HUD HBD hb3
                      go_wp2_with fail
                      refine hK.out _ _ trivial (fun hS => ?_)
                      clear hK K
                      try simp only [Act.put, List.setIfInBounds_toArray, List.set_cons_zero, List.set_cons_succ]
                      have hb4 : w4.cell? ⟨w.heap.size + 1, 0, none⟩ = some (.slice sa AK.length co) := U4.out.1.cell
                      have hn4 := B4.out.size
                      obtain ⟨g, cap, W5, hrun, q2, q3, _, q5⟩ := U4.out.push hn4 ⟨1, k⟩ (by have := hlen.out; have := hlk.out; omega)
                      have hb5 := (U4.out.1.alloc (.cells #[.int .i64 1, .int .i64 k] 38)).cell
                      have HRN := Lib.hid hrun
                      have Q3 := Lib.hid q3
                      have Q5 := Lib.hid (B4.out.trans q5)
                      have d2 := q2.cell
                      have d3 := q2.frozen
                      clear hrun q3 q5 q2 U4 B4
                      refine wpAnyH_ready (rs := [3]) (by kernel_rfl) (by simp) ?_
                      refine AllReadyH.cons rfl (fun K hK => ?_) AllReadyH.nil
                      go_simp
                      refine hK.out _ _ trivial (fun hS => ?_)
                      clear hK K
                      try simp only [Act.put, List.setIfInBounds_toArray, List.set_cons_zero, List.set_cons_succ]
                      refine wpAnyH_ready (rs := [4]) (by kernel_rfl) (by simp) ?_
                      refine AllReadyH.cons rfl (fun K hK => ?_) AllReadyH.nil
                      refine step_append_run rfl _ _ 35 35 rfl rfl rfl HRN.out ?_
                      change K (Act.put _ (some 58) _) _
                      refine hK.out _ _ trivial (fun hS => ?_)
                      clear hK K
                      try simp only [Act.put, List.setIfInBounds_toArray, List.set_cons_zero, List.set_cons_succ]
                      refine wpAnyH_ready (rs := [5]) (by kernel_rfl) (by simp) ?_
                      refine AllReadyH.cons rfl (fun K hK => ?_) AllReadyH.nil
                      go_simp
                      refine hK.out _ _ trivial (fun hS => ?_)
                      clear hK K
                      try simp only [Act.put, List.setIfInBounds_toArray, List.set_cons_zero, List.set_cons_succ]
                      refine wpAnyH_done (by kernel_rfl) ?_ _
                      go_wp2_with fail
                      go_roundw
                      case rel => exact ⟨k + 1, by omega, by simp, AK ++ [⟨1, (k : Int)⟩], _, _, Lib.hid (by rw [HAK.out, regs_succ, List.append_assoc]), Q3, Q5⟩
                      case measure => simp [intOf]; omega
                    · go_simp
                      refine (CX.out k w3).mono ?_
                      rintro e w4 ⟨rfl, b4⟩
                      have U4 := Lib.hid (HUD.out.below b4 (Nat.le_refl _))
                      have B4 := Lib.hid (HBD.out.trans (b4.mono HBD.out.size))
                      clear b4 HUD HBD hb3
                      go_wp2_with fail
                      refine hK.out _ _ trivial (fun hS => ?_)
                      clear hK K
                      try simp only [Act.put, List.setIfInBounds_toArray, List.set_cons_zero, List.set_cons_succ]
                      have hb4 : w4.cell? ⟨w.heap.size + 1, 0, none⟩ = some (.slice sa AK.length co) := U4.out.1.cell
                      have hn4 := B4.out.size
                      obtain ⟨g, cap, W5, hrun, q2, q3, _, q5⟩ := U4.out.push hn4 ⟨1, k⟩ (by have := hlen.out; have := hlk.out; omega)
                      have hb5 := (U4.out.1.alloc (.cells #[.int .i64 1, .int .i64 k] 38)).cell
                      have HRN := Lib.hid hrun
                      have Q3 := Lib.hid q3
                      have Q5 := Lib.hid (B4.out.trans q5)
                      have d2 := q2.cell
                      have d3 := q2.frozen
                      clear hrun q3 q5 q2 U4 B4
                      refine wpAnyH_ready (rs := [0, 3]) (by kernel_rfl) (by simp) ?_
                      refine AllReadyH.cons rfl (fun K hK => ?_) (AllReadyH.cons rfl (fun K hK => ?_) AllReadyH.nil)
                      · go_simp
                        refine hK.out _ _ trivial (fun hS => ?_)
                        clear hK K
                        try simp only [Act.put, List.setIfInBounds_toArray, List.set_cons_zero, List.set_cons_succ]
                        refine wpAnyH_ready (rs := [3]) (by kernel_rfl) (by simp) ?_
                        refine AllReadyH.cons rfl (fun K hK => ?_) AllReadyH.nil
                        go_simp
                        refine hK.out _ _ trivial (fun hS => ?_)
                        clear hK K
                        try simp only [Act.put, List.setIfInBounds_toArray, List.set_cons_zero, List.set_cons_succ]
                        refine wpAnyH_ready (rs := [4]) (by kernel_rfl) (by simp) ?_
                        refine AllReadyH.cons rfl (fun K hK => ?_) AllReadyH.nil
                        refine step_append_run rfl _ _ 35 35 rfl rfl rfl HRN.out ?_
                        change K (Act.put _ (some 58) _) _
                        refine hK.out _ _ trivial (fun hS => ?_)
                        clear hK K
                        try simp only [Act.put, List.setIfInBounds_toArray, List.set_cons_zero, List.set_cons_succ]
                        refine wpAnyH_ready (rs := [5]) (by kernel_rfl) (by simp) ?_
                        refine AllReadyH.cons rfl (fun K hK => ?_) AllReadyH.nil
                        go_simp
                        refine hK.out _ _ trivial (fun hS => ?_)
                        clear hK K
                        try simp only [Act.put, List.setIfInBounds_toArray, List.set_cons_zero, List.set_cons_succ]
                        refine wpAnyH_done (by kernel_rfl) ?_ _
                        go_wp2_with fail
                        go_roundw
                        case rel => exact ⟨k + 1, by omega, by simp, AK ++ [⟨1, (k : Int)⟩], _, _, Lib.hid (by rw [HAK.out, regs_succ, List.append_assoc]), Q3, Q5⟩
                        case measure => simp [intOf]; omega
                      · go_simp
                        refine hK.out _ _ trivial (fun hS => ?_)
                        clear hK K
                        try simp only [Act.put, List.setIfInBounds_toArray, List.set_cons_zero, List.set_cons_succ]
                        refine wpAnyH_ready (rs := [0]) (by kernel_rfl) (by simp) ?_
                        refine AllReadyH.cons rfl (fun K hK => ?_) AllReadyH.nil
                        go_simp
                        refine hK.out _ _ trivial (fun hS => ?_)
                        clear hK K
                        try simp only [Act.put, List.setIfInBounds_toArray, List.set_cons_zero, List.set_cons_succ]
                        refine wpAnyH_ready (rs := [4]) (by kernel_rfl) (by simp) ?_
                        refine AllReadyH.cons rfl (fun K hK => ?_) AllReadyH.nil
                        refine step_append_run rfl _ _ 35 35 rfl rfl rfl HRN.out ?_
                        change K (Act.put _ (some 58) _) _
                        refine hK.out _ _ trivial (fun hS => ?_)
                        clear hK K
                        try simp only [Act.put, List.setIfInBounds_toArray, List.set_cons_zero, List.set_cons_succ]
                        refine wpAnyH_ready (rs := [5]) (by kernel_rfl) (by simp) ?_
                        refine AllReadyH.cons rfl (fun K hK => ?_) AllReadyH.nil
                        go_simp
                        refine hK.out _ _ trivial (fun hS => ?_)
                        clear hK K
                        try simp only [Act.put, List.setIfInBounds_toArray, List.set_cons_zero, List.set_cons_succ]
                        refine wpAnyH_done (by kernel_rfl) ?_ _
                        go_wp2_with fail
                        go_roundw
                        case rel => exact ⟨k + 1, by omega, by simp, AK ++ [⟨1, (k : Int)⟩], _, _, Lib.hid (by rw [HAK.out, regs_succ, List.append_assoc]), Q3, Q5⟩
                        case measure => simp [intOf]; omega
                  · obtain rfl : R = AK := by rw [hR.out, HAK.out]; simp only [if_true, if_pos h16]; congr 2; omega
                    have hb0 : wr.cell? ⟨w.heap.size + 1, 0, none⟩ = some (.slice sa R.length co) := HU.out.1.cell
                    go_wp2_with fail
                    go_ret
                    exact ⟨HB.out, _, rfl, HU.out.2.1⟩
              · obtain rfl : R = A := by rw [hR.out]; simp only [if_true, if_neg h16, List.append_nil]
                have hb0 : wr.cell? ⟨w.heap.size + 1, 0, none⟩ = some (.slice sa R.length co) := HU.out.1.cell
                go_wp2_with fail
                go_ret
                exact ⟨HB.out, _, rfl, HU.out.2.1⟩
            | false =>
              have hb0 : wr.cell? ⟨w.heap.size + 1, 0, none⟩ = some (.slice sa A.length co) := HU.out.1.cell
              by_cases h26 : op = 26
              · subst h26
                go_upto_region 27 with fail
                refine wp_region_held_drew (S := fun _ => True) (by kernel_rfl) trivial (fun hS => ?_)
                have HUD := Lib.hid HU.out.drew
                have HBD := Lib.hid HB.out.drew
                clear HU HB hb0
                generalize wr.drew = w3 at *
                have hb3 : w3.cell? ⟨w.heap.size + 1, 0, none⟩ = some (.slice sa A.length co) := HUD.out.1.cell
                refine wpAnyH_ready (rs := [0, 1]) (by kernel_rfl) (by simp) ?_
                refine AllReadyH.cons rfl (fun K hK => ?_) (AllReadyH.cons rfl (fun K hK => ?_) AllReadyH.nil)
                · go_simp
                  refine hK.out _ _ trivial (fun hS => ?_)
                  clear hK K
                  try simp only [Act.put, List.setIfInBounds_toArray, List.set_cons_zero, List.set_cons_succ]
                  refine wpAnyH_ready (rs := [1]) (by kernel_rfl) (by simp) ?_
                  refine AllReadyH.cons rfl (fun K hK => ?_) AllReadyH.nil
                  go_simp
                  refine (CX.out 0 w3).mono ?_
                  rintro e w4 ⟨rfl, b4⟩
                  have U4 := Lib.hid (HUD.out.below b4 (Nat.le_refl _))
                  have B4 := Lib.hid (HBD.out.trans (b4.mono HBD.out.size))
                  clear b4 HUD HBD hb3
                  go_wp2_with fail
                  refine hK.out _ _ trivial (fun hS => ?_)
                  clear hK K
                  try simp only [Act.put, List.setIfInBounds_toArray, List.set_cons_zero, List.set_cons_succ]
                  have hb4 : w4.cell? ⟨w.heap.size + 1, 0, none⟩ = some (.slice sa A.length co) := U4.out.1.cell
                  have hn4 := B4.out.size
                  obtain ⟨g, cap, W5, hrun, q2, q3, _, q5⟩ := U4.out.push hn4 ⟨1, 0⟩ (by have := hlen.out;  omega)
                  have hb5 := (U4.out.1.alloc (.cells #[.int .i64 1, .int .i64 0] 38)).cell
                  have HRN := Lib.hid hrun
                  have Q3 := Lib.hid q3
                  have Q5 := Lib.hid (B4.out.trans q5)
                  have d2 := q2.cell
                  have d3 := q2.frozen
                  clear hrun q3 q5 q2 U4 B4
                  refine wpAnyH_ready (rs := [2]) (by kernel_rfl) (by simp) ?_
                  refine AllReadyH.cons rfl (fun K hK => ?_) AllReadyH.nil
                  go_simp
                  refine hK.out _ _ trivial (fun hS => ?_)
                  clear hK K
                  try simp only [Act.put, List.setIfInBounds_toArray, List.set_cons_zero, List.set_cons_succ]
                  refine wpAnyH_ready (rs := [3]) (by kernel_rfl) (by simp) ?_
                  refine AllReadyH.cons rfl (fun K hK => ?_) AllReadyH.nil
                  refine step_append_run rfl _ _ 35 35 rfl rfl rfl HRN.out ?_
                  change K (Act.put _ (some 65) _) _
                  refine hK.out _ _ trivial (fun hS => ?_)
                  clear hK K
                  try simp only [Act.put, List.setIfInBounds_toArray, List.set_cons_zero, List.set_cons_succ]
                  refine wpAnyH_ready (rs := [4]) (by kernel_rfl) (by simp) ?_
                  refine AllReadyH.cons rfl (fun K hK => ?_) AllReadyH.nil
                  go_simp
                  refine hK.out _ _ trivial (fun hS => ?_)
                  clear hK K
                  try simp only [Act.put, List.setIfInBounds_toArray, List.set_cons_zero, List.set_cons_succ]
                  refine wpAnyH_done (by kernel_rfl) ?_ _
                  obtain rfl : R = A ++ [⟨1, 0⟩] := by rw [hR.out]; simp
                  have hb1 := Q3.out.1.cell
                  go_wp2_with fail
                  go_ret
                  exact ⟨Q5.out, _, rfl, by simpa using Q3.out.2.1⟩
                · go_simp
                  refine (CX.out 0 w3).mono ?_
                  rintro e w4 ⟨rfl, b4⟩
                  have U4 := Lib.hid (HUD.out.below b4 (Nat.le_refl _))
                  have B4 := Lib.hid (HBD.out.trans (b4.mono HBD.out.size))
                  clear b4 HUD HBD hb3
                  go_wp2_with fail
                  refine hK.out _ _ trivial (fun hS => ?_)
                  clear hK K
                  try simp only [Act.put, List.setIfInBounds_toArray, List.set_cons_zero, List.set_cons_succ]
                  have hb4 : w4.cell? ⟨w.heap.size + 1, 0, none⟩ = some (.slice sa A.length co) := U4.out.1.cell
                  have hn4 := B4.out.size
                  obtain ⟨g, cap, W5, hrun, q2, q3, _, q5⟩ := U4.out.push hn4 ⟨1, 0⟩ (by have := hlen.out;  omega)
                  have hb5 := (U4.out.1.alloc (.cells #[.int .i64 1, .int .i64 0] 38)).cell
                  have HRN := Lib.hid hrun
                  have Q3 := Lib.hid q3
                  have Q5 := Lib.hid (B4.out.trans q5)
                  have d2 := q2.cell
                  have d3 := q2.frozen
                  clear hrun q3 q5 q2 U4 B4
                  refine wpAnyH_ready (rs := [0, 2]) (by kernel_rfl) (by simp) ?_
                  refine AllReadyH.cons rfl (fun K hK => ?_) (AllReadyH.cons rfl (fun K hK => ?_) AllReadyH.nil)
                  · go_simp
                    refine hK.out _ _ trivial (fun hS => ?_)
                    clear hK K
                    try simp only [Act.put, List.setIfInBounds_toArray, List.set_cons_zero, List.set_cons_succ]
                    refine wpAnyH_ready (rs := [2]) (by kernel_rfl) (by simp) ?_
                    refine AllReadyH.cons rfl (fun K hK => ?_) AllReadyH.nil
                    go_simp
                    refine hK.out _ _ trivial (fun hS => ?_)
                    clear hK K
                    try simp only [Act.put, List.setIfInBounds_toArray, List.set_cons_zero, List.set_cons_succ]
                    refine wpAnyH_ready (rs := [3]) (by kernel_rfl) (by simp) ?_
                    refine AllReadyH.cons rfl (fun K hK => ?_) AllReadyH.nil
                    refine step_append_run rfl _ _ 35 35 rfl rfl rfl HRN.out ?_
                    change K (Act.put _ (some 65) _) _
                    refine hK.out _ _ trivial (fun hS => ?_)
                    clear hK K
                    try simp only [Act.put, List.setIfInBounds_toArray, List.set_cons_zero, List.set_cons_succ]
                    refine wpAnyH_ready (rs := [4]) (by kernel_rfl) (by simp) ?_
                    refine AllReadyH.cons rfl (fun K hK => ?_) AllReadyH.nil
                    go_simp
                    refine hK.out _ _ trivial (fun hS => ?_)
                    clear hK K
                    try simp only [Act.put, List.setIfInBounds_toArray, List.set_cons_zero, List.set_cons_succ]
                    refine wpAnyH_done (by kernel_rfl) ?_ _
                    obtain rfl : R = A ++ [⟨1, 0⟩] := by rw [hR.out]; simp
                    have hb1 := Q3.out.1.cell
                    go_wp2_with fail
                    go_ret
                    exact ⟨Q5.out, _, rfl, by simpa using Q3.out.2.1⟩
                  · go_simp
                    refine hK.out _ _ trivial (fun hS => ?_)
                    clear hK K
                    try simp only [Act.put, List.setIfInBounds_toArray, List.set_cons_zero, List.set_cons_succ]
                    refine wpAnyH_ready (rs := [0]) (by kernel_rfl) (by simp) ?_
                    refine AllReadyH.cons rfl (fun K hK => ?_) AllReadyH.nil
                    go_simp
                    refine hK.out _ _ trivial (fun hS => ?_)
                    clear hK K
                    try simp only [Act.put, List.setIfInBounds_toArray, List.set_cons_zero, List.set_cons_succ]
                    refine wpAnyH_ready (rs := [3]) (by kernel_rfl) (by simp) ?_
                    refine AllReadyH.cons rfl (fun K hK => ?_) AllReadyH.nil
                    refine step_append_run rfl _ _ 35 35 rfl rfl rfl HRN.out ?_
                    change K (Act.put _ (some 65) _) _
                    refine hK.out _ _ trivial (fun hS => ?_)
                    clear hK K
                    try simp only [Act.put, List.setIfInBounds_toArray, List.set_cons_zero, List.set_cons_succ]
                    refine wpAnyH_ready (rs := [4]) (by kernel_rfl) (by simp) ?_
                    refine AllReadyH.cons rfl (fun K hK => ?_) AllReadyH.nil
                    go_simp
                    refine hK.out _ _ trivial (fun hS => ?_)
                    clear hK K
                    try simp only [Act.put, List.setIfInBounds_toArray, List.set_cons_zero, List.set_cons_succ]
                    refine wpAnyH_done (by kernel_rfl) ?_ _
                    obtain rfl : R = A ++ [⟨1, 0⟩] := by rw [hR.out]; simp
                    have hb1 := Q3.out.1.cell
                    go_wp2_with fail
                    go_ret
                    exact ⟨Q5.out, _, rfl, by simpa using Q3.out.2.1⟩
              · have e26 : (op == 26) = false := by rw [beq_eq_false_iff_ne]; exact h26
                obtain rfl : R = A := by rw [hR.out]; simp [h26]
                clear h26
                go_wp2_with fail
                go_ret
                exact ⟨HB.out, _, rfl, HU.out.2.1⟩
end Go.Proofs.YtekfnonjhcfdmaaDoor
