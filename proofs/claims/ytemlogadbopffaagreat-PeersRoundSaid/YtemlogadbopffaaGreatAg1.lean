/- The law's great: a signal that it lets by is small. A term among the arguments, as a plain term in memory. -/
import Derived.Test.YtemlogadbopffaaGreatGreat
import Derived.Test.YtemlogadbopffaaGreatPenc
import Derived.ChangeSame
import Derived.DataReads
import Derived.Below
import Derived.Carry
import Derived.ProofKit
import Derived.OpenShut
import Derived.ShutString
import Derived.Lib.SmallJoins
namespace Go.Proofs.YtemlogadbopffaaGreat
open Go.RowKit Go.Rt Go.Rw

def GreatR (l : List Tm) (most : Int) (w : World) (e : Ending) (w' : World) : Prop :=
  ∃ g : Bool, e = .returned (.bool g) ∧ (g = false → smallL l ∧ (cntL l : Int) ≤ most) ∧ Below w.heap.size w w'
set_option maxRecDepth 100000 in
set_option maxHeartbeats 8000000 in
theorem great18 (S : Nat → Prop) (l : List Tm) (v : Value) (most : Int) (w : World) (hl : ItsAt S w l v) (hm : -1 ≤ most ∧ most ≤ 6000) : Calls Tryz.prog 18 #[v, .int .i64 most] w (GreatR l most w) := by
  have CK := Lib.hid (left_any S l v most w hl hm)
  obtain ⟨_, sa, cap, rfl⟩ := hl.form
  clear hl hm
  go_enter Tryz.func18, Tryz.ntmps18
  go_wp2_with fail
  refine CK.out.mono ?_
  rintro e w1 ⟨j, rfl, hj, hs, b1⟩
  have HS := Lib.hid hs
  have B1 := Lib.hid b1
  clear hs b1 CK
  by_cases h : j < 0
  · have d : decide (j < 0) = true := decide_eq_true h
    clear hj
    go_wp2_with fail
    go_ret
    exact ⟨true, rfl, fun h => (by cases h), B1.out⟩
  · have d : decide (j < 0) = false := decide_eq_false h
    clear hj
    go_wp2_with fail
    go_ret
    refine ⟨false, rfl, fun _ => ?_, B1.out⟩
    have := HS.out (by omega)
    exact ⟨this.1, by omega⟩
/-- Four terms in a new block are a slice. -/
theorem four_items {S : Nat → Prop} {W : World} {t0 t1 t2 t3 : Tm} {x0 x1 x2 x3 : Ft} (h0 : TmAt S W t0 x0) (h1 : TmAt S W t1 x1) (h2 : TmAt S W t2 x2) (h3 : TmAt S W t3 x3) (b ty : Nat) (hb : Blk W b ty (ftC x0 ++ ftC x1 ++ ftC x2 ++ ftC x3).toArray) :
    ItsAt (fun b => b < W.heap.size) W [t0, t1, t2, t3] (.slice (some ⟨b, 0, none⟩) 4 4) := by
  refine ⟨[x0, x1, x2, x3], .inr ⟨b, 0, 4, rfl, by simp, hb.lt, ?_⟩, fun b' o n c e _ => by cases e; exact hb.lt, ?_⟩
  · intro i j hi hj
    have hi4 : i < 4 := hi
    rw [hb.cell]
    rcases (show i = 0 ∨ i = 1 ∨ i = 2 ∨ i = 3 by omega) with rfl | rfl | rfl | rfl
    all_goals
      rcases (show j = 0 ∨ j = 1 ∨ j = 2 ∨ j = 3 ∨ j = 4 ∨ j = 5 ∨ j = 6 ∨ j = 7 ∨ j = 8 by omega) with rfl | rfl | rfl | rfl | rfl | rfl | rfl | rfl | rfl <;> rfl
  · unfold TmsAt
    refine ⟨_, _, rfl, h0.old2, ?_⟩
    unfold TmsAt
    refine ⟨_, _, rfl, h1.old2, ?_⟩
    unfold TmsAt
    refine ⟨_, _, rfl, h2.old2, ?_⟩
    unfold TmsAt
    refine ⟨_, [], rfl, h3.old2, by unfold TmsAt; rfl⟩
/-- What great lets by. -/
def GrR (s : Sg) (most : Int) (w : World) (e : Ending) (w' : World) : Prop :=
  ∃ g : Bool, e = .returned (.bool g) ∧ (g = false → (s.node.size + s.name.size ≤ 1000 ∨ 9223372036854775807 < s.node.size + s.name.size) ∧ smallL [s.fr, s.tt, s.ref, s.val] ∧ (cntL [s.fr, s.tt, s.ref, s.val] : Int) ≤ most) ∧ Below w.heap.size w w'
set_option maxRecDepth 100000 in
set_option maxHeartbeats 8000000 in
theorem great7 (S : Nat → Prop) (s : Sg) (x : Sf) (most : Int) (w : World) (h : SgAt S w s x) (hm : -1 ≤ most ∧ most ≤ 6000) (hz : s.node.size ≤ 9223372036854775807 ∧ s.name.size ≤ 9223372036854775807) : Calls Tryz.prog 7 #[sgV s x, .int .i64 most] w (GrR s most w) := by
  obtain ⟨k, fr, tt, node, name, ref, num, val⟩ := s
  obtain ⟨⟨fa, va⟩, ⟨fb, vb⟩, ⟨fc, vc⟩, ⟨fd, vd⟩⟩ := x
  obtain ⟨_, sa, ca, ea⟩ := h.fr.its.2.form
  obtain ⟨_, sb, cb, eb⟩ := h.tt.its.2.form
  obtain ⟨_, sc, cc, ec⟩ := h.ref.its.2.form
  obtain ⟨_, sd, cd, ed⟩ := h.val.its.2.form
  dsimp only at ea eb ec ed
  obtain ⟨na, hna⟩ : ∃ q, q = fr.l.length := ⟨_, rfl⟩
  rw [← hna] at ea
  clear hna
  obtain ⟨nb, hnb⟩ : ∃ q, q = tt.l.length := ⟨_, rfl⟩
  rw [← hnb] at eb
  clear hnb
  obtain ⟨nc, hnc⟩ : ∃ q, q = ref.l.length := ⟨_, rfl⟩
  rw [← hnc] at ec
  clear hnc
  obtain ⟨nd, hnd⟩ : ∃ q, q = val.l.length := ⟨_, rfl⟩
  rw [← hnd] at ed
  clear hnd
  subst ea eb ec ed
  simp only [sgV, sgC, ftC, List.cons_append, List.nil_append]
  dsimp only at hz
  have W2 := Lib.hid ((Below.refl w.heap.size w).alloc (Nat.le_refl _) (.cells #[.int .i64 k, .int .i64 fa.k, .int .i64 fa.n, .int .i64 fa.g, .string fa.nm, .string fa.fn, .int .i64 fa.ar, .slice sa na ca, .string fa.bs, .int .i64 fa.bt, .int .i64 fb.k, .int .i64 fb.n, .int .i64 fb.g, .string fb.nm, .string fb.fn, .int .i64 fb.ar, .slice sb nb cb, .string fb.bs, .int .i64 fb.bt, .string node, .string name, .int .i64 fc.k, .int .i64 fc.n, .int .i64 fc.g, .string fc.nm, .string fc.fn, .int .i64 fc.ar, .slice sc nc cc, .string fc.bs, .int .i64 fc.bt, .int .i64 num, .int .i64 fd.k, .int .i64 fd.n, .int .i64 fd.g, .string fd.nm, .string fd.fn, .int .i64 fd.ar, .slice sd nd cd, .string fd.bs, .int .i64 fd.bt] 26))
  have X := Lib.hid (Blk.new w 26 #[.int .i64 k, .int .i64 fa.k, .int .i64 fa.n, .int .i64 fa.g, .string fa.nm, .string fa.fn, .int .i64 fa.ar, .slice sa na ca, .string fa.bs, .int .i64 fa.bt, .int .i64 fb.k, .int .i64 fb.n, .int .i64 fb.g, .string fb.nm, .string fb.fn, .int .i64 fb.ar, .slice sb nb cb, .string fb.bs, .int .i64 fb.bt, .string node, .string name, .int .i64 fc.k, .int .i64 fc.n, .int .i64 fc.g, .string fc.nm, .string fc.fn, .int .i64 fc.ar, .slice sc nc cc, .string fc.bs, .int .i64 fc.bt, .int .i64 num, .int .i64 fd.k, .int .i64 fd.n, .int .i64 fd.g, .string fd.nm, .string fd.fn, .int .i64 fd.ar, .slice sd nd cd, .string fd.bs, .int .i64 fd.bt])
  have H1 := Lib.hid (h.below W2.out (fun b _ h => h))
  clear h
  obtain ⟨m, hmm⟩ : ∃ q, q = w.heap.size := ⟨_, rfl⟩
  have HM := Lib.hid hmm
  rw [← hmm] at X
  obtain ⟨SM, hSM⟩ : ∃ q, q = IntKind.i64.wrap ((node.size : Int) + name.size) := ⟨_, rfl⟩
  have hw := hSM.symm
  have hsm2 : SM ≤ 1000 → (node.size + name.size ≤ 1000 ∨ 9223372036854775807 < node.size + name.size) := by
    intro h
    rw [← hw, IntKind.wrap_i64] at h
    omega
  clear hSM
  by_cases hb : 1000 < SM
  · have p0 : (w.alloc (.cells #[.int .i64 k, .int .i64 fa.k, .int .i64 fa.n, .int .i64 fa.g, .string fa.nm, .string fa.fn, .int .i64 fa.ar, .slice sa na ca, .string fa.bs, .int .i64 fa.bt, .int .i64 fb.k, .int .i64 fb.n, .int .i64 fb.g, .string fb.nm, .string fb.fn, .int .i64 fb.ar, .slice sb nb cb, .string fb.bs, .int .i64 fb.bt, .string node, .string name, .int .i64 fc.k, .int .i64 fc.n, .int .i64 fc.g, .string fc.nm, .string fc.fn, .int .i64 fc.ar, .slice sc nc cc, .string fc.bs, .int .i64 fc.bt, .int .i64 num, .int .i64 fd.k, .int .i64 fd.n, .int .i64 fd.g, .string fd.nm, .string fd.fn, .int .i64 fd.ar, .slice sd nd cd, .string fd.bs, .int .i64 fd.bt] 26)).cell? ⟨m, 19, none⟩ = some (.string node) := X.out.cell 19
    have p1 : (w.alloc (.cells #[.int .i64 k, .int .i64 fa.k, .int .i64 fa.n, .int .i64 fa.g, .string fa.nm, .string fa.fn, .int .i64 fa.ar, .slice sa na ca, .string fa.bs, .int .i64 fa.bt, .int .i64 fb.k, .int .i64 fb.n, .int .i64 fb.g, .string fb.nm, .string fb.fn, .int .i64 fb.ar, .slice sb nb cb, .string fb.bs, .int .i64 fb.bt, .string node, .string name, .int .i64 fc.k, .int .i64 fc.n, .int .i64 fc.g, .string fc.nm, .string fc.fn, .int .i64 fc.ar, .slice sc nc cc, .string fc.bs, .int .i64 fc.bt, .int .i64 num, .int .i64 fd.k, .int .i64 fd.n, .int .i64 fd.g, .string fd.nm, .string fd.fn, .int .i64 fd.ar, .slice sd nd cd, .string fd.bs, .int .i64 fd.bt] 26)).cell? ⟨m, 20, none⟩ = some (.string name) := X.out.cell 20
    have d : decide ((1000 : Int) < SM) = true := decide_eq_true hb
    go_enter Tryz.func7, Tryz.ntmps7
    go_upto_region 1 with fail
    rw [← hmm]
    generalize w.alloc (.cells #[.int .i64 k, .int .i64 fa.k, .int .i64 fa.n, .int .i64 fa.g, .string fa.nm, .string fa.fn, .int .i64 fa.ar, .slice sa na ca, .string fa.bs, .int .i64 fa.bt, .int .i64 fb.k, .int .i64 fb.n, .int .i64 fb.g, .string fb.nm, .string fb.fn, .int .i64 fb.ar, .slice sb nb cb, .string fb.bs, .int .i64 fb.bt, .string node, .string name, .int .i64 fc.k, .int .i64 fc.n, .int .i64 fc.g, .string fc.nm, .string fc.fn, .int .i64 fc.ar, .slice sc nc cc, .string fc.bs, .int .i64 fc.bt, .int .i64 num, .int .i64 fd.k, .int .i64 fd.n, .int .i64 fd.g, .string fd.nm, .string fd.fn, .int .i64 fd.ar, .slice sd nd cd, .string fd.bs, .int .i64 fd.bt] 26) = w1 at X H1 W2 p0 p1 ⊢
    clear hmm hb
    go_wp2_with fail
    go_ret
    exact ⟨true, rfl, fun h => (by cases h), W2.out⟩
  · have d : decide ((1000 : Int) < SM) = false := decide_eq_false hb
    have HB := Lib.hid (hsm2 (by omega))
    have CG := Lib.hid (fun (W : World) (l : List Tm) (v : Value) (hl : ItsAt (fun b => b < W.heap.size) W l v) => great18 _ l v most W hl hm)
    go_enter Tryz.func7, Tryz.ntmps7
    go_upto_region 1 with fail
    rw [← hmm]
    generalize w.alloc (.cells #[.int .i64 k, .int .i64 fa.k, .int .i64 fa.n, .int .i64 fa.g, .string fa.nm, .string fa.fn, .int .i64 fa.ar, .slice sa na ca, .string fa.bs, .int .i64 fa.bt, .int .i64 fb.k, .int .i64 fb.n, .int .i64 fb.g, .string fb.nm, .string fb.fn, .int .i64 fb.ar, .slice sb nb cb, .string fb.bs, .int .i64 fb.bt, .string node, .string name, .int .i64 fc.k, .int .i64 fc.n, .int .i64 fc.g, .string fc.nm, .string fc.fn, .int .i64 fc.ar, .slice sc nc cc, .string fc.bs, .int .i64 fc.bt, .int .i64 num, .int .i64 fd.k, .int .i64 fd.n, .int .i64 fd.g, .string fd.nm, .string fd.fn, .int .i64 fd.ar, .slice sd nd cd, .string fd.bs, .int .i64 fd.bt] 26) = w1 at X H1 W2 ⊢
    clear hmm hb hm hz
    have p0 := X.out.cell 0
    have p1 := X.out.cell 1
    have p2 := X.out.cell 2
    have p3 := X.out.cell 3
    have p4 := X.out.cell 4
    have p5 := X.out.cell 5
    have p6 := X.out.cell 6
    have p7 := X.out.cell 7
    have p8 := X.out.cell 8
    have p9 := X.out.cell 9
    have p10 := X.out.cell 10
    have p11 := X.out.cell 11
    have p12 := X.out.cell 12
    have p13 := X.out.cell 13
    have p14 := X.out.cell 14
    have p15 := X.out.cell 15
    have p16 := X.out.cell 16
    have p17 := X.out.cell 17
    have p18 := X.out.cell 18
    have p19 := X.out.cell 19
    have p20 := X.out.cell 20
    have p21 := X.out.cell 21
    have p22 := X.out.cell 22
    have p23 := X.out.cell 23
    have p24 := X.out.cell 24
    have p25 := X.out.cell 25
    have p26 := X.out.cell 26
    have p27 := X.out.cell 27
    have p28 := X.out.cell 28
    have p29 := X.out.cell 29
    have p30 := X.out.cell 30
    have p31 := X.out.cell 31
    have p32 := X.out.cell 32
    have p33 := X.out.cell 33
    have p34 := X.out.cell 34
    have p35 := X.out.cell 35
    have p36 := X.out.cell 36
    have p37 := X.out.cell 37
    have p38 := X.out.cell 38
    have p39 := X.out.cell 39
    simp only [List.getElem?_toArray, List.getElem?_cons_zero, List.getElem?_cons_succ] at p0 p1 p2 p3 p4 p5 p6 p7 p8 p9 p10 p11 p12 p13 p14 p15 p16 p17 p18 p19 p20 p21 p22 p23 p24 p25 p26 p27 p28 p29 p30 p31 p32 p33 p34 p35 p36 p37 p38 p39
    obtain ⟨bn, hbn⟩ : ∃ q, q = w1.heap.size := ⟨_, rfl⟩
    have H2 := Lib.hid (H1.out.below ((Below.refl w1.heap.size w1).alloc (Nat.le_refl _) (.cells #[.int .i64 fa.k, .int .i64 fa.n, .int .i64 fa.g, .string fa.nm, .string fa.fn, .int .i64 fa.ar, .slice sa na ca, .string fa.bs, .int .i64 fa.bt, .int .i64 fb.k, .int .i64 fb.n, .int .i64 fb.g, .string fb.nm, .string fb.fn, .int .i64 fb.ar, .slice sb nb cb, .string fb.bs, .int .i64 fb.bt, .int .i64 fc.k, .int .i64 fc.n, .int .i64 fc.g, .string fc.nm, .string fc.fn, .int .i64 fc.ar, .slice sc nc cc, .string fc.bs, .int .i64 fc.bt, .int .i64 fd.k, .int .i64 fd.n, .int .i64 fd.g, .string fd.nm, .string fd.fn, .int .i64 fd.ar, .slice sd nd cd, .string fd.bs, .int .i64 fd.bt] 24)) (fun b _ h => h))
    have BN := Lib.hid (Blk.new w1 24 #[.int .i64 fa.k, .int .i64 fa.n, .int .i64 fa.g, .string fa.nm, .string fa.fn, .int .i64 fa.ar, .slice sa na ca, .string fa.bs, .int .i64 fa.bt, .int .i64 fb.k, .int .i64 fb.n, .int .i64 fb.g, .string fb.nm, .string fb.fn, .int .i64 fb.ar, .slice sb nb cb, .string fb.bs, .int .i64 fb.bt, .int .i64 fc.k, .int .i64 fc.n, .int .i64 fc.g, .string fc.nm, .string fc.fn, .int .i64 fc.ar, .slice sc nc cc, .string fc.bs, .int .i64 fc.bt, .int .i64 fd.k, .int .i64 fd.n, .int .i64 fd.g, .string fd.nm, .string fd.fn, .int .i64 fd.ar, .slice sd nd cd, .string fd.bs, .int .i64 fd.bt])
    replace W2 := Lib.hid (W2.out.alloc W2.out.size (.cells #[.int .i64 fa.k, .int .i64 fa.n, .int .i64 fa.g, .string fa.nm, .string fa.fn, .int .i64 fa.ar, .slice sa na ca, .string fa.bs, .int .i64 fa.bt, .int .i64 fb.k, .int .i64 fb.n, .int .i64 fb.g, .string fb.nm, .string fb.fn, .int .i64 fb.ar, .slice sb nb cb, .string fb.bs, .int .i64 fb.bt, .int .i64 fc.k, .int .i64 fc.n, .int .i64 fc.g, .string fc.nm, .string fc.fn, .int .i64 fc.ar, .slice sc nc cc, .string fc.bs, .int .i64 fc.bt, .int .i64 fd.k, .int .i64 fd.n, .int .i64 fd.g, .string fd.nm, .string fd.fn, .int .i64 fd.ar, .slice sd nd cd, .string fd.bs, .int .i64 fd.bt] 24))
    rw [← hbn] at BN
    have HI := Lib.hid (four_items H2.out.fr H2.out.tt H2.out.ref H2.out.val bn 24 BN.out)
    have CC := Lib.hid (CG.out _ _ _ HI.out)
    clear H1 H2 BN CG HI
    go_wp2_with fail
    try rw [← hbn]
    refine CC.out.mono ?_
    rintro e w2 ⟨g, rfl, hg, b2⟩
    have HG := Lib.hid hg
    have B2 := Lib.hid (W2.out.trans (b2.mono W2.out.size))
    clear hg b2 CC W2
    cases g with
    | true =>
      go_wp2_with fail
      go_ret
      exact ⟨true, rfl, fun h => (by cases h), B2.out⟩
    | false =>
      go_wp2_with fail
      go_ret
      exact ⟨false, rfl, fun _ => ⟨HB.out, HG.out trivial⟩, B2.out⟩
end Go.Proofs.YtemlogadbopffaaGreat
namespace Go.Proofs.YtemlogadbopffaaGreat
open Go.RowKit Go.Rt Go.Rw

def rngF (f : Fl) : Prop := (f.nm.size ≤ 9223372036854775807 ∧ f.fn.size ≤ 9223372036854775807 ∧ f.bs.size ≤ 9223372036854775807) ∧ (-9223372036854775808 ≤ f.k ∧ f.k ≤ 9223372036854775807) ∧ (-9223372036854775808 ≤ f.n ∧ f.n ≤ 9223372036854775807) ∧ (-9223372036854775808 ≤ f.g ∧ f.g ≤ 9223372036854775807) ∧ (-9223372036854775808 ≤ f.ar ∧ f.ar ≤ 9223372036854775807) ∧ (-9223372036854775808 ≤ f.bt ∧ f.bt ≤ 9223372036854775807)
mutual
/-- The numbers of a term are numbers of 64 bits. -/
def rngT : Tm → Prop
  | .mk f l => rngF f ∧ rngL l
def rngL : List Tm → Prop
  | [] => True
  | t :: r => rngT t ∧ rngL r
end
mutual
theorem fit_of_small : ∀ t, smallT t → rngT t → fitT t
  | .mk f l, h, g => by
    rw [smallT] at h
    rw [rngT] at g
    rw [fitT]
    obtain ⟨⟨h1, h2, h3⟩, h4⟩ := h
    exact ⟨⟨⟨by omega, by omega, by omega⟩, g.1.2⟩, fitL_of_small l h4 g.2⟩
theorem fitL_of_small : ∀ l, smallL l → rngL l → fitL l
  | [], _, _ => trivial
  | t :: r, h, g => by
    rw [smallL] at h
    rw [rngL] at g
    rw [fitL]
    exact ⟨fit_of_small t h.1 g.1, fitL_of_small r h.2 g.2⟩
end
/-- What kit.Great lets by is examined. -/
theorem ok_of_great {t : Tm} (hr : rngT t) (h : smallT t ∧ cnt t ≤ 6000) : okT t := ⟨fit_of_small t h.1 hr, h.2⟩

theorem choose_list {α : Type} (p : Nat → α → Prop) : ∀ n, (∀ i, i < n → ∃ a, p i a) → ∃ l : List α, l.length = n ∧ ∀ i (h : i < l.length), p i l[i]
  | 0, _ => ⟨[], rfl, fun i h => by simp at h⟩
  | n + 1, h => by
    obtain ⟨l, h1, h2⟩ := choose_list p n (fun i hi => h i (by omega))
    obtain ⟨a, ha⟩ := h n (by omega)
    refine ⟨l ++ [a], by simp [h1], fun i hi => ?_⟩
    rcases Nat.lt_or_ge i l.length with q | q
    · rw [List.getElem_append_left q]; exact h2 i q
    · simp only [List.length_append, List.length_cons, List.length_nil] at hi
      obtain rfl : i = l.length := by omega
      rw [List.getElem_append_right (Nat.le_refl _)]
      simp only [Nat.sub_self, List.getElem_cons_zero, h1]
      exact ha
theorem tms_of {S : Nat → Prop} {W : World} : ∀ As : List (Tm × Ft), (∀ a ∈ As, TmAt S W a.1 a.2) → TmsAt S W (As.map (·.1)) (As.map (·.2))
  | [], _ => by
    show TmsAt S W [] []
    unfold TmsAt
    rfl
  | a :: r, h => by
    show TmsAt S W (a.1 :: r.map (·.1)) (a.2 :: r.map (·.2))
    unfold TmsAt
    exact ⟨_, _, rfl, h a (by simp), tms_of r (fun b hb => h b (by simp [hb]))⟩
theorem rngL_of : ∀ As : List (Tm × Ft), (∀ a ∈ As, rngT a.1) → rngL (As.map (·.1))
  | [], _ => trivial
  | a :: r, h => by
    show rngL (a.1 :: r.map (·.1))
    rw [rngL]
    exact ⟨h a (by simp), rngL_of r (fun b hb => h b (by simp [hb]))⟩
section
variable {H : Type} {enc : TypeId × Value → H} {W : World}
set_option maxRecDepth 100000 in
theorem items_open {fuel : Nat} {v : Value} {x : DataW H × List MemPlace}
    (hopen : ∀ n, n < fuel → ∀ cs y, DataW.trod enc Tryz.prog W 0 (fun _ => true) true n 24 cs = some y → ∃ t x, cs = ftC x ∧ TmAt (fun b => b < W.heap.size) W t x ∧ rngT t)
    (h : DataW.trod enc Tryz.prog W 0 (fun _ => true) true fuel 22 [v] = some x) : ∃ l, ItsAt (fun b => b < W.heap.size) W l v ∧ rngL l := by
  have hk : Tryz.prog.cellsOf 24 = 9 := by kernel_rfl
  rcases DataW.trod_slice Tryz.underlying22 h with ⟨hcs, _⟩ | ⟨a, len, cap, elems, rest, n, hfu, hcs, _, _, hl, hm, hlen, hel, _⟩
  · simp only [List.cons.injEq, and_true] at hcs
    subst hcs
    exact ⟨[], ItsAt.nil none 0, trivial⟩
  · simp only [List.cons.injEq, and_true] at hcs
    subst hcs
    have each : ∀ i, i < len → ∃ u : Tm × Ft, (∀ j, j < 9 → W.cell? ((a.add (i * 9)).add j) = (ftC u.2)[j]?) ∧ TmAt (fun b => b < W.heap.size) W u.1 u.2 ∧ rngT u.1 := by
      intro i hi
      have := hel i hi
      rw [List.getElem?_eq_getElem (by omega), Option.bind_eq_some_iff] at this
      obtain ⟨cs, h1, h2⟩ := this
      rw [hk] at h1
      obtain ⟨_, q2, q3⟩ := World.cells?_some h1
      obtain ⟨t, x, rfl, hu, hr⟩ := hopen n (by omega) _ _ h2
      exact ⟨(t, x), q3, hu, hr⟩
    obtain ⟨As, hA, hg⟩ := choose_list _ len each
    refine ⟨As.map (·.1), ⟨As.map (·.2), ?_, ?_, tms_of As (fun u hu => ?_)⟩, rngL_of As (fun u hu => ?_)⟩
    · by_cases h0 : len = 0
      · subst h0
        obtain rfl := List.eq_nil_of_length_eq_zero hA
        exact .inl ⟨rfl, some a, cap, rfl⟩
      · have c0 := (hg 0 (by omega)).1 0 (by decide)
        obtain ⟨b, o, sp⟩ := a
        have hb : b < W.heap.size ∧ sp = none := by
          rw [List.getElem?_eq_getElem (by rw [ftC_len]; decide)] at c0
          unfold World.cell? at c0
          simp only [Addr.add] at c0
          split at c0
          · rename_i hh
            cases sp with
            | none =>
              simp only [Nat.zero_mul, Nat.add_zero] at hh
              exact ⟨(Array.getElem?_eq_some_iff.1 (by simpa using hh)).1, rfl⟩
            | some q => simp at c0
          · cases c0
        obtain ⟨hb, rfl⟩ := hb
        refine .inr ⟨b, o, cap, by rw [List.length_map, hA], by rw [List.length_map, hA]; unfold maxLen at hm; omega, hb, ?_⟩
        intro i j hi hj
        rw [List.length_map] at hi
        have := (hg i hi).1 j hj
        rw [add_none, add_none] at this
        rw [this, List.getElem_map]
    · intro b o n' c e hn'
      cases e
      have c0 := (hg 0 (by omega)).1 0 (by decide)
      rw [List.getElem?_eq_getElem (by rw [ftC_len]; decide)] at c0
      unfold World.cell? at c0
      simp only [Addr.add] at c0
      split at c0
      · rename_i hh
        simp only [Nat.zero_mul, Nat.add_zero] at hh
        exact (Array.getElem?_eq_some_iff.1 (by simpa using hh)).1
      · cases c0
    · obtain ⟨i, hi, rfl⟩ := List.getElem_of_mem hu
      exact (hg i hi).2.1
    · obtain ⟨i, hi, rfl⟩ := List.getElem_of_mem hu
      exact (hg i hi).2.2
theorem i64_bounds {n : Int} (h : (Lit.int .i64 n).wf = true) : -9223372036854775808 ≤ n ∧ n ≤ 9223372036854775807 := by
  unfold Lit.wf at h
  rw [Bool.and_eq_true, decide_eq_true_eq, decide_eq_true_eq, show IntKind.i64.min = -9223372036854775808 from rfl, show IntKind.i64.max = 9223372036854775807 from rfl] at h
  exact h
set_option maxRecDepth 100000 in
theorem term_open : ∀ (fuel : Nat) (cs : List Value) (y : DataW H × List MemPlace), DataW.trod enc Tryz.prog W 0 (fun _ => true) true fuel 24 cs = some y → ∃ t x, cs = ftC x ∧ TmAt (fun b => b < W.heap.size) W t x ∧ rngT t := by
  intro fuel
  induction fuel using Nat.strongRecOn with
  | _ fuel ih =>
    intro cs y h
    obtain ⟨xs, n, rfl, _, hlen, hx, hf⟩ := DataW.trod_struct Tryz.underlying24 h
    have hc9 : Tryz.prog.cellsOf 24 = 9 := by kernel_rfl
    have k3 : Tryz.prog.cellsOf 3 = 1 := by kernel_rfl
    have k2 : Tryz.prog.cellsOf 2 = 1 := by kernel_rfl
    have k9 : Tryz.prog.cellsOf 9 = 1 := by kernel_rfl
    have k23 : Tryz.prog.cellsOf 22 = 1 := by kernel_rfl
    rw [hc9] at hlen
    have hx9 : xs.length = 9 := hx
    match cs, hlen with
    | [c0, c1, c2, c3, c4, c5, c6, c7, c8], _ =>
      match xs, hx9 with
      | [x0, x1, x2, x3, x4, x5, x6, x7, x8], _ =>
        have h0 : DataW.trod enc Tryz.prog W 0 (fun _ => true) true n 3 [c0] = some x0 := by
          have q : DataW.trod enc Tryz.prog W 0 (fun _ => true) true n 3 (([c0, c1, c2, c3, c4, c5, c6, c7, c8].drop 0).take (Tryz.prog.cellsOf 3)) = some x0 := hf 0 _ rfl
          rw [k3] at q
          exact q
        have h1 : DataW.trod enc Tryz.prog W 0 (fun _ => true) true n 2 [c1] = some x1 := by
          have q : DataW.trod enc Tryz.prog W 0 (fun _ => true) true n 2 (([c0, c1, c2, c3, c4, c5, c6, c7, c8].drop 1).take (Tryz.prog.cellsOf 2)) = some x1 := hf 1 _ rfl
          rw [k2] at q
          exact q
        have h2 : DataW.trod enc Tryz.prog W 0 (fun _ => true) true n 2 [c2] = some x2 := by
          have q : DataW.trod enc Tryz.prog W 0 (fun _ => true) true n 2 (([c0, c1, c2, c3, c4, c5, c6, c7, c8].drop 2).take (Tryz.prog.cellsOf 2)) = some x2 := hf 2 _ rfl
          rw [k2] at q
          exact q
        have h3 : DataW.trod enc Tryz.prog W 0 (fun _ => true) true n 9 [c3] = some x3 := by
          have q : DataW.trod enc Tryz.prog W 0 (fun _ => true) true n 9 (([c0, c1, c2, c3, c4, c5, c6, c7, c8].drop 3).take (Tryz.prog.cellsOf 9)) = some x3 := hf 3 _ rfl
          rw [k9] at q
          exact q
        have h4 : DataW.trod enc Tryz.prog W 0 (fun _ => true) true n 9 [c4] = some x4 := by
          have q : DataW.trod enc Tryz.prog W 0 (fun _ => true) true n 9 (([c0, c1, c2, c3, c4, c5, c6, c7, c8].drop 4).take (Tryz.prog.cellsOf 9)) = some x4 := hf 4 _ rfl
          rw [k9] at q
          exact q
        have h5 : DataW.trod enc Tryz.prog W 0 (fun _ => true) true n 3 [c5] = some x5 := by
          have q : DataW.trod enc Tryz.prog W 0 (fun _ => true) true n 3 (([c0, c1, c2, c3, c4, c5, c6, c7, c8].drop 5).take (Tryz.prog.cellsOf 3)) = some x5 := hf 5 _ rfl
          rw [k3] at q
          exact q
        have h6 : DataW.trod enc Tryz.prog W 0 (fun _ => true) true n 22 [c6] = some x6 := by
          have q : DataW.trod enc Tryz.prog W 0 (fun _ => true) true n 22 (([c0, c1, c2, c3, c4, c5, c6, c7, c8].drop 6).take (Tryz.prog.cellsOf 22)) = some x6 := hf 6 _ rfl
          rw [k23] at q
          exact q
        have h7 : DataW.trod enc Tryz.prog W 0 (fun _ => true) true n 9 [c7] = some x7 := by
          have q : DataW.trod enc Tryz.prog W 0 (fun _ => true) true n 9 (([c0, c1, c2, c3, c4, c5, c6, c7, c8].drop 7).take (Tryz.prog.cellsOf 9)) = some x7 := hf 7 _ rfl
          rw [k9] at q
          exact q
        have h8 : DataW.trod enc Tryz.prog W 0 (fun _ => true) true n 3 [c8] = some x8 := by
          have q : DataW.trod enc Tryz.prog W 0 (fun _ => true) true n 3 (([c0, c1, c2, c3, c4, c5, c6, c7, c8].drop 8).take (Tryz.prog.cellsOf 3)) = some x8 := hf 8 _ rfl
          rw [k3] at q
          exact q
        obtain ⟨a0, e0, -, w0⟩ := DataW.trod_int Tryz.underlying3 h0
        obtain ⟨a1, e1, -, w1⟩ := DataW.trod_int Tryz.underlying2 h1
        obtain ⟨a2, e2, -, w2⟩ := DataW.trod_int Tryz.underlying2 h2
        obtain ⟨a3, e3, -, w3⟩ := DataW.trod_string Tryz.underlying9 h3
        obtain ⟨a4, e4, -, w4⟩ := DataW.trod_string Tryz.underlying9 h4
        obtain ⟨a5, e5, -, w5⟩ := DataW.trod_int Tryz.underlying3 h5
        obtain ⟨l, hl, hr⟩ := items_open (fun m hm => ih m (by omega)) (show DataW.trod enc Tryz.prog W 0 (fun _ => true) true n 22 [c6] = some x6 from h6)
        obtain ⟨a7, e7, -, w7⟩ := DataW.trod_string Tryz.underlying9 h7
        obtain ⟨a8, e8, -, w8⟩ := DataW.trod_int Tryz.underlying3 h8
        cases e0; cases e1; cases e2; cases e3; cases e4; cases e5; cases e7; cases e8
        unfold maxLen at w3 w4 w7
        refine ⟨.mk ⟨a0, a1, a2, a3, a4, a5, a7, a8⟩ l, ⟨⟨a0, a1, a2, a3, a4, a5, a7, a8⟩, c6⟩, rfl, TmAt.of rfl hl, ?_⟩
        rw [rngT]
        exact ⟨⟨⟨by show a3.size ≤ _; omega, by show a4.size ≤ _; omega, by show a7.size ≤ _; omega⟩, i64_bounds w0, i64_bounds w1, i64_bounds w2, i64_bounds w5, i64_bounds w8⟩, hr⟩
set_option maxRecDepth 100000 in
/-- A term among the arguments. -/
theorem term_arg {r : Reach} {b0 : Nat} {v : Value} {d : DataW H} {p : List MemPlace} (hv : Value.okWide Tryz.prog W r b0 24 v) (h : DataW.Trod enc Tryz.prog W 0 (fun _ => true) true 24 v d p) :
    ∃ t x, v = ftV x ∧ TmAt (fun b => b < W.heap.size) W t x ∧ rngT t := by
  obtain ⟨cs, rfl, _⟩ := Go.WideShapes.okWide_struct Tryz.underlying24 hv
  obtain ⟨fuel, hf⟩ := h
  obtain ⟨t, x, e, ht, hr⟩ := term_open fuel _ _ hf
  refine ⟨t, x, ?_, ht, hr⟩
  have e : cs.toList = ftC x := e
  show Value.agg cs = .agg (ftC x).toArray
  rw [← e]
/-- The numbers of a signal are numbers of 64 bits. -/
structure RngS (s : Sg) : Prop where
  k : -9223372036854775808 ≤ s.k ∧ s.k ≤ 9223372036854775807
  num : -9223372036854775808 ≤ s.num ∧ s.num ≤ 9223372036854775807
  fr : rngT s.fr
  tt : rngT s.tt
  ref : rngT s.ref
  val : rngT s.val
  node : s.node.size ≤ 9223372036854775807
  name : s.name.size ≤ 9223372036854775807
set_option maxRecDepth 100000 in
theorem sig_open (fuel : Nat) (cs : List Value) (y : DataW H × List MemPlace) (h : DataW.trod enc Tryz.prog W 0 (fun _ => true) true fuel 26 cs = some y) : ∃ s x, cs = sgC s x ∧ SgAt (fun b => b < W.heap.size) W s x ∧ RngS s := by
  obtain ⟨xs, n, rfl, _, hlen, hx, hf⟩ := DataW.trod_struct Tryz.underlying26 h
  have hc40 : Tryz.prog.cellsOf 26 = 40 := by kernel_rfl
  have k3 : Tryz.prog.cellsOf 3 = 1 := by kernel_rfl
  have k2 : Tryz.prog.cellsOf 2 = 1 := by kernel_rfl
  have k9 : Tryz.prog.cellsOf 9 = 1 := by kernel_rfl
  have k24 : Tryz.prog.cellsOf 24 = 9 := by kernel_rfl
  rw [hc40] at hlen
  have hx8 : xs.length = 8 := hx
  match xs, hx8 with
  | [x0, x1, x2, x3, x4, x5, x6, x7], _ =>
    have h0 : DataW.trod enc Tryz.prog W 0 (fun _ => true) true n 3 ((cs.drop 0).take 1) = some x0 := by
      have q : DataW.trod enc Tryz.prog W 0 (fun _ => true) true n 3 ((cs.drop 0).take (Tryz.prog.cellsOf 3)) = some x0 := hf 0 _ rfl
      rw [k3] at q
      exact q
    have h1 : DataW.trod enc Tryz.prog W 0 (fun _ => true) true n 24 ((cs.drop 1).take 9) = some x1 := by
      have q : DataW.trod enc Tryz.prog W 0 (fun _ => true) true n 24 ((cs.drop 1).take (Tryz.prog.cellsOf 24)) = some x1 := hf 1 _ rfl
      rw [k24] at q
      exact q
    have h2 : DataW.trod enc Tryz.prog W 0 (fun _ => true) true n 24 ((cs.drop 10).take 9) = some x2 := by
      have q : DataW.trod enc Tryz.prog W 0 (fun _ => true) true n 24 ((cs.drop 10).take (Tryz.prog.cellsOf 24)) = some x2 := hf 2 _ rfl
      rw [k24] at q
      exact q
    have h3 : DataW.trod enc Tryz.prog W 0 (fun _ => true) true n 9 ((cs.drop 19).take 1) = some x3 := by
      have q : DataW.trod enc Tryz.prog W 0 (fun _ => true) true n 9 ((cs.drop 19).take (Tryz.prog.cellsOf 9)) = some x3 := hf 3 _ rfl
      rw [k9] at q
      exact q
    have h4 : DataW.trod enc Tryz.prog W 0 (fun _ => true) true n 9 ((cs.drop 20).take 1) = some x4 := by
      have q : DataW.trod enc Tryz.prog W 0 (fun _ => true) true n 9 ((cs.drop 20).take (Tryz.prog.cellsOf 9)) = some x4 := hf 4 _ rfl
      rw [k9] at q
      exact q
    have h5 : DataW.trod enc Tryz.prog W 0 (fun _ => true) true n 24 ((cs.drop 21).take 9) = some x5 := by
      have q : DataW.trod enc Tryz.prog W 0 (fun _ => true) true n 24 ((cs.drop 21).take (Tryz.prog.cellsOf 24)) = some x5 := hf 5 _ rfl
      rw [k24] at q
      exact q
    have h6 : DataW.trod enc Tryz.prog W 0 (fun _ => true) true n 2 ((cs.drop 30).take 1) = some x6 := by
      have q : DataW.trod enc Tryz.prog W 0 (fun _ => true) true n 2 ((cs.drop 30).take (Tryz.prog.cellsOf 2)) = some x6 := hf 6 _ rfl
      rw [k2] at q
      exact q
    have h7 : DataW.trod enc Tryz.prog W 0 (fun _ => true) true n 24 ((cs.drop 31).take 9) = some x7 := by
      have q : DataW.trod enc Tryz.prog W 0 (fun _ => true) true n 24 ((cs.drop 31).take (Tryz.prog.cellsOf 24)) = some x7 := hf 7 _ rfl
      rw [k24] at q
      exact q
    obtain ⟨a0, e0, -, w0⟩ := DataW.trod_int Tryz.underlying3 h0
    obtain ⟨t1, f1, e1, q1, r1⟩ := term_open _ _ _ h1
    obtain ⟨t2, f2, e2, q2, r2⟩ := term_open _ _ _ h2
    obtain ⟨a3, e3, -, w3⟩ := DataW.trod_string Tryz.underlying9 h3
    obtain ⟨a4, e4, -, w4⟩ := DataW.trod_string Tryz.underlying9 h4
    obtain ⟨t5, f5, e5, q5, r5⟩ := term_open _ _ _ h5
    obtain ⟨a6, e6, -, w6⟩ := DataW.trod_int Tryz.underlying2 h6
    obtain ⟨t7, f7, e7, q7, r7⟩ := term_open _ _ _ h7
    unfold maxLen at w3 w4
    refine ⟨⟨a0, t1, t2, a3, a4, t5, a6, t7⟩, ⟨f1, f2, f5, f7⟩, ?_, ⟨q1, q2, q5, q7⟩, ⟨i64_bounds w0, i64_bounds w6, r1, r2, r5, r7, by show a3.size ≤ _; omega, by show a4.size ≤ _; omega⟩⟩
    have split : ∀ (L : List Value), L.length = 40 → L = ((L.drop 0).take 1) ++ ((L.drop 1).take 9) ++ ((L.drop 10).take 9) ++ (((L.drop 19).take 1) ++ ((L.drop 20).take 1)) ++ ((L.drop 21).take 9) ++ ((L.drop 30).take 1) ++ ((L.drop 31).take 9) := by
      intro L hL
      have st : ∀ (a n : Nat), L.drop a = (L.drop a).take n ++ L.drop (a + n) := fun a n => by
        rw [← List.drop_drop, List.take_append_drop]
      have h := st 0 1
      rw [st (0 + 1) 9, st (0 + 1 + 9) 9, st (0 + 1 + 9 + 9) 1, st (0 + 1 + 9 + 9 + 1) 1, st (0 + 1 + 9 + 9 + 1 + 1) 9, st (0 + 1 + 9 + 9 + 1 + 1 + 9) 1] at h
      have e7 : (L.drop 31).take 9 = L.drop 31 := List.take_of_length_le (by rw [List.length_drop, hL]; omega)
      rw [e7]
      simp only [List.append_assoc]
      exact h
    rw [split cs hlen, e0, e1, e2, e3, e4, e5, e6, e7]
    rfl
set_option maxRecDepth 100000 in
/-- A signal among the arguments. -/
theorem sig_arg {r : Reach} {b0 : Nat} {v : Value} {d : DataW H} {p : List MemPlace} (hv : Value.okWide Tryz.prog W r b0 26 v) (h : DataW.Trod enc Tryz.prog W 0 (fun _ => true) true 26 v d p) :
    ∃ s x, v = sgV s x ∧ SgAt (fun b => b < W.heap.size) W s x ∧ RngS s := by
  obtain ⟨cs, rfl, _⟩ := Go.WideShapes.okWide_struct Tryz.underlying26 hv
  obtain ⟨fuel, hf⟩ := h
  obtain ⟨s, x, e, ht, hr⟩ := sig_open fuel _ _ hf
  refine ⟨s, x, ?_, ht, hr⟩
  have e : cs.toList = sgC s x := e
  show Value.agg cs = .agg (sgC s x).toArray
  rw [← e]
end
end Go.Proofs.YtemlogadbopffaaGreat
