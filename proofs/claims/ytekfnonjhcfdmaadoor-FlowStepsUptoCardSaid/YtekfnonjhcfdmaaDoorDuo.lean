/- flow's two rows of sets side by side: live and defs, in memory. -/
import Derived.Test.YtekfnonjhcfdmaaDoorFam
namespace Go.Proofs.YtekfnonjhcfdmaaDoor
open Go Go.RowKit Go.Rt Go.Rw

/-- A row: where each set lies, what it holds. -/
structure Row where
  b : Nat → Nat
  o : Nat → Option Nat
  s : Nat → List Nat
  T : List Value
def Row.put (R : Row) (j b : Nat) (o : Option Nat) (s : List Nat) : Row := ⟨upd R.b j b, upd R.o j o, upd R.s j s, R.T.set j (sp b)⟩
def Row.turn (R : Row) (j : Nat) (o : Option Nat) (s : List Nat) : Row := ⟨R.b, upd R.o j o, upd R.s j s, R.T⟩
def RowAt (W : World) (base n k g : Nat) (R : Row) : Prop := Fam W base n k g R.T R.b R.o R.s
/-- Both rows. -/
structure LD (m1 n k p1 p2 g1 g2 : Nat) (L D : Row) (W : World) : Prop where
  x1 : Blk W p1 58 #[.slice (some ⟨g1, 0, none⟩) n n]
  x2 : Blk W p2 58 #[.slice (some ⟨g2, 0, none⟩) n n]
  fl : RowAt W m1 n k g1 L
  fd : RowAt W m1 n k g2 D
  ap : Apart k k L.b L.o D.b D.o
  lo : m1 ≤ p1 ∧ m1 ≤ p2 ∧ m1 ≤ g1 ∧ m1 ≤ g2 ∧ g1 ≠ g2
theorem LD.below {m1 n k p1 p2 g1 g2 : Nat} {L D : Row} {W W' : World} (h : LD m1 n k p1 p2 g1 g2 L D W) {m : Nat} (hb : Below m W W') (hm : W.heap.size ≤ m) : LD m1 n k p1 p2 g1 g2 L D W' :=
  ⟨Blk.below h.x1 hb (Nat.lt_of_lt_of_le h.x1.lt hm), Blk.below h.x2 hb (Nat.lt_of_lt_of_le h.x2.lt hm), Fam.below h.fl hb hm, Fam.below h.fd hb hm, h.ap, h.lo⟩
/-- Blocks of other types turn. -/
theorem LD.far {m1 n k p1 p2 g1 g2 : Nat} {L D : Row} {W W' : World} (h : LD m1 n k p1 p2 g1 g2 L D W) {bs : List Nat} (ho : Only bs W W') (hb : ∀ r ∈ bs, ∀ t cs, Blk W r t cs → t ≠ 58 ∧ t ≠ 59 ∧ t ≠ 62 ∧ t ≠ 95) : LD m1 n k p1 p2 g1 g2 L D W' := by
  have hne : ∀ {g : Nat} {t : TypeId} {cs : Array Value}, Blk W g t cs → (t = 58 ∨ t = 59) → g ∉ bs := fun hg ht hm => by
    have := hb _ hm _ _ hg
    rcases ht with rfl | rfl
    · exact this.1 rfl
    · exact this.2.1 rfl
  have hset : ∀ {b : Nat} {o : Option Nat} {s : List Nat}, SetAt W m1 b o s → ∀ r ∈ own b o, r ∉ bs := by
    rintro b o s ⟨_, _, sa, co, h2, h3, h4⟩ r hr hm
    unfold own at hr
    rw [List.mem_cons, Option.mem_toList] at hr
    rcases hr with rfl | hr
    · exact (hb _ hm _ _ h2).2.2.1 rfl
    · rw [← h4] at hr
      rcases h3.2 with ⟨q, _⟩ | ⟨g, cap, cur, q, _, q3, _⟩
      · rw [q] at hr
        simp [Value.ownBlock] at hr
      · rw [q] at hr
        simp only [Value.ownBlock, Option.some.injEq] at hr
        subst hr
        exact (hb _ hm _ _ (show Blk W g 95 cur from q3)).2.2.2 rfl
  exact ⟨Blk.only h.x1 ho (hne h.x1 (.inl rfl)), Blk.only h.x2 ho (hne h.x2 (.inl rfl)), Fam.only h.fl ho (hne h.fl.arr (.inr rfl)) (fun i hi => hset (h.fl.set i hi)), Fam.only h.fd ho (hne h.fd.arr (.inr rfl)) (fun i hi => hset (h.fd.set i hi)), h.ap, h.lo⟩
/-- A cell of another type is set. -/
theorem LD.cell {m1 n k p1 p2 g1 g2 : Nat} {L D : Row} {W : World} (h : LD m1 n k p1 p2 g1 g2 L D W) {c : Nat} {t : TypeId} {cs : Array Value} (hc : Blk W c t cs) (ht : t ≠ 58 ∧ t ≠ 59 ∧ t ≠ 62 ∧ t ≠ 95) (v : Value) : LD m1 n k p1 p2 g1 g2 L D (W.setCell ⟨c, 0, none⟩ v) :=
  h.far (bs := [c]) (Only.setCell W _ v (by simp)) (fun r hr t' cs' hb => by
    rw [List.mem_singleton] at hr
    subst hr
    have := hc.symm.trans hb
    simp only [Option.some.injEq, Obj.cells.injEq] at this
    rw [← this.2.1]
    exact ht)
/-- One set of the first row is joined. -/
theorem LD.join {m1 n k p1 p2 g1 g2 : Nat} {L D : Row} {W W' : World} (h : LD m1 n k p1 p2 g1 g2 L D W) {i : Nat} (hi : i < k) {o' : Option Nat} {s' : List Nat} (hs : SetAt W' m1 (L.b i) o' s') (hm : Same W (L.o i) o') (ho : Only (own (L.b i) (L.o i)) W W') : LD m1 n k p1 p2 g1 g2 (L.turn i o' s') D W' := by
  refine ⟨h.x1.only ho ((h.fl.set i hi).not h.x1 (by decide) (by decide)), h.x2.only ho ((h.fl.set i hi).not h.x2 (by decide) (by decide)), Fam.join h.fl hi hs hm ho, Fam.only h.fd ho ((h.fl.set i hi).not h.fd.arr (by decide) (by decide)) (fun j hj r hr hr2 => h.ap i j hi hj r hr2 hr), fun a j ha hj r hr hr2 => ?_, h.lo⟩
  by_cases e : a = i
  · subst e
    simp only [Row.turn, upd_at] at hr
    unfold own at hr
    rw [List.mem_cons, Option.mem_toList] at hr
    have h1 := h.ap a j ha hj r
    unfold own at h1
    rw [List.mem_cons, Option.mem_toList] at h1
    rcases hr with q | q
    · exact h1 (.inl q) hr2
    · rcases hm with rfl | ⟨g, rfl, hg⟩
      · exact h1 (.inr q) hr2
      · simp only [Option.some.injEq] at q
        have := ((h.fd.set j hj).lt r hr2).2
        omega
  · simp only [Row.turn, upd_ne _ _ e] at hr
    exact h.ap a j ha hj r hr hr2
/-- One set of the first row is put anew. -/
theorem LD.put {m1 n k p1 p2 g1 g2 : Nat} {L D : Row} {W0 W : World} (h : LD m1 n k p1 p2 g1 g2 L D W0) (hb : Below W0.heap.size W0 W) {j b : Nat} {o : Option Nat} {s : List Nat} (hj : j < k) (hk : k ≤ n) (hs : SetAt W m1 b o s) (hf : ∀ r ∈ own b o, W0.heap.size ≤ r) :
    LD m1 n k p1 p2 g1 g2 (L.put j b o s) D (W.setCell ⟨g1, j, none⟩ (sp b)) := by
  have h1 := h.below hb (Nat.le_refl _)
  have hg : g1 ∉ own b o := hs.not h1.fl.arr (by decide) (by decide)
  have ho : Only [g1] W (W.setCell ⟨g1, j, none⟩ (sp b)) := Only.setCell W _ _ (by simp)
  have nin : ∀ {r : Nat} {t : TypeId} {cs : Array Value}, Blk W r t cs → t ≠ 59 → r ∉ [g1] := fun hr ht hm => by
    rw [List.mem_singleton] at hm
    exact blk_ne hr h1.fl.arr ht hm
  have sn : ∀ {b : Nat} {o : Option Nat} {s : List Nat}, SetAt W m1 b o s → ∀ r ∈ own b o, r ∉ [g1] := fun hs r hr hm => by
    rw [List.mem_singleton] at hm
    subst hm
    exact hs.not h1.fl.arr (by decide) (by decide) hr
  have hfar : ∀ {b2 : Nat} {o2 : Option Nat} {s2 : List Nat}, SetAt W0 m1 b2 o2 s2 → ∀ r ∈ own b2 o2, r ∉ own b o := fun hs2 r hr hm => by
    have := hf r hm
    have := (hs2.lt r hr).2
    omega
  have ho2 : Only [g1] W0 (W.setCell ⟨g1, j, none⟩ (sp b)) := (Only.of_below hb).trans ho
  refine ⟨h1.x1.only ho (nin h1.x1 (by decide)), h1.x2.only ho (nin h1.x2 (by decide)), Fam.make h.fl (bs := [g1]) ho2 (fun i hi r hr => sn (h1.fl.set i hi) r hr) (Nat.lt_of_lt_of_le hj hk) (fun i hi _ => hi) ?_ (hs.only ho (sn hs)) hf, Fam.only h1.fd ho (by rw [List.mem_singleton]; exact fun e => h.lo.2.2.2.2 e.symm) (fun i hi => sn (h1.fd.set i hi)), fun a c ha hc r hr hr2 => ?_, h.lo⟩
  · have := h1.fl.arr.set_ j (sp b)
    rwa [List.setIfInBounds_toArray] at this
  · by_cases e : a = j
    · subst e
      simp only [Row.put, upd_at] at hr
      exact hfar (h.fd.set c hc) r hr2 hr
    · simp only [Row.put, upd_ne _ _ e] at hr
      exact h.ap a c ha hc r hr hr2
/-- While both rows get one set more. -/
structure LG (m1 n k p1 p2 g1 g2 : Nat) (wr : World) (L D : Row) (z : Nat) (T1 T2 : List Value) (a : Option Nat) (c : Option (Nat × Option Nat × List Nat)) (W : World) : Prop where
  below : Below m1 wr W
  x1 : Blk W p1 58 #[.slice (some ⟨g1, 0, none⟩) n n]
  x2 : Blk W p2 58 #[.slice (some ⟨g2, 0, none⟩) n n]
  a1 : Blk W g1 59 T1.toArray
  a2 : Blk W g2 59 T2.toArray
  sl : ∀ i, i < k → SetAt W m1 (L.b i) (L.o i) (L.s i)
  sd : ∀ i, i < k → SetAt W m1 (D.b i) (D.o i) (D.s i)
  zz : z ≤ W.heap.size ∧ m1 ≤ z ∧ m1 ≤ wr.heap.size
  na : ∀ b, a = some b → z ≤ b ∧ SetAt W m1 b none []
  nc : ∀ b o s, c = some (b, o, s) → SetAt W m1 b o s ∧ ∀ r ∈ own b o, z ≤ r
  ac : ∀ b b' o s, a = some b → c = some (b', o, s) → b ∉ own b' o
theorem LG.start {m1 n k p1 p2 g1 g2 : Nat} {wr : World} {L D : Row} {W : World} (h : LD m1 n k p1 p2 g1 g2 L D W) (hb : Below m1 wr W) (h1 : m1 ≤ wr.heap.size) : LG m1 n k p1 p2 g1 g2 wr L D W.heap.size L.T D.T none none W :=
  ⟨hb, h.x1, h.x2, h.fl.arr, h.fd.arr, h.fl.set, h.fd.set, ⟨Nat.le_refl _, Nat.le_trans h1 hb.size, h1⟩, fun b e => (by cases e), fun b o s e => (by cases e), fun b b' o s e => (by cases e)⟩
section
variable {m1 n k p1 p2 g1 g2 : Nat} {wr : World} {L D : Row} {z : Nat} {T1 T2 : List Value} {a : Option Nat} {c : Option (Nat × Option Nat × List Nat)} {W : World}
theorem LG.grow {W' : World} (h : LG m1 n k p1 p2 g1 g2 wr L D z T1 T2 a c W) {m : Nat} (hb : Below m W W') (hm : W.heap.size ≤ m) : LG m1 n k p1 p2 g1 g2 wr L D z T1 T2 a c W' :=
  ⟨h.below.trans (hb.mono (by have := h.zz; omega)), h.x1.below hb (Nat.lt_of_lt_of_le h.x1.lt hm), h.x2.below hb (Nat.lt_of_lt_of_le h.x2.lt hm), h.a1.below hb (Nat.lt_of_lt_of_le h.a1.lt hm), h.a2.below hb (Nat.lt_of_lt_of_le h.a2.lt hm),
    fun i hi => (h.sl i hi).below hb hm, fun i hi => (h.sd i hi).below hb hm, ⟨Nat.le_trans h.zz.1 hb.size, h.zz.2⟩, fun b e => ⟨(h.na b e).1, (h.na b e).2.below hb hm⟩, fun b o s e => ⟨(h.nc b o s e).1.below hb hm, (h.nc b o s e).2⟩, h.ac⟩
theorem LG.box (h : LG m1 n k p1 p2 g1 g2 wr L D z T1 T2 none c W) {W' : World} (hW : W.alloc (.cells #[.slice none 0 0] 62) = W') : LG m1 n k p1 p2 g1 g2 wr L D z T1 T2 (some W.heap.size) c W' := by
  subst hW
  have h1 := h.grow (W' := W.alloc (.cells #[.slice none 0 0] 62)) ((Below.refl _ W).alloc (Nat.le_refl _) _) (Nat.le_refl _)
  refine ⟨h1.below, h1.x1, h1.x2, h1.a1, h1.a2, h1.sl, h1.sd, h1.zz, fun b e => ?_, h1.nc, fun b b' o s e e2 hm => ?_⟩
  · cases e
    exact ⟨h.zz.1, by have := h.zz; omega, fun x hx => (by cases hx), none, 0, Blk.new W 62 _, Sl.nil _ _ _ _ _, rfl⟩
  · cases e
    have := ((h.nc _ _ _ e2).1.lt _ hm).2
    omega
theorem LG.nums (h : LG m1 n k p1 p2 g1 g2 wr L D z T1 T2 a none W) {W' : World} {b : Nat} {o : Option Nat} {s : List Nat} (hb : Below W.heap.size W W') (hs : SetAt W' W.heap.size b o s) : LG m1 n k p1 p2 g1 g2 wr L D z T1 T2 a (some (b, o, s)) W' := by
  have h1 := h.grow hb (Nat.le_refl _)
  refine ⟨h1.below, h1.x1, h1.x2, h1.a1, h1.a2, h1.sl, h1.sd, h1.zz, h1.na, fun b2 o2 s2 e => ?_, fun b1 b2 o2 s2 e1 e2 hm => ?_⟩
  · cases e
    have := h.zz
    exact ⟨hs.mono (by omega), fun r hr => by have := (hs.lt r hr).1; omega⟩
  · cases e2
    have h2 := (hs.lt _ hm).1
    have h3 := ((h.na _ e1).2.lt b1 (by simp [own])).2
    omega
theorem LG.st1 (h : LG m1 n k p1 p2 g1 g2 wr L D z T1 T2 a c W) (hlo : m1 ≤ g1 ∧ g1 ≠ g2) (i b : Nat) {W' : World} (hW : W.setCell ⟨g1, i, none⟩ (sp b) = W') : LG m1 n k p1 p2 g1 g2 wr L D z (T1.set i (sp b)) T2 a c W' := by
  subst hW
  have ho : Only [g1] W (W.setCell ⟨g1, i, none⟩ (sp b)) := Only.setCell W _ _ (by simp)
  have nin : ∀ {r : Nat} {t : TypeId} {cs : Array Value}, Blk W r t cs → t ≠ 59 → r ∉ [g1] := fun hr ht hm => by
    rw [List.mem_singleton] at hm
    exact blk_ne hr h.a1 ht hm
  have sn : ∀ {b : Nat} {o : Option Nat} {s : List Nat}, SetAt W m1 b o s → ∀ r ∈ own b o, r ∉ [g1] := fun hs r hr hm => by
    rw [List.mem_singleton] at hm
    subst hm
    exact hs.not h.a1 (by decide) (by decide) hr
  refine ⟨h.below.setCell (p := ⟨g1, i, none⟩) hlo.1 _, h.x1.only ho (nin h.x1 (by decide)), h.x2.only ho (nin h.x2 (by decide)), ?_, h.a2.far (p := ⟨g1, i, none⟩) (Ne.symm hlo.2) _, fun i hi => (h.sl i hi).only ho (sn (h.sl i hi)), fun i hi => (h.sd i hi).only ho (sn (h.sd i hi)), ⟨Nat.le_trans h.zz.1 ho.size, h.zz.2⟩, fun b e => ⟨(h.na b e).1, (h.na b e).2.only ho (sn (h.na b e).2)⟩, fun b o s e => ⟨(h.nc b o s e).1.only ho (sn (h.nc b o s e).1), (h.nc b o s e).2⟩, h.ac⟩
  have := h.a1.set_ i (sp b)
  rwa [List.setIfInBounds_toArray] at this
theorem LG.st2 (h : LG m1 n k p1 p2 g1 g2 wr L D z T1 T2 a c W) (hlo : m1 ≤ g2 ∧ g1 ≠ g2) (i b : Nat) {W' : World} (hW : W.setCell ⟨g2, i, none⟩ (sp b) = W') : LG m1 n k p1 p2 g1 g2 wr L D z T1 (T2.set i (sp b)) a c W' := by
  subst hW
  have ho : Only [g2] W (W.setCell ⟨g2, i, none⟩ (sp b)) := Only.setCell W _ _ (by simp)
  have nin : ∀ {r : Nat} {t : TypeId} {cs : Array Value}, Blk W r t cs → t ≠ 59 → r ∉ [g2] := fun hr ht hm => by
    rw [List.mem_singleton] at hm
    exact blk_ne hr h.a2 ht hm
  have sn : ∀ {b : Nat} {o : Option Nat} {s : List Nat}, SetAt W m1 b o s → ∀ r ∈ own b o, r ∉ [g2] := fun hs r hr hm => by
    rw [List.mem_singleton] at hm
    subst hm
    exact hs.not h.a2 (by decide) (by decide) hr
  refine ⟨h.below.setCell (p := ⟨g2, i, none⟩) hlo.1 _, h.x1.only ho (nin h.x1 (by decide)), h.x2.only ho (nin h.x2 (by decide)), h.a1.far (p := ⟨g2, i, none⟩) hlo.2 _, ?_, fun i hi => (h.sl i hi).only ho (sn (h.sl i hi)), fun i hi => (h.sd i hi).only ho (sn (h.sd i hi)), ⟨Nat.le_trans h.zz.1 ho.size, h.zz.2⟩, fun b e => ⟨(h.na b e).1, (h.na b e).2.only ho (sn (h.na b e).2)⟩, fun b o s e => ⟨(h.nc b o s e).1.only ho (sn (h.nc b o s e).1), (h.nc b o s e).2⟩, h.ac⟩
  have := h.a2.set_ i (sp b)
  rwa [List.setIfInBounds_toArray] at this
/-- Both rows have it. -/
theorem LG.fin {W0 : World} {b1 b2 : Nat} {o2 : Option Nat} {s2 : List Nat} (h0 : LD m1 n k p1 p2 g1 g2 L D W0) (hk : k < n) (h : LG m1 n k p1 p2 g1 g2 wr L D W0.heap.size (L.T.set k (sp b1)) (D.T.set k (sp b2)) (some b1) (some (b2, o2, s2)) W) : LD m1 n (k + 1) p1 p2 g1 g2 (L.put k b1 none []) (D.put k b2 o2 s2) W := by
  obtain ⟨na1, na2⟩ := h.na _ rfl
  obtain ⟨nc1, nc2⟩ := h.nc _ _ _ rfl
  have hac := h.ac _ _ _ _ rfl rfl
  have row : ∀ {g b : Nat} {o : Option Nat} {s : List Nat} {R : Row}, RowAt W0 m1 n k g R → Blk W g 59 (R.T.set k (sp b)).toArray → (∀ i, i < k → SetAt W m1 (R.b i) (R.o i) (R.s i)) → SetAt W m1 b o s → (∀ r ∈ own b o, W0.heap.size ≤ r) → RowAt W m1 n (k + 1) g (R.put k b o s) := by
    intro g b o s R hR ha hse hs hf
    refine ⟨by show (R.T.set k (sp b)).length = n; rw [List.length_set]; exact hR.len, ha, fun i hi => ?_, fun i hi => ?_, fun i j hi hj hne r hr hr2 => ?_⟩
    · by_cases e : i = k
      · subst e
        show (R.T.set i (sp b))[i]? = some (sp (upd R.b i b i))
        rw [upd_at, List.getElem?_set_self (by rw [hR.len]; exact hk)]
      · show (R.T.set k (sp b))[i]? = some (sp (upd R.b k b i))
        rw [upd_ne _ _ e, List.getElem?_set_ne (Ne.symm e)]
        exact hR.ptr i (by omega)
    · by_cases e : i = k
      · subst e
        simp only [Row.put, upd_at]
        exact hs
      · simp only [Row.put, upd_ne _ _ e]
        exact hse i (by omega)
    · by_cases e : i = k
      · subst e
        simp only [Row.put, upd_at, upd_ne _ _ (Ne.symm hne)] at hr hr2
        have q1 := hf r hr
        have q2 := ((hR.set j (by omega)).lt r hr2).2
        omega
      · by_cases e2 : j = k
        · subst e2
          simp only [Row.put, upd_at, upd_ne _ _ e] at hr hr2
          have q1 := hf r hr2
          have q2 := ((hR.set i (by omega)).lt r hr).2
          omega
        · simp only [Row.put, upd_ne _ _ e, upd_ne _ _ e2] at hr hr2
          exact hR.ne i j (by omega) (by omega) hne r hr hr2
  have f1 : ∀ r ∈ own b1 none, W0.heap.size ≤ r := fun r hr => by
    simp [own] at hr
    omega
  refine ⟨h.x1, h.x2, row h0.fl h.a1 h.sl na2 f1, row h0.fd h.a2 h.sd nc1 nc2, fun i j hi hj r hr hr2 => ?_, h0.lo⟩
  by_cases e : i = k
  · subst e
    by_cases e2 : j = i
    · subst e2
      simp only [Row.put, upd_at] at hr hr2
      simp [own] at hr
      subst hr
      exact hac hr2
    · simp only [Row.put, upd_at, upd_ne _ _ e2] at hr hr2
      have q1 := f1 r hr
      have q2 := ((h0.fd.set j (by omega)).lt r hr2).2
      omega
  · by_cases e2 : j = k
    · subst e2
      simp only [Row.put, upd_at, upd_ne _ _ e] at hr hr2
      have q1 := nc2 r hr2
      have q2 := ((h0.fl.set i (by omega)).lt r hr).2
      omega
    · simp only [Row.put, upd_ne _ _ e, upd_ne _ _ e2] at hr hr2
      exact h0.ap i j (by omega) (by omega) r hr hr2
end
/-- No row yet. -/
theorem LD.start {m1 n p1 p2 g1 g2 : Nat} {W : World} (h1 : Blk W p1 58 #[.slice (some ⟨g1, 0, none⟩) n n]) (h2 : Blk W p2 58 #[.slice (some ⟨g2, 0, none⟩) n n]) (h3 : Blk W g1 59 (Array.replicate n (.pointer none))) (h4 : Blk W g2 59 (Array.replicate n (.pointer none))) (hlo : m1 ≤ p1 ∧ m1 ≤ p2 ∧ m1 ≤ g1 ∧ m1 ≤ g2 ∧ g1 ≠ g2) :
    LD m1 n 0 p1 p2 g1 g2 ⟨fun _ => 0, fun _ => none, fun _ => [], List.replicate n (.pointer none)⟩ ⟨fun _ => 0, fun _ => none, fun _ => [], List.replicate n (.pointer none)⟩ W :=
  ⟨h1, h2, ⟨by simp, by simpa using h3, fun _ h => by omega, fun _ h => by omega, fun _ _ h => by omega⟩, ⟨by simp, by simpa using h4, fun _ h => by omega, fun _ h => by omega, fun _ _ h => by omega⟩, fun _ _ h => by omega, hlo⟩
/-- The first sets are made. -/
def InitV (l : List In) (kd : Int) (idx : List (Int × Nat)) (Q : Nat → Option (List Int)) (i : Nat) (L D : Row) : Prop := ∀ (j : Nat) (h : j < l.length), j < i → ((Q j).isSome = true → L.s j = numF idx kd (usesF l[j]) []) ∧ ((Q j).isSome = false → L.s j = []) ∧ D.s j = numF idx kd (defsF l[j]) []
theorem InitV.put {l : List In} {kd : Int} {idx : List (Int × Nat)} {Q : Nat → Option (List Int)} {i : Nat} {L D : Row} (h : InitV l kd idx Q i L D) (hi : i < l.length) (b1 : Nat) (o1 : Option Nat) (s1 : List Nat) (b2 : Nat) (o2 : Option Nat) (s2 : List Nat)
    (h1 : (Q i).isSome = true → s1 = numF idx kd (usesF l[i]) []) (h2 : (Q i).isSome = false → s1 = []) (h3 : s2 = numF idx kd (defsF l[i]) []) : InitV l kd idx Q (i + 1) (L.put i b1 o1 s1) (D.put i b2 o2 s2) := fun j hj hji => by
  by_cases e : j = i
  · subst e
    simp only [Row.put, upd_at]
    exact ⟨h1, h2, h3⟩
  · simp only [Row.put, upd_ne _ _ e]
    exact h j hj (by omega)
/-- A set put again. -/
theorem InitV.again {l : List In} {kd : Int} {idx : List (Int × Nat)} {Q : Nat → Option (List Int)} {i : Nat} {L D : Row} (h : InitV l kd idx Q i L D) (hi : i < l.length) (b0 : Nat) (b1 : Nat) (o1 : Option Nat) (s1 : List Nat) (b2 : Nat) (o2 : Option Nat) (s2 : List Nat)
    (h1 : (Q i).isSome = true) (h2 : s1 = numF idx kd (usesF l[i]) []) (h3 : s2 = numF idx kd (defsF l[i]) []) : InitV l kd idx Q (i + 1) ((L.put i b0 none []).put i b1 o1 s1) (D.put i b2 o2 s2) := fun j hj hji => by
  by_cases e : j = i
  · subst e
    simp only [Row.put, upd_at]
    exact ⟨fun _ => h2, fun h => (by rw [h1] at h; cases h), h3⟩
  · simp only [Row.put, upd_ne _ _ e]
    exact h j hj (by omega)
end Go.Proofs.YtekfnonjhcfdmaaDoor
