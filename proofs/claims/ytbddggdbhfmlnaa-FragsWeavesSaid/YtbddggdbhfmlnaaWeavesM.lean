/- Interleaved messages in memory: the row of the slices that are left, the row of the texts. -/
import Derived.Test.YtbddggdbhfmlnaaWeavesP
import Derived.Test.YtbddggdbhfmlnaaAwake
import Derived.Test.YtbddggdbhfmlnaaPush
namespace Go.Proofs.Ytbddggdbhfmlnaa
open Go.RowKit Go.Rt Go.Rw Go.Mp Go.Lib

/-- A slice of fragments: block, offset, length, capacity. -/
abbrev SlD := Nat × Nat × Nat × Nat
def slV (p : SlD) : Value := .slice (some ⟨p.1, p.2.1, none⟩) p.2.2.1 p.2.2.2
def sc (p : SlD) : List Value := [slV p]
def textC (s : ByteArray) : List Value := [.string s]
theorem sc_len (p : SlD) : (sc p).length = 1 := rfl
theorem textC_len (s : ByteArray) : (textC s).length = 1 := rfl
theorem sc_one (p : SlD) : ∀ u ∈ sc p, u.oneCell' = true := by simp [sc, slV, Value.oneCell']
theorem textC_one (s : ByteArray) : ∀ u ∈ textC s, u.oneCell' = true := by simp [textC, Value.oneCell']
theorem und35 : Try.prog.underlying 35 = some (.slice 23) := by kernel_rfl
theorem und31 : Try.prog.underlying 31 = some (.slice 9) := by kernel_rfl
theorem info23 : (Try.prog.info? 23).map (fun i => (i.zero, i.size, i.bytes)) = some (some (.slice none 0 0), 1, 24) := by kernel_rfl
theorem info9 : (Try.prog.info? 9).map (fun i => (i.zero, i.size, i.bytes)) = some (some (.string ByteArray.empty), 1, 16) := by kernel_rfl

/-- What is left of a message lies in a block of fragments. -/
def PieceAt (W : World) (most : Nat) (p : SlD) (a : Way) : Prop :=
  (a.2.2 < manyK a.2.1 most → p.2.1 = a.2.2 * 4) ∧ p.2.2.1 = manyK a.2.1 most - a.2.2 ∧ p.2.2.1 ≤ p.2.2.2 ∧ ∃ cur, W.heap[p.1]? = some (.cells cur 30 (0, 0)) ∧
    ∀ i, i < manyK a.2.1 most → ∀ j, j < 4 → cur[i * 4 + j]? = (fc (a.1, decide (i = 0), (manyK a.2.1 most : Int) - (i : Int), partK a.2.1 most i))[j]?
/-- Blocks that are neither rows of slices nor rows of texts stay. -/
def Keeps (W W' : World) : Prop := ∀ (k : Nat) (o : Obj), W.heap[k]? = some o → (∀ vs fr, o ≠ .cells vs 23 fr) → (∀ vs fr, o ≠ .cells vs 9 fr) → W'.heap[k]? = some o
theorem Keeps.refl (W : World) : Keeps W W := fun _ _ h _ _ => h
theorem Keeps.trans {A B C : World} (h : Keeps A B) (k : Keeps B C) : Keeps A C := fun i o h1 h2 h3 => k i o (h i o h1 h2 h3) h2 h3
theorem Keeps.of_below {W W' : World} (h : Below W.heap.size W W') : Keeps W W' := fun k _ hk _ _ => (h.block k (Array.getElem?_eq_some_iff.1 hk).1).trans hk
theorem Keeps.cells {W W' : World} (h : Keeps W W') {k : Nat} {vs : Array Value} {t : TypeId} {fr : Nat × Nat} (hk : W.heap[k]? = some (.cells vs t fr)) (h1 : t ≠ 23) (h2 : t ≠ 9) : W'.heap[k]? = some (.cells vs t fr) :=
  h k _ hk (fun _ _ e => by cases e; exact h1 rfl) (fun _ _ e => by cases e; exact h2 rfl)
theorem PieceAt.cells {W W' : World} {most : Nat} {p : SlD} {a : Way} (h : PieceAt W most p a) (hk : ∀ cur, W.heap[p.1]? = some (.cells cur 30 (0, 0)) → W'.heap[p.1]? = some (.cells cur 30 (0, 0))) : PieceAt W' most p a := by
  obtain ⟨h1, h2, h3, cur, h4, h5⟩ := h
  exact ⟨h1, h2, h3, cur, hk cur h4, h5⟩
theorem PieceAt.keeps {W W' : World} {most : Nat} {p : SlD} {a : Way} (h : PieceAt W most p a) (hk : Keeps W W') : PieceAt W' most p a := h.cells fun _ hc => hk.cells hc (by decide) (by decide)
theorem PieceAt.of_cut {W : World} {base most : Nat} {v : Value} {id : Int} {t : ByteArray} (h : Sl W base 30 4 fc v (cutL id t most)) : ∃ p : SlD, v = slV p ∧ PieceAt W most p (id, t, 0) := by
  have hl := cutL_len id t most
  have hm := many_pos t most
  rcases h.form with ⟨_, h0⟩ | ⟨g, cap, rfl, _, _, hnc, _, cur, hcur, _⟩
  · rw [h0] at hl; simp at hl; omega
  · refine ⟨(g, 0, (cutL id t most).length, cap), rfl, fun _ => by simp, by simp [hl], hnc, cur, hcur, ?_⟩
    intro i hi j hj
    have hi' : i < (cutL id t most).length := by rw [hl]; exact hi
    have := h.cell fc_len i j hi' hj
    rw [cell_at hcur, cutL_get] at this
    exact this
theorem PieceAt.next {W : World} {most : Nat} {p : SlD} {a : Way} (h : PieceAt W most p a) (hi : a.2.2 < manyK a.2.1 most) {o' : Nat} (ho : p.2.2.2 ≠ 1 → o' = p.2.1 + 4) : PieceAt W most (p.1, o', p.2.2.1 - 1, p.2.2.2 - 1) (a.1, a.2.1, a.2.2 + 1) := by
  obtain ⟨h1, h2, h3, cur, h4, h5⟩ := h
  have h1' := h1 hi
  refine ⟨fun q => ?_, by simp only; omega, by simp only; omega, cur, h4, h5⟩
  simp only at q
  have := ho (by omega)
  simp only
  omega
theorem PieceAt.head {W : World} {most : Nat} {p : SlD} {a : Way} (h : PieceAt W most p a) (hi : a.2.2 < manyK a.2.1 most) (j : Nat) (hj : j < 4) :
    W.cell? ⟨p.1, p.2.1 + j, none⟩ = (fc (a.1, decide (a.2.2 = 0), (manyK a.2.1 most : Int) - (a.2.2 : Int), partK a.2.1 most a.2.2))[j]? := by
  obtain ⟨h1, h2, h3, cur, h4, h5⟩ := h
  rw [cell_at h4, h1 hi]
  exact h5 _ hi j hj

theorem GA.keeps {W W' : World} {base G m : Nat} {O : List OE} (h : GA W base G m O) (hk : Keeps W W') (hs : W.heap.size ≤ W'.heap.size) : GA W' base G m O := by
  refine ⟨hk.cells h.blk (by decide) (by decide), ?_, fun o ho => ?_, h.apart, h.keys, h.bG, h.bm, by have := h.bz; omega⟩
  · obtain ⟨es, c, hb, hl⟩ := h.mp
    exact ⟨es, c, hk _ _ hb (fun _ _ e => by cases e) (fun _ _ e => by cases e), hl⟩
  · refine ⟨(h.rows o ho).1, ?_⟩
    rcases (h.rows o ho).2 with q | ⟨g, cap, cur, q1, q2, q3, q4⟩
    · exact .inl q
    · exact .inr ⟨g, cap, cur, q1, q2, hk.cells q3 (by decide) (by decide), q4⟩

/-- Two owned rows of two types have two blocks. -/
theorem sl_apart {α β : Type} {W : World} {b1 b2 e1 e2 m1 m2 : Nat} {c1 : α → List Value} {c2 : β → List Value} {v1 v2 : Value} {L1 : List α} {L2 : List β} (h1 : Sl W b1 e1 m1 c1 v1 L1) (h2 : Sl W b2 e2 m2 c2 v2 L2) (hne : e1 ≠ e2) :
    ∀ g, v1.ownBlock = some g → v2.ownBlock ≠ some g := by
  intro g q1 q2
  rcases h1.form with ⟨rfl, _⟩ | ⟨g1, cap1, rfl, _, _, _, _, cur1, hc1, _⟩
  · cases q1
  rcases h2.form with ⟨rfl, _⟩ | ⟨g2, cap2, rfl, _, _, _, _, cur2, hc2, _⟩
  · cases q2
  simp [Value.ownBlock] at q1 q2
  subst q1 q2
  rw [hc1] at hc2
  cases hc2
  exact hne rfl
theorem sl_block {α : Type} {W : World} {b e m : Nat} {c : α → List Value} {v : Value} {L : List α} (h : Sl W b e m c v L) : ∀ g, v.ownBlock = some g → ∃ cur, W.heap[g]? = some (.cells cur e (0, 0)) := by
  intro g q
  rcases h.form with ⟨rfl, _⟩ | ⟨g1, cap1, rfl, _, _, _, _, cur1, hc1, _⟩
  · cases q
  · simp [Value.ownBlock] at q
    subst q
    exact ⟨cur1, hc1⟩

structure Rows2 (w1 W : World) (most : Nat) (vl vt : Value) (A : List Way) (B : List ByteArray) : Prop where
  bel : Below w1.heap.size w1 W
  ll : ∃ Vs : List SlD, Sl W w1.heap.size 23 1 sc vl Vs ∧ Vs.length = A.length ∧ ∀ j (h : j < A.length) (h' : j < Vs.length), PieceAt W most Vs[j] A[j]
  tt : Sl W w1.heap.size 9 1 textC vt B
section
variable {w1 W W' : World} {most : Nat} {vl vt : Value} {A : List Way} {B : List ByteArray}
theorem Rows2.call (h : Rows2 w1 W most vl vt A B) (hb : Below W.heap.size W W') : Rows2 w1 W' most vl vt A B := by
  obtain ⟨Vs, s1, s2, s3⟩ := h.ll
  exact ⟨h.bel.trans (hb.mono h.bel.size), ⟨Vs, s1.below hb (fun g hg => (s1.lt g hg).2), s2, fun j a b => (s3 j a b).keeps (.of_below hb)⟩, h.tt.below hb (fun g hg => (h.tt.lt g hg).2)⟩
/-- Behind a Feed. -/
theorem Rows2.fed (h : Rows2 w1 W most vl vt A B) {n0 : Nat} (hf : Fr n0 W W') (hn : w1.heap.size ≤ n0) : Rows2 w1 W' most vl vt A B := by
  obtain ⟨Vs, s1, s2, s3⟩ := h.ll
  exact ⟨h.bel.trans (hf.bel.mono hn), ⟨Vs, hf.sl s1 (by decide), s2, fun j a b => (s3 j a b).cells fun cur hc => hf.oth _ _ _ _ hc (by decide)⟩, hf.sl h.tt (by decide)⟩
theorem Rows2.pushL (h : Rows2 w1 W most vl vt A B) (p : SlD) (a : Way) (hp : PieceAt W most p a) (hl : A.length ≤ 1000) (ty : TypeId) :
    ∃ (g cap : Nat) (W2 : World), (Builtin.append_ #[35, 35] ty #[vl, .slice (some ⟨W.heap.size, 0, none⟩) 1 1]).run Try.prog (W.alloc (.cells #[slV p] 23)) = .ok (.slice (some ⟨g, 0, none⟩) (A.length + 1) cap) W2 ∧
      Rows2 w1 W2 most (.slice (some ⟨g, 0, none⟩) (A.length + 1) cap) vt (A ++ [a]) B ∧ Keeps W W2 ∧ W.heap.size ≤ W2.heap.size := by
  obtain ⟨Vs, s1, s2, s3⟩ := h.ll
  have hz := h.bel.size
  obtain ⟨g, cap, W2, hrun, s4, hgrow, _⟩ := Sl.push (P := Try.prog) (t := 35) (ty := ty) (s1.only (Only.alloc [] W (.cells (sc p).toArray 23)) (fun g _ => by simp)) und35 info23 rfl (by omega) sc_len sc_one p (World.alloc_heap_new W _) (by omega) (by omega) (by simp; omega) 1
  rw [s2] at hrun s4
  have o0 : Only vl.ownBlock.toList W (W.alloc (.cells (sc p).toArray 23)) := Only.alloc _ _ _
  have o1 : Only vl.ownBlock.toList W W2 := o0.trans ⟨hgrow.os, hgrow.tape, hgrow.output, hgrow.size, fun k hk hm => hgrow.block k hk (fun e => hm (by rw [← e]; simp))⟩
  have hkeep : Keeps W W2 := by
    intro k o hk h1 h2
    refine (o1.block k (Array.getElem?_eq_some_iff.1 hk).1 ?_).trans hk
    intro hm
    obtain ⟨cur, hc⟩ := sl_block s1 k (by simpa using hm)
    rw [hc] at hk
    cases hk
    exact h1 _ _ rfl
  refine ⟨g, cap, W2, hrun, ⟨h.bel.trans (o1.below (fun r hr => (s1.lt r (by simpa using hr)).1) hz), ⟨Vs ++ [p], s4, by simp [s2], ?_⟩, ?_⟩, hkeep, o1.size⟩
  · intro j hj hj'
    simp only [List.length_append, List.length_cons, List.length_nil] at hj
    rcases Nat.lt_or_ge j A.length with q | q
    · rw [List.getElem_append_left (by omega), List.getElem_append_left q]
      exact (s3 j q (by omega)).keeps hkeep
    · obtain rfl : j = A.length := by omega
      have e1 : (Vs ++ [p])[A.length]'hj' = p := by rw [List.getElem_append_right (by omega)]; simp
      have e2 : (A ++ [a])[A.length]'(by simp) = a := by rw [List.getElem_append_right (by omega)]; simp
      rw [e1, e2]
      exact hp.keeps hkeep
  · refine h.tt.only o1 ?_
    intro g' hg' hm
    exact sl_apart h.tt s1 (by decide) g' hg' (by simpa using hm)
theorem Rows2.pushT (h : Rows2 w1 W most vl vt A B) (t : ByteArray) (hl : B.length ≤ 1000) (ty : TypeId) :
    ∃ (g cap : Nat) (W2 : World), (Builtin.append_ #[31, 31] ty #[vt, .slice (some ⟨W.heap.size, 0, none⟩) 1 1]).run Try.prog (W.alloc (.cells #[.string t] 9)) = .ok (.slice (some ⟨g, 0, none⟩) (B.length + 1) cap) W2 ∧
      Rows2 w1 W2 most vl (.slice (some ⟨g, 0, none⟩) (B.length + 1) cap) A (B ++ [t]) ∧ Keeps W W2 ∧ W.heap.size ≤ W2.heap.size := by
  obtain ⟨Vs, s1, s2, s3⟩ := h.ll
  have hz := h.bel.size
  obtain ⟨g, cap, W2, hrun, s4, hgrow, _⟩ := Sl.push (P := Try.prog) (t := 31) (ty := ty) (h.tt.only (Only.alloc [] W (.cells (textC t).toArray 9)) (fun g _ => by simp)) und31 info9 rfl (by omega) textC_len textC_one t (World.alloc_heap_new W _) (by omega) (by omega) (by simp; omega) 1
  have o0 : Only vt.ownBlock.toList W (W.alloc (.cells (textC t).toArray 9)) := Only.alloc _ _ _
  have o1 : Only vt.ownBlock.toList W W2 := o0.trans ⟨hgrow.os, hgrow.tape, hgrow.output, hgrow.size, fun k hk hm => hgrow.block k hk (fun e => hm (by rw [← e]; simp))⟩
  have hkeep : Keeps W W2 := by
    intro k o hk h1 h2
    refine (o1.block k (Array.getElem?_eq_some_iff.1 hk).1 ?_).trans hk
    intro hm
    obtain ⟨cur, hc⟩ := sl_block h.tt k (by simpa using hm)
    rw [hc] at hk
    cases hk
    exact h2 _ _ rfl
  refine ⟨g, cap, W2, hrun, ⟨h.bel.trans (o1.below (fun r hr => (h.tt.lt r (by simpa using hr)).1) hz), ⟨Vs, ?_, s2, fun j a b => (s3 j a b).keeps hkeep⟩, s4⟩, hkeep, o1.size⟩
  refine s1.only o1 ?_
  intro g' hg' hm
  exact sl_apart s1 h.tt (by decide) g' hg' (by simpa using hm)
/-- left[k] = left[k][1:]. -/
theorem Rows2.step {gl n capl : Nat} (h : Rows2 w1 W most (.slice (some ⟨gl, 0, none⟩) n capl) vt A B) {k : Nat} (hk : k < A.length) (hi : A[k].2.2 < manyK A[k].2.1 most) (hn : n = A.length) :
    ∃ p : SlD, PieceAt W most p A[k] ∧ W.cell? ⟨gl, k, none⟩ = some (slV p) ∧ W.frozen? ⟨gl, k, none⟩ = false ∧ ∀ o', (p.2.2.2 ≠ 1 → o' = p.2.1 + 4) →
      Rows2 w1 (W.setCell ⟨gl, k, none⟩ (slV (p.1, o', p.2.2.1 - 1, p.2.2.2 - 1))) most (.slice (some ⟨gl, 0, none⟩) n capl) vt (A.set k (A[k].1, A[k].2.1, A[k].2.2 + 1)) B ∧
      Keeps W (W.setCell ⟨gl, k, none⟩ (slV (p.1, o', p.2.2.1 - 1, p.2.2.2 - 1))) := by
  obtain ⟨Vs, s1, s2, s3⟩ := h.ll
  have hk' : k < Vs.length := by omega
  obtain rfl : n = Vs.length := by omega
  have hp := s3 k hk hk'
  have hc := s1.cell sc_len k 0 hk' (by omega)
  rw [Nat.mul_one, Nat.add_zero] at hc
  have hlt := s1.lt gl rfl
  obtain ⟨cur, hcur⟩ := sl_block s1 gl rfl
  refine ⟨Vs[k], hp, hc, s1.frozen k, fun o' ho' => ?_⟩
  have hst := s1.store sc_len k 0 hk' (by omega) (slV (Vs[k].1, o', Vs[k].2.2.1 - 1, Vs[k].2.2.2 - 1)) (Vs[k].1, o', Vs[k].2.2.1 - 1, Vs[k].2.2.2 - 1) rfl
  rw [Nat.mul_one, Nat.add_zero] at hst
  have o1 : Only [gl] W (W.setCell ⟨gl, k, none⟩ (slV (Vs[k].1, o', Vs[k].2.2.1 - 1, Vs[k].2.2.2 - 1))) := Only.setCell _ _ _ (by simp)
  have hkeep : Keeps W (W.setCell ⟨gl, k, none⟩ (slV (Vs[k].1, o', Vs[k].2.2.1 - 1, Vs[k].2.2.2 - 1))) := by
    intro q o hq h1 h2
    refine (o1.block q (Array.getElem?_eq_some_iff.1 hq).1 ?_).trans hq
    intro hm
    simp only [List.mem_singleton] at hm
    subst hm
    rw [hcur] at hq
    cases hq
    exact h1 _ _ rfl
  refine ⟨⟨h.bel.setCell hlt.1 _, ⟨Vs.set k (Vs[k].1, o', Vs[k].2.2.1 - 1, Vs[k].2.2.2 - 1), ?_, by simp [s2], ?_⟩, ?_⟩, hkeep⟩
  · exact hst
  · intro j hj hj'
    rw [List.getElem_set, List.getElem_set]
    split
    · rename_i e
      subst e
      exact (hp.next hi ho').keeps hkeep
    · exact (s3 j (by simpa using hj) (by simpa using hj')).keeps hkeep
  · refine h.tt.only o1 ?_
    intro g' hg' hm
    simp only [List.mem_singleton] at hm
    subst hm
    exact sl_apart h.tt s1 (by decide) g' hg' rfl
/-- The row of slices is made anew without the k-th. -/
theorem Rows2.eraseL (h : Rows2 w1 W most vl vt A B) {Vs : List SlD} (hs : Vs.length = A.length) (hV : ∀ j (h : j < A.length) (h' : j < Vs.length), PieceAt W most Vs[j] A[j]) {v' : Value} {k : Nat} (hb : Below W.heap.size W W') (s : Sl W' W.heap.size 23 1 sc v' (Vs.take k ++ Vs.drop (k + 1))) :
    Rows2 w1 W' most v' vt (A.eraseIdx k) B := by
  have e : Vs.take k ++ Vs.drop (k + 1) = Vs.eraseIdx k := (List.eraseIdx_eq_take_drop_succ _ _).symm
  rw [e] at s
  refine ⟨h.bel.trans (hb.mono h.bel.size), ⟨_, s.mono h.bel.size, by rw [List.length_eraseIdx, List.length_eraseIdx, hs], ?_⟩, h.tt.below hb (fun g hg => (h.tt.lt g hg).2)⟩
  intro j hj hj'
  rw [List.getElem_eraseIdx, List.getElem_eraseIdx]
  split
  · exact (hV j _ _).keeps (.of_below hb)
  · exact (hV (j + 1) _ _).keeps (.of_below hb)
theorem Rows2.eraseT (h : Rows2 w1 W most vl vt A B) {v' : Value} {k : Nat} (hb : Below W.heap.size W W') (s : Sl W' W.heap.size 9 1 textC v' (B.take k ++ B.drop (k + 1))) :
    Rows2 w1 W' most vl v' A (B.eraseIdx k) := by
  have e : B.take k ++ B.drop (k + 1) = B.eraseIdx k := (List.eraseIdx_eq_take_drop_succ _ _).symm
  rw [e] at s
  obtain ⟨Vs, s1, s2, s3⟩ := h.ll
  exact ⟨h.bel.trans (hb.mono h.bel.size), ⟨Vs, s1.below hb (fun g hg => (s1.lt g hg).2), s2, fun j a b => (s3 j a b).keeps (.of_below hb)⟩, s.mono h.bel.size⟩
end

/-- append(v, many...) in a region that draws: the world may have drawn since w0. -/
theorem step_append_sls {α : Type} {ops : Array Oper} {o : Oper} {a : Act} {w : World} {K : Act → World → Prop} {Q : Exit → Act → World → Prop} {E : Prop} {w0 : World} {base e b off cc m n gv nv cv bytes : Nat} {z : Value} {c : α → List Value} {L M : List α} (t : TypeId)
    (hg : o.guard = none) (s x : Operand) (hop : o.op = Op.call { callee := Callee.builtin Builtin.append, args := #[s, x], argTypes := #[t, t] })
    (hs : a.eval s = .slice (some ⟨gv, 0, none⟩) nv cv) (hx : a.eval x = .slice (some ⟨b, off, none⟩) m cc) (hsl : Sl w0 base e 1 c (.slice (some ⟨gv, 0, none⟩) nv cv) L)
    (hu : Try.prog.underlying t = some (.slice e)) (hi : (Try.prog.info? e).map (fun i => (i.zero, i.size, i.bytes)) = some (some z, 1, bytes)) (hz : z.cells.size = 1) (hc : ∀ a, (c a).length = 1) (h1 : ∀ a, ∀ u ∈ c a, u.oneCell' = true)
    (hM : M.length = m) (hn : L.length = n) (hsrc : ∀ j (hj : j < M.length), w0.cell? ⟨b, off + j, none⟩ = (c M[j])[0]?) (hw : w.heap = w0.heap) (ho : w.os = w0.os) (ht : w.tape = w0.tape) (hp : w.output = w0.output)
    (hl : n + m ≤ 1000) (hby : bytes ≤ 1000) (hbase : base ≤ w0.heap.size)
    (hK : ∀ g' cap' W', Sl W' base e 1 c (.slice (some ⟨g', 0, none⟩) (n + m) cap') (L ++ M) → Only [gv] w0 W' → (g' = gv ∨ g' = w0.heap.size) → K (a.put o.dst (.slice (some ⟨g', 0, none⟩) (n + m) cap')) W') :
    if Region.wanted o (yielded ops a.tmps) = true then Oper.wp Try.prog o a w K Q else E := by
  subst hM hn
  have hlb : (L.length + M.length) * bytes ≤ 1000 * 1000 := Nat.mul_le_mul hl hby
  have hcell : ∀ p, w.cell? p = w0.cell? p := fun p => World.cell?_of_block (by rw [hw])
  obtain ⟨v', W', hrun, h2, h3, h4⟩ := Sl.pushs (P := Try.prog) (t := t) (ty := o.type) (b := b) (o := off) (hsl.same (by rw [hw]; exact Nat.le_refl _) (fun g _ => by rw [hw])) hu hi hz (by omega) hc h1 M (fun j u hj => by
    have hjl : j < M.length := by
      have := (List.getElem?_eq_some_iff.1 hj).1
      rw [flat_len hc, Nat.mul_one] at this
      exact this
    rw [hcell, hsrc j hjl]
    have e := flat_at hc M j 0 hjl (by omega)
    rw [Nat.mul_one, Nat.add_zero] at e
    rw [← e]; exact hj) (by omega) (by omega) (by rw [hw]; exact hbase) cc
  have hv : ∃ g' cap', v' = .slice (some ⟨g', 0, none⟩) (L.length + M.length) cap' ∧ (g' = gv ∨ g' = w0.heap.size) := by
    rcases h2.form with ⟨q, _⟩ | ⟨g', cap', q, _⟩
    · subst q
      rcases h4 with q | q <;> cases q
    · rw [List.length_append] at q
      refine ⟨g', cap', q, ?_⟩
      subst q
      rcases h4 with q | q
      · simp [Value.ownBlock] at q; exact .inl q
      · simp [Value.ownBlock] at q; rw [← hw]; exact .inr q
  obtain ⟨g', cap', rfl, hg'⟩ := hv
  have hwt : Region.wanted o (yielded ops a.tmps) = true := by simp [Region.wanted, hg]
  rw [if_pos hwt]
  unfold Oper.wp
  simp [execOp, hop, resolve, invoke, builtin, hs, hx, hrun, Result.andThen]
  refine hK _ _ _ h2 ⟨h3.os.trans ho, h3.tape.trans ht, h3.output.trans hp, by have := h3.size; rw [hw] at this; exact this, fun k hk hm => ?_⟩ hg'
  have := h3.block k (by rw [hw]; exact hk) (fun q => hm (by simp [Value.ownBlock] at q; simp [q]))
  rw [this, hw]

/-- The messages as they begin. -/
def wayF (Ts : List ByteArray) (k : Nat) : List Way := (List.range k).map fun j : Nat => ((j : Int) + 1, Ts.getD j ByteArray.empty, 0)
theorem wayF_len (Ts : List ByteArray) (k : Nat) : (wayF Ts k).length = k := by simp [wayF]
theorem wayF_next (Ts : List ByteArray) (k : Nat) (h : k < Ts.length) : wayF Ts (k + 1) = wayF Ts k ++ [((k : Int) + 1, Ts[k], 0)] := by
  simp [wayF, List.range_succ, List.getD_eq_getElem?_getD, List.getElem?_eq_getElem h]
theorem wayF_mem (Ts : List ByteArray) (k : Nat) : ∀ a ∈ wayF Ts k, 1 ≤ a.1 ∧ a.1 ≤ k ∧ a.2.2 = 0 := by
  intro a ha
  obtain ⟨j, hj, rfl⟩ := List.mem_map.1 ha
  have := List.mem_range.1 hj
  exact ⟨by simp only; omega, by simp only; omega, rfl⟩
theorem wayF_keys (Ts : List ByteArray) (k : Nat) : ((wayF Ts k).map (·.1)).Nodup := by
  induction k with
  | zero => simp [wayF]
  | succ k ih =>
    have e : wayF Ts (k + 1) = wayF Ts k ++ [((k : Int) + 1, Ts.getD k ByteArray.empty, 0)] := by simp [wayF, List.range_succ]
    rw [e, List.map_append, List.nodup_append]
    refine ⟨ih, by simp, fun x hx y hy e => ?_⟩
    obtain ⟨a, ha, rfl⟩ := List.mem_map.1 hx
    have := (wayF_mem Ts k a ha).2.1
    simp at hy
    omega
theorem wayF_texts (Ts : List ByteArray) : (wayF Ts Ts.length).map (·.2.1) = Ts := by
  unfold wayF
  rw [List.map_map]
  apply List.ext_getElem
  · simp
  · intro i h1 h2
    simp [List.getD_eq_getElem?_getD, List.getElem?_eq_getElem h2]
theorem wayF_open (Ts : List ByteArray) (most k : Nat) : openA most (wayF Ts k) = [] := by
  unfold openA wayF
  rw [List.flatMap_map]
  simp only [List.flatMap_eq_nil_iff]
  intro j _
  simp [openE, openK]
theorem left_bd (most : Nat) : ∀ (A : List Way), (∀ a ∈ A, manyK a.2.1 most ≤ 3001) → leftA most A ≤ A.length * 3001
  | [], _ => by simp [leftA]
  | a :: r, h => by
    have h1 := h a (by simp)
    have h2 := left_bd most r (fun x hx => h x (by simp [hx]))
    simp only [leftA, List.length_cons]
    omega
theorem left_pos (most : Nat) {A : List Way} (h : ∀ a ∈ A, a.2.2 < manyK a.2.1 most) (hne : 0 < A.length) : 0 < leftA most A := by
  cases A with
  | nil => simp at hne
  | cons a r =>
    have := h a (by simp)
    simp only [leftA]
    omega
end Go.Proofs.Ytbddggdbhfmlnaa
