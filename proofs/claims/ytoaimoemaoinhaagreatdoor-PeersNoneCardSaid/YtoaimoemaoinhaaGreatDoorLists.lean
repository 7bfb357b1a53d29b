/- Slices in memory as lists: one that the call owns (Sl), and one that is read (SlAt), each element a fixed number of cells. No condition beyond the premises of each theorem. -/
import Derived.Test.YtoaimoemaoinhaaGreatDoorRangeT
import Derived.Laws.OwnMore
import Derived.OwnWalkIn
import Derived.Deep.RegionLaw
import Derived.Lib.Hide
namespace Go.Rw
open Go Go.RowKit Go.Rt
variable {α : Type}

section
variable {c : α → List Value} {m : Nat}
theorem flat_len (hc : ∀ a, (c a).length = m) (L : List α) : (L.flatMap c).length = L.length * m := by
  induction L with
  | nil => simp
  | cons b r ih => simp only [List.flatMap_cons, List.length_append, ih, hc, List.length_cons, Nat.succ_mul]; omega
theorem flat_at (hc : ∀ a, (c a).length = m) (L : List α) (i j : Nat) (hi : i < L.length) (hj : j < m) : (L.flatMap c)[i * m + j]? = (c L[i])[j]? := by
  induction L generalizing i with
  | nil => simp at hi
  | cons b r ih =>
    cases i with
    | zero => simp only [List.flatMap_cons]; rw [List.getElem?_append_left (by rw [hc]; omega)]; simp
    | succ k =>
      simp only [List.flatMap_cons]
      have e : (k + 1) * m + j - (c b).length = k * m + j := by rw [hc, Nat.succ_mul]; omega
      rw [List.getElem?_append_right (by rw [hc, Nat.succ_mul]; omega), e]
      exact ih k (by simpa using hi)
theorem flat_set (hc : ∀ a, (c a).length = m) (L : List α) (i j : Nat) (hi : i < L.length) (hj : j < m) (u : Value) (a : α) (ha : (c L[i]).set j u = c a) : (L.flatMap c).set (i * m + j) u = (L.set i a).flatMap c := by
  induction L generalizing i with
  | nil => simp at hi
  | cons b r ih =>
    cases i with
    | zero =>
      simp only [List.flatMap_cons, List.set_cons_zero]
      rw [List.set_append_left _ _ (by rw [hc]; omega)]
      simp at ha
      simp [ha]
    | succ k =>
      simp only [List.flatMap_cons, List.set_cons_succ]
      have e : (k + 1) * m + j - (c b).length = k * m + j := by rw [hc, Nat.succ_mul]; omega
      rw [List.set_append_right _ _ (by rw [hc, Nat.succ_mul]; omega), e, ih k (by simpa using hi) (by simpa using ha)]
end

theorem add_none (b o j : Nat) : (⟨b, o, none⟩ : Addr).add j = ⟨b, o + j, none⟩ := by
  unfold Addr.add
  split <;> simp_all
theorem cell_at {w : World} {b : Nat} {cs : Array Value} {t : TypeId} {fr : Nat × Nat} (h : w.heap[b]? = some (.cells cs t fr)) (j : Nat) : w.cell? ⟨b, j, none⟩ = cs[j]? := by simp [World.cell?, h]
/-- Where an append of one element leaves its result: in the slice's own block, or in a new one. -/
theorem append_where {P : Program} {w : World} {base : Nat} {t ty e : TypeId} {i : TypeInfo} {z : Value} (ht : P.underlying t = some (.slice e)) (hi : P.info? e = some i) (hz : i.zero = some z)
    (v : Value) (n : Nat) (xs : List Value) (hown : w.ownsRow base e i.size v n xs)
    (a : Addr) (m c : Nat) (hm : 0 < m) (news : List Value) (hl : news.length = m * i.size) (hnews : ∀ j u, news[j]? = some u → w.cell? (a.add j) = some u) (h1 : ∀ u ∈ news, u.oneCell' = true)
    (h63 : n + m ≤ maxLen) (hbytes : (n + m) * i.bytes ≤ 140737488355328) {v' : Value} {w' : World} (hr' : (Builtin.append_ #[t, t] ty #[v, .slice (some a) m c]).run P w = .ok v' w') :
    v'.ownBlock = v.ownBlock ∨ v'.ownBlock = some w.heap.size := by
  have hsmall : n + m ≤ 9223372036854775807 := by simp only [maxLen] at h63; omega
  rcases hown.2 with ⟨rfl, rfl⟩ | ⟨g, cap, cur, rfl, hbg, hg, hnc, hcm, hcs, htake⟩
  · have hr := run_append_nil (P := P) w t ty e i z ht hi hz a m c news hl hnews (by omega) (by omega) (by have hb := hbytes; simp only [Nat.zero_add] at hb; omega)
    rw [hr] at hr'
    cases hr'
    exact .inr rfl
  · by_cases hroom : n + m ≤ cap
    · have hfit : n * i.size + news.length ≤ cur.size := by rw [hl, hcs, ← Nat.add_mul]; exact Nat.mul_le_mul_right _ hroom
      have hr := run_append_room (P := P) w t ty e i ht hi g n cap cur hg a m c news hl hnews h1 hroom hfit
      rw [hr] at hr'
      cases hr'
      exact .inl rfl
    · have holds : ∀ j u, xs[j]? = some u → w.cell? ((⟨g, 0, none⟩ : Addr).add j) = some u := hown.cells (g := g) rfl
      have hr := run_append_grow (P := P) w t ty e i z ht hi hz ⟨g, 0, none⟩ n cap xs hown.1 holds a m c news hl hnews (by omega) (by omega) (growslice_fits (by omega) hbytes)
      rw [hr] at hr'
      cases hr'
      exact .inr rfl

/-- A slice that the call owns, from the head of its block on. -/
def Sl (w : World) (base : Nat) (e : TypeId) (m : Nat) (c : α → List Value) (v : Value) (L : List α) : Prop := w.ownsRow base e m v L.length (L.flatMap c)
/-- A slice that is read. -/
def SlAt (w : World) (m : Nat) (c : α → List Value) (v : Value) (L : List α) : Prop :=
  (L = [] ∧ ∃ sa cap, v = .slice sa 0 cap) ∨ ∃ b o cap, v = .slice (some ⟨b, o, none⟩) L.length cap ∧ L.length ≤ 9223372036854775807 ∧ b < w.heap.size ∧ ∀ i j, (hi : i < L.length) → j < m → w.cell? ⟨b, o + i * m + j, none⟩ = (c L[i])[j]?

/-- The slice's block, if it has one, is none of a list. -/
def Off (v : Value) (bs : List Nat) : Prop := ∀ g, v.ownBlock = some g → g ∉ bs

section
variable {w w' : World} {base e m : Nat} {c : α → List Value} {v : Value} {L : List α}
theorem Sl.nil (w : World) (base e m : Nat) (c : α → List Value) : Sl w base e m c (.slice none 0 0) [] := World.ownsRow_nil _ _ _ _
theorem Sl.form (h : Sl w base e m c v L) : (v = .slice none 0 0 ∧ L = []) ∨ ∃ g cap, v = .slice (some ⟨g, 0, none⟩) L.length cap ∧ base ≤ g ∧ g < w.heap.size ∧ L.length ≤ cap ∧ cap ≤ maxLen ∧ ∃ cur, w.heap[g]? = some (.cells cur e (0, 0)) ∧ cur.size = cap * m := by
  rcases h.2 with ⟨h1, h2⟩ | ⟨g, cap, cur, h1, h2, h3, h4, h5, h6, _⟩
  · exact .inl ⟨h1, List.eq_nil_of_length_eq_zero h2⟩
  · exact .inr ⟨g, cap, h1, h2, (Array.getElem?_eq_some_iff.1 h3).1, h4, h5, cur, h3, h6⟩
theorem Sl.cell {g n cap : Nat} (h : Sl w base e m c (.slice (some ⟨g, 0, none⟩) n cap) L) (hc : ∀ a, (c a).length = m) (i j : Nat) (hi : i < L.length) (hj : j < m) : w.cell? ⟨g, i * m + j, none⟩ = (c L[i])[j]? := by
  obtain rfl : n = L.length := by
    rcases h.form with ⟨h1, _⟩ | ⟨g', cap', h1, _⟩
    · cases h1
    · cases h1; rfl
  have hlt : i * m + j < L.length * m := by
    have : (i + 1) * m ≤ L.length * m := Nat.mul_le_mul_right _ hi
    rw [Nat.succ_mul] at this; omega
  rw [World.ownsRow.cellAt h _ hlt, flat_at hc L i j hi hj]
theorem Sl.frozen {g n cap : Nat} (h : Sl w base e m c (.slice (some ⟨g, 0, none⟩) n cap) L) (j : Nat) : w.frozen? ⟨g, j, none⟩ = false := by
  obtain rfl : n = L.length := by
    rcases h.form with ⟨h1, _⟩ | ⟨g', cap', h1, _⟩
    · cases h1
    · cases h1; rfl
  exact World.ownsRow.frozenAt h j
theorem Sl.lt (h : Sl w base e m c v L) : ∀ g, v.ownBlock = some g → base ≤ g ∧ g < w.heap.size := fun g hg => World.ownsRow.lt h g hg
theorem Sl.same (h : Sl w base e m c v L) (hs : w.heap.size ≤ w'.heap.size) (hb : ∀ g, v.ownBlock = some g → w'.heap[g]? = w.heap[g]?) : Sl w' base e m c v L := by
  have hs' := hs
  refine ⟨h.1, ?_⟩
  rcases h.2 with ⟨h1, h2⟩ | ⟨g, cap, cur, h1, h2, h3, h4⟩
  · exact .inl ⟨h1, h2⟩
  · exact .inr ⟨g, cap, cur, h1, h2, (hb g (by rw [h1]; rfl)).trans h3, h4⟩
theorem Sl.only {bs : List Nat} (h : Sl w base e m c v L) (ho : Only bs w w') (hd : Off v bs) : Sl w' base e m c v L :=
  h.same ho.size (fun g hg => ho.block g (h.lt g hg).2 (hd g hg))
theorem Sl.below {n : Nat} (h : Sl w base e m c v L) (ho : Below n w w') (hn : ∀ g, v.ownBlock = some g → g < n) : Sl w' base e m c v L :=
  h.same ho.size (fun g hg => ho.block g (hn g hg))
theorem Sl.mono {base' : Nat} (h : Sl w base e m c v L) (hb : base' ≤ base) : Sl w base' e m c v L := by
  refine ⟨h.1, ?_⟩
  rcases h.2 with ⟨h1, h2⟩ | ⟨g, cap, cur, h1, h2, h3⟩
  · exact .inl ⟨h1, h2⟩
  · exact .inr ⟨g, cap, cur, h1, by omega, h3⟩
theorem Sl.at (h : Sl w base e m c v L) (hc : ∀ a, (c a).length = m) : SlAt w m c v L := by
  rcases h.form with ⟨rfl, rfl⟩ | ⟨g, cap, rfl, _, h2, h3, h4, _⟩
  · exact .inl ⟨rfl, _, _, rfl⟩
  · exact .inr ⟨g, 0, cap, rfl, by unfold maxLen at h4; omega, h2, fun i j hi hj => by rw [Nat.zero_add]; exact h.cell hc i j hi hj⟩
/-- A literal slice. -/
theorem Sl.lit (w : World) (L : List α) (hc : ∀ a, (c a).length = m) (hb : base ≤ w.heap.size) (hm : L.length ≤ maxLen) : Sl (w.alloc (.cells (L.flatMap c).toArray e)) base e m c (.slice (some ⟨w.heap.size, 0, none⟩) L.length L.length) L := by
  have := World.ownsRow_lit (base := base) (e := e) (size := m) w (L.flatMap c).toArray L.length hb hm (by simpa using flat_len hc L)
  unfold Sl
  simpa using this

/-- A store into one cell of an element. -/
theorem Sl.store {g cap : Nat} (h : Sl w base e m c (.slice (some ⟨g, 0, none⟩) L.length cap) L) (hc : ∀ a, (c a).length = m) (i j : Nat) (hi : i < L.length) (hj : j < m) (u : Value) (a : α) (ha : (c L[i]).set j u = c a) :
    Sl (w.setCell ⟨g, i * m + j, none⟩ u) base e m c (.slice (some ⟨g, 0, none⟩) L.length cap) (L.set i a) := by
  have := (World.ownsRow.stored h (i * m + j) u).1
  rw [flat_set hc L i j hi hj u a ha] at this
  unfold Sl
  simpa using this
/-- append(v, x): the run. -/
theorem Sl.push {P : Program} {t ty : TypeId} {z : Value} {bytes b : Nat} {e' : TypeId} {fr : Nat × Nat} (h : Sl w base e m c v L) (hu : P.underlying t = some (.slice e)) (hi : (P.info? e).map (fun i => (i.zero, i.size, i.bytes)) = some (some z, m, bytes))
    (hz : z.cells.size = m) (hm : 0 < m) (hc : ∀ a, (c a).length = m) (h1 : ∀ a, ∀ u ∈ c a, u.oneCell' = true) (a : α) (hb : w.heap[b]? = some (.cells (c a).toArray e' fr))
    (hl : L.length + 1 ≤ 1000000000000) (hby : (L.length + 1) * bytes ≤ 140737488355328) (hbase : base ≤ w.heap.size) (cc : Nat) :
    ∃ (g cap : Nat) (W2 : World), (Builtin.append_ #[t, t] ty #[v, .slice (some ⟨b, 0, none⟩) 1 cc]).run P w = .ok (.slice (some ⟨g, 0, none⟩) (L.length + 1) cap) W2 ∧ Sl W2 base e m c (.slice (some ⟨g, 0, none⟩) (L.length + 1) cap) (L ++ [a]) ∧ w.grownBy W2 v.ownBlock ∧ (v.ownBlock = some g ∨ w.heap.size ≤ g) := by
  obtain ⟨i0, hi0, hz0, hz1, hz2⟩ := info_parts hi
  obtain ⟨v', W2, hrun, hown, hgrow, _⟩ := run_append_own (P := P) w base t ty e i0 z m bytes hu hi0 hz0 hz1 hz2 hz hm v L.length (L.flatMap c) h ⟨b, 0, none⟩ 1 cc (c a) (by rw [hc]; omega)
    (fun j u hj => by rw [add_none, cell_at hb]; simpa using hj) (h1 a) (by unfold maxLen; omega) hby hbase
  have hown' : Sl W2 base e m c v' (L ++ [a]) := by
    unfold Sl
    rw [List.flatMap_append]
    simpa using hown
  rcases hown'.form with ⟨_, h0⟩ | ⟨g, cap, rfl, _, hg2, _, _, cur, hcur, _⟩
  · simp at h0
  · simp only [List.length_append, List.length_cons, List.length_nil, Nat.zero_add] at hrun hown'
    refine ⟨g, cap, W2, hrun, hown', hgrow, ?_⟩
    subst hz1 hz2
    have := append_where hu hi0 hz0 v L.length (L.flatMap c) h ⟨b, 0, none⟩ 1 cc (by omega) (c a) (by rw [hc]; omega)
      (fun j u hj => by rw [add_none, cell_at hb]; simpa using hj) (h1 a) (by unfold maxLen; omega) hby hrun
    rcases this with q | q
    · exact .inl q.symm
    · refine .inr ?_
      simp [Value.ownBlock] at q
      omega
end

theorem SlAt.len {w : World} {m : Nat} {α : Type} {c : α → List Value} {v : Value} {L : List α} (h : SlAt w m c v L) : L.length ≤ 9223372036854775807 ∧ ∃ sa cap, v = .slice sa L.length cap := by
  rcases h with ⟨rfl, sa, cap, rfl⟩ | ⟨b, o, cap, rfl, hl, _⟩
  · exact ⟨by simp, _, _, rfl⟩
  · exact ⟨hl, _, _, rfl⟩
theorem SlAt.get {w : World} {m : Nat} {α : Type} {c : α → List Value} {sa : Option Addr} {n cap : Nat} {L : List α} (h : SlAt w m c (.slice sa n cap) L) (hne : 0 < L.length) : ∃ b o, sa = some ⟨b, o, none⟩ ∧ b < w.heap.size ∧ ∀ i j, (hi : i < L.length) → j < m → w.cell? ⟨b, o + i * m + j, none⟩ = (c L[i])[j]? := by
  rcases h with ⟨rfl, _⟩ | ⟨b, o, cap', e, hl, hb, hc⟩
  · simp at hne
  · simp at e
    exact ⟨b, o, e.1, hb, hc⟩
/-- An append whose run is known: in a walk, in a walk inside a fence, in a region that draws. -/
theorem wpList_append_run {P : Program} {w w' : World} {ops : Array Oper} {rest : List Oper} {o : Oper} {a : Act} {Q : Exit → Act → World → Prop} {v src v' : Value}
    (hg : o.guard = none) (s x : Operand) (t t2 : TypeId) (hop : o.op = Op.call { callee := Callee.builtin Builtin.append, args := #[s, x], argTypes := #[t, t2] })
    (hs : a.eval s = v) (hx : a.eval x = src) (hrun : (Builtin.append_ #[t, t2] o.type #[v, src]).run P w = .ok v' w') (hK : wpList P ops Q rest (a.put o.dst v') w') :
    wpList P ops Q (o :: rest) a w := by
  refine wpList_plain hg fun K hK' => ?_
  unfold Oper.wp
  simp [execOp, hop, resolve, invoke, builtin, hs, hx, hrun, Result.andThen]
  exact hK' _ _ hK
theorem wpListIn_append_run {F : Fence} {n : Nat} {P : Program} {w w' : World} {ops : Array Oper} {rest : List Oper} {o : Oper} {a : Act} {Q : Exit → Act → World → Prop} {v src v' : Value}
    (hg : o.guard = none) (s x : Operand) (t t2 : TypeId) (hop : o.op = Op.call { callee := Callee.builtin Builtin.append, args := #[s, x], argTypes := #[t, t2] })
    (hs : a.eval s = v) (hx : a.eval x = src) (hrun : (Builtin.append_ #[t, t2] o.type #[v, src]).run P w = .ok v' w') (hK : wpListIn F n P ops Q rest (a.put o.dst v') w') :
    wpListIn F n P ops Q (o :: rest) a w := by
  refine wpListIn_plain hg fun K hK' => ?_
  unfold Oper.wpIn
  refine ⟨?_, ?_⟩
  · simp [Oper.about, hop, resolve, Target.leads, Sem.run_pure]
  · rw [Oper.semAt_plain F _ _ (by rw [hop]; intro c hc'; cases hc')]
    simp [execOp, hop, resolve, invoke, builtin, hs, hx, hrun, Result.andThen]
    exact hK' _ _ hK
theorem step_append_run {P : Program} {ops : Array Oper} {o : Oper} {a : Act} {w w' : World} {K : Act → World → Prop} {Q : Exit → Act → World → Prop} {E : Prop} {v src v' : Value}
    (hg : o.guard = none) (s x : Operand) (t t2 : TypeId) (hop : o.op = Op.call { callee := Callee.builtin Builtin.append, args := #[s, x], argTypes := #[t, t2] })
    (hs : a.eval s = v) (hx : a.eval x = src) (hrun : (Builtin.append_ #[t, t2] o.type #[v, src]).run P w = .ok v' w') (hK : K (a.put o.dst v') w') :
    if Region.wanted o (yielded ops a.tmps) = true then Oper.wp P o a w K Q else E := by
  have hw : Region.wanted o (yielded ops a.tmps) = true := by simp [Region.wanted, hg]
  rw [if_pos hw]
  unfold Oper.wp
  simp [execOp, hop, resolve, invoke, builtin, hs, hx, hrun, Result.andThen]
  exact hK
end Go.Rw
