/- For the statements up to a bulk: a list of instructions beside its datum, place by place; what the bulk bounds. No condition beyond the reading. -/
import Derived.Test.YtekfnonjhcfdmaaDoorFoot
namespace Go.Proofs.YtekfnonjhcfdmaaDoor
open Go Go.ChangeShapes Go.WideShapes Go.ChangeAt Go.RowKit Go.Rt Go.Rw

section
variable {H : Type}
theorem bulk_pos (d : DataW H) : 1 ≤ Rows.uptoBulk d := by
  cases d <;> first | (rename_i l; cases l <;> simp [Rows.uptoBulk]) | simp [Rows.uptoBulk]
theorem bulk_mem {d : DataW H} : ∀ {l : List (DataW H)}, d ∈ l → Rows.uptoBulk d ≤ Rows.uptoBulkAll l
  | x :: r, h => by
    simp only [Rows.uptoBulkAll]
    rcases List.mem_cons.1 h with rfl | h
    · omega
    · have := bulk_mem h
      omega
theorem bulk_len : ∀ (l : List (DataW H)), l.length ≤ Rows.uptoBulkAll l
  | [] => by simp
  | x :: r => by
    have h1 := bulk_pos x
    have h2 := bulk_len r
    simp only [Rows.uptoBulkAll, List.length_cons]
    omega
theorem LenD.bulk {x : DataW H} {n : Nat} (h : LenD x n) : n + 1 ≤ Rows.uptoBulk x ∨ n = 0 := by
  rcases h with rfl | ⟨elems, spare, rfl, rfl⟩
  · exact .inr rfl
  · have h1 := bulk_len elems
    simp only [Rows.uptoBulk]
    exact .inl (by omega)
theorem LenD.bulk1 {x : DataW H} {n : Nat} (h : LenD x n) : n ≤ Rows.uptoBulk x := by
  rcases h.bulk with h | h <;> omega
/-- How long an instruction's lists are, together. -/
def wgt (x : In) : Nat := x.src.length + x.cases.length + x.segs.length + 1
def wgtL (l : List In) : Nat := (l.map wgt).sum
theorem InD.bulk {d : DataW H} {f : Im} (h : InD d f) : wgt f.x ≤ Rows.uptoBulk d := by
  obtain ⟨a, b, c, g, i, j, s, u, v, rfl, h1, h2, h3⟩ := h
  have e1 := h1.bulk1
  have e2 := h2.bulk1
  have e3 := h3.bulk1
  unfold wgt
  simp only [Rows.uptoBulk, Rows.uptoBulkAll]
  omega
/-- A list of instructions beside its datum. -/
def PairD (x : DataW H) (l : List In) : Prop := l = [] ∨ ∃ (elems spare : List (DataW H)) (Fs : List Im), x = .slice elems spare ∧ Fs.map (·.x) = l ∧ elems.length = Fs.length ∧ ∀ (i : Nat) (h : i < elems.length) (k : i < Fs.length), InD elems[i] Fs[i]
theorem wgt_bulk : ∀ (elems : List (DataW H)) (Fs : List Im), elems.length = Fs.length → (∀ (i : Nat) (h : i < elems.length) (k : i < Fs.length), InD elems[i] Fs[i]) → wgtL (Fs.map (·.x)) ≤ Rows.uptoBulkAll elems
  | [], [], _, _ => by simp [wgtL]
  | [], _ :: _, h, _ => by simp at h
  | _ :: _, [], h, _ => by simp at h
  | d :: r, f :: s, h, hp => by
    have h1 := (hp 0 (by simp) (by simp)).bulk
    have h2 := wgt_bulk r s (by simpa using h) (fun i a b => hp (i + 1) (by rw [List.length_cons]; omega) (by rw [List.length_cons]; omega))
    simp only [List.getElem_cons_zero] at h1
    unfold wgtL at h2 ⊢
    simp only [List.map_cons, List.sum_cons, Rows.uptoBulkAll]
    omega
theorem PairD.bulk {x : DataW H} {l : List In} (h : PairD x l) : wgtL l ≤ Rows.uptoBulk x := by
  rcases h with rfl | ⟨elems, spare, Fs, rfl, rfl, hl, hp⟩
  · simp [wgtL]
  · have := wgt_bulk elems Fs hl hp
    simp only [Rows.uptoBulk]
    omega
theorem wgtL_mem : ∀ {l : List In} {a : In}, a ∈ l → wgt a ≤ wgtL l
  | x :: r, a, h => by
    unfold wgtL
    simp only [List.map_cons, List.sum_cons]
    rcases List.mem_cons.1 h with rfl | h
    · omega
    · have := wgtL_mem h
      unfold wgtL at this
      omega
theorem wgtL_len : ∀ (l : List In), l.length ≤ wgtL l
  | [] => by simp
  | x :: r => by
    have := wgtL_len r
    unfold wgtL at this ⊢
    simp only [List.map_cons, List.sum_cons, List.length_cons, wgt]
    omega
end
section
variable {α H : Type} {enc : TypeId × Value → H} {P : Program} {W : World} {base : Nat} {sp : Nat → Bool} {held : Bool} {fuel : Nat} {t e : TypeId} {k : Nat}
/-- As slice_atL, place by place. -/
theorem slice_atP {v : Value} {x : DataW H × List MemPlace} (c : α → List Value) (good : DataW H → α → Prop) (ht : P.underlying t = some (.slice e)) (hk : P.cellsOf e = k) (hk0 : 0 < k)
    (hopen : ∀ n cs y, DataW.trod enc P W base sp held n e cs = some y → ∃ a, cs = c a ∧ good y.1 a)
    (h : DataW.trod enc P W base sp held fuel t [v] = some x) : ∃ As, SlAt W k c v As ∧ (As = [] ∨ ∃ elems spare : List (DataW H), x.1 = .slice elems spare ∧ elems.length = As.length ∧ ∀ (i : Nat) (h : i < elems.length) (q : i < As.length), good elems[i] As[i]) := by
  rcases DataW.trod_slice ht h with ⟨hcs, _⟩ | ⟨a, len, cap, elems, rest, n, _, hcs, hx, _, hl, hm, hlen, hel, _⟩
  · simp only [List.cons.injEq, and_true] at hcs
    exact ⟨[], .inl ⟨rfl, none, 0, hcs⟩, .inl rfl⟩
  · simp only [List.cons.injEq, and_true] at hcs
    subst hcs
    have hm' : len ≤ 9223372036854775807 := by unfold maxLen at hm; omega
    have each : ∀ i, i < len → ∃ u : α, (∀ j, j < k → W.cell? ((a.add (i * k)).add j) = (c u)[j]?) ∧ (c u).length = k ∧ ∀ (h : i < (elems.map (·.1)).length), good (elems.map (·.1))[i] u := by
      intro i hi
      have := hel i hi
      rw [List.getElem?_eq_getElem (by omega), Option.bind_eq_some_iff] at this
      obtain ⟨cs, h1, h2⟩ := this
      rw [hk] at h1
      obtain ⟨_, q2, q3⟩ := World.cells?_some h1
      obtain ⟨u, rfl, hu⟩ := hopen _ _ _ h2
      exact ⟨u, q3, q2, fun h => by rw [List.getElem_map]; exact hu⟩
    obtain ⟨As, hA, hg⟩ := choose_list _ len each
    refine ⟨As, ?_, .inr ⟨elems.map (·.1), rest.map (·.1), by rw [hx], by rw [List.length_map]; omega, fun i h q => (hg i q).2.2 h⟩⟩
    by_cases h0 : len = 0
    · subst h0
      exact .inl ⟨List.eq_nil_of_length_eq_zero hA, some a, cap, rfl⟩
    · have c0 := (hg 0 (by omega)).1 0 hk0
      rw [List.getElem?_eq_getElem (by rw [(hg 0 (by omega)).2.1]; exact hk0)] at c0
      obtain ⟨b, o, s2⟩ := a
      have hb : b < W.heap.size ∧ s2 = none := by
        unfold World.cell? at c0
        simp only [Addr.add] at c0
        split at c0
        · rename_i hh
          cases s2 with
          | none =>
            simp only [Nat.zero_mul, Nat.add_zero] at hh
            exact ⟨(Array.getElem?_eq_some_iff.1 (by simpa using hh)).1, rfl⟩
          | some q => simp at c0
        · cases c0
      obtain ⟨hb, rfl⟩ := hb
      refine .inr ⟨b, o, cap, by rw [hA], by omega, hb, ?_⟩
      intro i j hi hj
      have := (hg i hi).1 j hj
      have ea : ∀ (p q : Nat), (⟨b, p, none⟩ : Addr).add q = ⟨b, p + q, none⟩ := fun p q => by
        unfold Addr.add
        split
        · rename_i h; subst h; rfl
        · rfl
      rw [ea, ea] at this
      exact this
theorem ins_trodP {v : Value} {x : DataW H × List MemPlace} (h : DataW.trod enc Tryd.prog W base sp held fuel 22 [v] = some x) : ∃ l, InsAt W l v ∧ PairD x.1 l := by
  have hfull : ∃ Fs, SlAt W 10 imC v Fs ∧ (Fs = [] ∨ ∃ elems spare : List (DataW H), x.1 = .slice elems spare ∧ elems.length = Fs.length ∧ ∀ (i : Nat) (h : i < elems.length) (q : i < Fs.length), InD elems[i] Fs[i] ∧ ImAt W Fs[i]) :=
    slice_atP imC (fun d f => InD d f ∧ ImAt W f) Tryd.underlying22 size42 (by omega) (fun _ _ _ h => im_trod h) h
  obtain ⟨Fs, h1, h2⟩ := hfull
  refine ⟨Fs.map (·.x), ⟨Fs, rfl, h1, fun f hf => ?_⟩, ?_⟩
  · rcases h2 with rfl | ⟨elems, spare, _, hl, hp⟩
    · cases hf
    · obtain ⟨i, hi, rfl⟩ := List.getElem_of_mem hf
      exact (hp i (by omega) hi).2
  · rcases h2 with rfl | ⟨elems, spare, hx, hl, hp⟩
    · exact .inl rfl
    · exact .inr ⟨elems, spare, Fs, hx, rfl, hl, fun i a b => (hp i a b).1⟩
end
end Go.Proofs.YtekfnonjhcfdmaaDoor
