/- What the rows of flow share: lists of instructions among the arguments, the table that is laid. For the statements up to a bulk: a list of instructions beside its datum, place by place; what the bulk bounds. No condition beyond the reading. What the reference's queue may hold, by the bulk. -/
import Derived.Test.YtekfnonjhcfdmaaDoorBase1
import Derived.Test.YtekfnonjhcfdmaaDoorSet1
import Derived.Test.YtekfnonjhcfdmaaDoorRows
import Derived.ProofKit
import Derived.OpenShut
import Derived.ChangeSame
import Derived.DataReads
import Derived.SizedLaws
import Derived.Below
import Derived.Deep.DeepHandedRow
import Derived.Lib.LaidTab
import Derived.Test.YtekfnonjhcfdmaaDoorRef2
namespace Go.Proofs.YtekfnonjhcfdmaaDoor
open Go Go.ChangeShapes Go.WideShapes Go.ChangeAt Go.RowKit Go.Rt Go.Rw

theorem choose_list {α : Type} (p : Nat → α → Prop) : ∀ n, (∀ i, i < n → ∃ a, p i a) → ∃ l : List α, l.length = n ∧ ∀ i (h : i < l.length), p i l[i]
  | 0, _ => ⟨[], rfl, fun i h => by simp at h⟩
  | n + 1, h => by
    obtain ⟨l, h1, h2⟩ := choose_list p n (fun i hi => h i (by omega))
    obtain ⟨a, ha⟩ := h n (by omega)
    refine ⟨l ++ [a], by simp [h1], fun i hi => ?_⟩
    rcases Nat.lt_or_ge i l.length with q | q
    · rw [List.getElem_append_left q]; exact h2 i q
    · simp only [List.length_append, List.length_cons, List.length_nil] at hi
      obtain rfl : i = l.length := by omega
      rw [List.getElem_append_right (Nat.le_refl _)]
      simp only [Nat.sub_self, List.getElem_cons_zero, h1]
      exact ha
/-- A datum that is an element of a slice's datum; a datum of a slice of n. -/
def InSlice {H : Type} (d x : DataW H) : Prop := ∃ elems spare, x = .slice elems spare ∧ d ∈ elems
def LenD {H : Type} (x : DataW H) (n : Nat) : Prop := n = 0 ∨ ∃ elems spare, x = .slice elems spare ∧ elems.length = n
section
variable {α H : Type} {enc : TypeId × Value → H} {P : Program} {W : World} {base : Nat} {sp : Nat → Bool} {held : Bool} {fuel : Nat} {t e : TypeId} {k : Nat}
theorem slice_atL {v : Value} {x : DataW H × List MemPlace} (c : α → List Value) (good : DataW H → α → Prop) (ht : P.underlying t = some (.slice e)) (hk : P.cellsOf e = k) (hk0 : 0 < k)
    (hopen : ∀ n cs y, DataW.trod enc P W base sp held n e cs = some y → ∃ a, cs = c a ∧ good y.1 a)
    (h : DataW.trod enc P W base sp held fuel t [v] = some x) : ∃ As, SlAt W k c v As ∧ LenD x.1 As.length ∧ ∀ a ∈ As, ∃ d, InSlice d x.1 ∧ good d a := by
  rcases DataW.trod_slice ht h with ⟨hcs, _⟩ | ⟨a, len, cap, elems, rest, n, _, hcs, hx, _, hl, hm, hlen, hel, _⟩
  · simp only [List.cons.injEq, and_true] at hcs
    exact ⟨[], .inl ⟨rfl, none, 0, hcs⟩, .inl rfl, by simp⟩
  · simp only [List.cons.injEq, and_true] at hcs
    subst hcs
    have hm' : len ≤ 9223372036854775807 := by unfold maxLen at hm; omega
    have each : ∀ i, i < len → ∃ u : α, (∀ j, j < k → W.cell? ((a.add (i * k)).add j) = (c u)[j]?) ∧ (c u).length = k ∧ ∃ d, InSlice d x.1 ∧ good d u := by
      intro i hi
      have := hel i hi
      rw [List.getElem?_eq_getElem (by omega), Option.bind_eq_some_iff] at this
      obtain ⟨cs, h1, h2⟩ := this
      rw [hk] at h1
      obtain ⟨_, q2, q3⟩ := World.cells?_some h1
      obtain ⟨u, rfl, hu⟩ := hopen _ _ _ h2
      refine ⟨u, q3, q2, (elems[i]'(by omega)).1, ?_, hu⟩
      exact ⟨elems.map (·.1), rest.map (·.1), by rw [hx], List.mem_map.2 ⟨_, List.getElem_mem _, rfl⟩⟩
    obtain ⟨As, hA, hg⟩ := choose_list _ len each
    refine ⟨As, ?_, .inr ⟨elems.map (·.1), rest.map (·.1), by rw [hx], by rw [List.length_map]; omega⟩, fun u hu => ?_⟩
    · by_cases h0 : len = 0
      · subst h0
        exact .inl ⟨List.eq_nil_of_length_eq_zero hA, some a, cap, rfl⟩
      · have c0 := (hg 0 (by omega)).1 0 hk0
        rw [List.getElem?_eq_getElem (by rw [(hg 0 (by omega)).2.1]; exact hk0)] at c0
        obtain ⟨b, o, s2⟩ := a
        have hb : b < W.heap.size ∧ s2 = none := by
          unfold World.cell? at c0
          simp only [Addr.add] at c0
          split at c0
          · rename_i hh
            cases s2 with
            | none =>
              simp only [Nat.zero_mul, Nat.add_zero] at hh
              exact ⟨(Array.getElem?_eq_some_iff.1 (by simpa using hh)).1, rfl⟩
            | some q => simp at c0
          · cases c0
        obtain ⟨hb, rfl⟩ := hb
        refine .inr ⟨b, o, cap, by rw [hA], by omega, hb, ?_⟩
        intro i j hi hj
        have := (hg i hi).1 j hj
        have ea : ∀ (p q : Nat), (⟨b, p, none⟩ : Addr).add q = ⟨b, p + q, none⟩ := fun p q => by
          unfold Addr.add
          split
          · rename_i h; subst h; rfl
          · rfl
        rw [ea, ea] at this
        exact this
    · obtain ⟨i, hi, rfl⟩ := List.getElem_of_mem hu
      exact (hg i hi).2.2
end
theorem size3 : Tryd.prog.cellsOf 3 = 1 := by kernel_rfl
theorem size4 : Tryd.prog.cellsOf 4 = 1 := by kernel_rfl
theorem size9 : Tryd.prog.cellsOf 9 = 1 := by kernel_rfl
theorem size35 : Tryd.prog.cellsOf 35 = 1 := by kernel_rfl
theorem size39 : Tryd.prog.cellsOf 39 = 1 := by kernel_rfl
theorem size40 : Tryd.prog.cellsOf 40 = 1 := by kernel_rfl
theorem size38 : Tryd.prog.cellsOf 38 = 2 := by kernel_rfl
theorem size75 : Tryd.prog.cellsOf 75 = 2 := by kernel_rfl
theorem size80 : Tryd.prog.cellsOf 80 = 6 := by kernel_rfl
theorem size42 : Tryd.prog.cellsOf 42 = 10 := by kernel_rfl
theorem list2 {α : Type} {l : List α} (h : l.length = 2) : ∃ a b, l = [a, b] := by
  match l, h with
  | [a, b], _ => exact ⟨a, b, rfl⟩
theorem list4 {α : Type} {l : List α} (h : l.length = 4) : ∃ a b c d, l = [a, b, c, d] := by
  match l, h with
  | [a, b, c, d], _ => exact ⟨a, b, c, d, rfl⟩
theorem list6 {α : Type} {l : List α} (h : l.length = 6) : ∃ a b c d e f, l = [a, b, c, d, e, f] := by
  match l, h with
  | [a, b, c, d, e, f], _ => exact ⟨a, b, c, d, e, f, rfl⟩
theorem list9 {α : Type} {l : List α} (h : l.length = 9) : ∃ a b c d e f g i j, l = [a, b, c, d, e, f, g, i, j] := by
  match l, h with
  | [a, b, c, d, e, f, g, i, j], _ => exact ⟨a, b, c, d, e, f, g, i, j, rfl⟩
theorem list10 {α : Type} {l : List α} (h : l.length = 10) : ∃ a b c d e f g i j k, l = [a, b, c, d, e, f, g, i, j, k] := by
  match l, h with
  | [a, b, c, d, e, f, g, i, j, k], _ => exact ⟨a, b, c, d, e, f, g, i, j, k, rfl⟩
section
variable {H : Type} {enc : TypeId × Value → H} {W : World} {base : Nat} {sp : Nat → Bool} {held : Bool} {fuel : Nat}
theorem flow_struct2 {P : Program} {w : World} {spare : Nat → Bool} {t : TypeId} {f0 f1 : Field} {cs : List Value} {x : DataW H × List MemPlace} (ht : P.underlying t = some (.struct #[f0, f1])) (h : DataW.trod enc P w base spare held fuel t cs = some x) :
    ∃ y0 y1, ∃ n, x.1 = .agg [y0.1, y1.1] ∧ cs.length = P.cellsOf t ∧ DataW.trod enc P w base spare held n f0.type ((cs.drop f0.offset).take (P.cellsOf f0.type)) = some y0 ∧ DataW.trod enc P w base spare held n f1.type ((cs.drop f1.offset).take (P.cellsOf f1.type)) = some y1 := by
  obtain ⟨xs, n, _, rfl, hl, hlen, hf⟩ := DataW.trod_struct ht h
  obtain ⟨y0, y1, rfl⟩ := list2 hlen
  exact ⟨y0, y1, n, rfl, hl, by simpa using hf 0 f0 rfl, by simpa using hf 1 f1 rfl⟩
theorem flow_struct4 {P : Program} {w : World} {spare : Nat → Bool} {t : TypeId} {f0 f1 f2 f3 : Field} {cs : List Value} {x : DataW H × List MemPlace} (ht : P.underlying t = some (.struct #[f0, f1, f2, f3])) (h : DataW.trod enc P w base spare held fuel t cs = some x) :
    ∃ y0 y1 y2 y3, ∃ n, x.1 = .agg [y0.1, y1.1, y2.1, y3.1] ∧ cs.length = P.cellsOf t ∧ DataW.trod enc P w base spare held n f0.type ((cs.drop f0.offset).take (P.cellsOf f0.type)) = some y0 ∧ DataW.trod enc P w base spare held n f1.type ((cs.drop f1.offset).take (P.cellsOf f1.type)) = some y1 ∧ DataW.trod enc P w base spare held n f2.type ((cs.drop f2.offset).take (P.cellsOf f2.type)) = some y2 ∧ DataW.trod enc P w base spare held n f3.type ((cs.drop f3.offset).take (P.cellsOf f3.type)) = some y3 := by
  obtain ⟨xs, n, _, rfl, hl, hlen, hf⟩ := DataW.trod_struct ht h
  obtain ⟨y0, y1, y2, y3, rfl⟩ := list4 hlen
  exact ⟨y0, y1, y2, y3, n, rfl, hl, by simpa using hf 0 f0 rfl, by simpa using hf 1 f1 rfl, by simpa using hf 2 f2 rfl, by simpa using hf 3 f3 rfl⟩
theorem flow_struct9 {P : Program} {w : World} {spare : Nat → Bool} {t : TypeId} {f0 f1 f2 f3 f4 f5 f6 f7 f8 : Field} {cs : List Value} {x : DataW H × List MemPlace} (ht : P.underlying t = some (.struct #[f0, f1, f2, f3, f4, f5, f6, f7, f8])) (h : DataW.trod enc P w base spare held fuel t cs = some x) :
    ∃ y0 y1 y2 y3 y4 y5 y6 y7 y8, ∃ n, x.1 = .agg [y0.1, y1.1, y2.1, y3.1, y4.1, y5.1, y6.1, y7.1, y8.1] ∧ cs.length = P.cellsOf t ∧ DataW.trod enc P w base spare held n f0.type ((cs.drop f0.offset).take (P.cellsOf f0.type)) = some y0 ∧ DataW.trod enc P w base spare held n f1.type ((cs.drop f1.offset).take (P.cellsOf f1.type)) = some y1 ∧ DataW.trod enc P w base spare held n f2.type ((cs.drop f2.offset).take (P.cellsOf f2.type)) = some y2 ∧ DataW.trod enc P w base spare held n f3.type ((cs.drop f3.offset).take (P.cellsOf f3.type)) = some y3 ∧ DataW.trod enc P w base spare held n f4.type ((cs.drop f4.offset).take (P.cellsOf f4.type)) = some y4 ∧ DataW.trod enc P w base spare held n f5.type ((cs.drop f5.offset).take (P.cellsOf f5.type)) = some y5 ∧ DataW.trod enc P w base spare held n f6.type ((cs.drop f6.offset).take (P.cellsOf f6.type)) = some y6 ∧ DataW.trod enc P w base spare held n f7.type ((cs.drop f7.offset).take (P.cellsOf f7.type)) = some y7 ∧ DataW.trod enc P w base spare held n f8.type ((cs.drop f8.offset).take (P.cellsOf f8.type)) = some y8 := by
  obtain ⟨xs, n, _, rfl, hl, hlen, hf⟩ := DataW.trod_struct ht h
  obtain ⟨y0, y1, y2, y3, y4, y5, y6, y7, y8, rfl⟩ := list9 hlen
  exact ⟨y0, y1, y2, y3, y4, y5, y6, y7, y8, n, rfl, hl, by simpa using hf 0 f0 rfl, by simpa using hf 1 f1 rfl, by simpa using hf 2 f2 rfl, by simpa using hf 3 f3 rfl, by simpa using hf 4 f4 rfl, by simpa using hf 5 f5 rfl, by simpa using hf 6 f6 rfl, by simpa using hf 7 f7 rfl, by simpa using hf 8 f8 rfl⟩
theorem int_trod {cs : List Value} {x : DataW H × List MemPlace} (h : DataW.trod enc Tryd.prog W base sp held fuel 3 cs = some x) : ∃ n : Int, cs = inC n ∧ True := by
  obtain ⟨n, e, _⟩ := DataW.trod_int Tryd.underlying3 h
  exact ⟨n, e, trivial⟩
theorem ints_trod {v : Value} {x : DataW H × List MemPlace} (h : DataW.trod enc Tryd.prog W base sp held fuel 23 [v] = some x) : ∃ L, SlAt W 1 inC v L ∧ LenD x.1 L.length := by
  obtain ⟨L, h1, h2, _⟩ := slice_atL inC (fun _ _ => True) Tryd.underlying23 size3 (by omega) (fun _ _ _ h => int_trod h) h
  exact ⟨L, h1, h2⟩
theorem pair_trod {t : TypeId} {a b : String} {y1 y2 : Bool} {g1 g2 p1 p2 : String} {o1 o2 : Nat} (ht : Tryd.prog.underlying t = some (.struct #[⟨a, 3, 0, y1, g1, p1, o1⟩, ⟨b, 3, 1, y2, g2, p2, o2⟩])) (hs : Tryd.prog.cellsOf t = 2) {cs : List Value} {x : DataW H × List MemPlace}
    (h : DataW.trod enc Tryd.prog W base sp held fuel t cs = some x) : ∃ n m : Int, cs = [.int .i64 n, .int .i64 m] := by
  obtain ⟨y0, y1, n, hx, hl, h0, h1⟩ := flow_struct2 ht h
  rw [hs] at hl
  obtain ⟨c0, c1, rfl⟩ := list2 hl
  simp only [size3, List.drop_zero, List.take_succ_cons, List.take_zero, List.drop_succ_cons] at h0 h1
  obtain ⟨n0, e0, _⟩ := DataW.trod_int Tryd.underlying3 h0
  obtain ⟨n1, e1, _⟩ := DataW.trod_int Tryd.underlying3 h1
  simp only [List.cons.injEq, and_true] at e0 e1
  subst e0 e1
  exact ⟨n0, n1, rfl⟩
theorem arg_trod {cs : List Value} {x : DataW H × List MemPlace} (h : DataW.trod enc Tryd.prog W base sp held fuel 38 cs = some x) : ∃ a : Ar, cs = arC a ∧ True := by
  obtain ⟨n, m, e⟩ := pair_trod Tryd.underlying38 size38 h
  exact ⟨⟨n, m⟩, e, trivial⟩
theorem case_trod {cs : List Value} {x : DataW H × List MemPlace} (h : DataW.trod enc Tryd.prog W base sp held fuel 75 cs = some x) : ∃ a : Cs, cs = csC a ∧ True := by
  obtain ⟨n, m, e⟩ := pair_trod Tryd.underlying75 size75 h
  exact ⟨⟨n, m⟩, e, trivial⟩
theorem seg_trod {cs : List Value} {x : DataW H × List MemPlace} (h : DataW.trod enc Tryd.prog W base sp held fuel 80 cs = some x) : ∃ a : Sg, cs = sgC a ∧ True := by
  obtain ⟨y0, y1, y2, y3, n, hx, hl, h0, h1, h2, h3⟩ := flow_struct4 Tryd.underlying80 h
  rw [size80] at hl
  obtain ⟨c0, c1, c2, c3, c4, c5, rfl⟩ := list6 hl
  simp only [size3, size4, size38, List.drop_zero, List.take_succ_cons, List.take_zero, List.drop_succ_cons] at h0 h1 h2 h3
  obtain ⟨n0, e0, _⟩ := DataW.trod_int Tryd.underlying3 h0
  obtain ⟨⟨k1, m1⟩, e1, _⟩ := arg_trod h1
  obtain ⟨⟨k2, m2⟩, e2, _⟩ := arg_trod h2
  obtain ⟨b, e3, _⟩ := DataW.trod_bool Tryd.underlying4 h3
  simp only [arC, List.cons.injEq, and_true] at e0 e1 e2 e3
  obtain ⟨e1a, e1b⟩ := e1
  obtain ⟨e2a, e2b⟩ := e2
  subst e0 e1a e1b e2a e2b e3
  exact ⟨⟨n0, ⟨k1, m1⟩, ⟨k2, m2⟩, b⟩, rfl, trivial⟩
/-- The datum of an instruction: how long its lists are. -/
def InD (d : DataW H) (f : Im) : Prop := ∃ a b c g i j s u v, d = .agg [a, b, s, c, g, i, j, u, v] ∧ LenD s f.x.src.length ∧ LenD u f.x.cases.length ∧ LenD v f.x.segs.length
set_option maxRecDepth 100000 in
theorem im_trod {cs : List Value} {x : DataW H × List MemPlace} (h : DataW.trod enc Tryd.prog W base sp held fuel 42 cs = some x) : ∃ f : Im, cs = imC f ∧ (InD x.1 f ∧ ImAt W f) := by
  obtain ⟨y0, y1, y2, y3, y4, y5, y6, y7, y8, n, hx, hl, h0, h1, h2, h3, h4, h5, h6, h7, h8⟩ := flow_struct9 Tryd.underlying42 h
  rw [size42] at hl
  obtain ⟨c0, c1, c2, c3, c4, c5, c6, c7, c8, c9, rfl⟩ := list10 hl
  simp only [size3, size9, size35, size38, size39, size40, List.drop_zero, List.take_succ_cons, List.take_zero, List.drop_succ_cons] at h0 h1 h2 h3 h4 h5 h6 h7 h8
  obtain ⟨op, e0, _⟩ := DataW.trod_int Tryd.underlying3 h0
  obtain ⟨⟨k1, m1⟩, e1, _⟩ := arg_trod h1
  obtain ⟨src, s1, s2, _⟩ := slice_atL arC (fun _ _ => True) Tryd.underlying35 size38 (by omega) (fun _ _ _ h => arg_trod h) h2
  obtain ⟨goal, e3, _⟩ := DataW.trod_int Tryd.underlying3 h3
  obtain ⟨nn, e4, _⟩ := DataW.trod_int Tryd.underlying3 h4
  obtain ⟨live, e5, _⟩ := DataW.trod_int Tryd.underlying3 h5
  obtain ⟨nm, e6, _⟩ := DataW.trod_string Tryd.underlying9 h6
  obtain ⟨cas, u1, u2, _⟩ := slice_atL csC (fun _ _ => True) Tryd.underlying39 size75 (by omega) (fun _ _ _ h => case_trod h) h7
  obtain ⟨sgs, v1, v2, _⟩ := slice_atL sgC (fun _ _ => True) Tryd.underlying40 size80 (by omega) (fun _ _ _ h => seg_trod h) h8
  simp only [arC, List.cons.injEq, and_true] at e0 e1 e3 e4 e5 e6
  obtain ⟨e1a, e1b⟩ := e1
  subst e0 e1a e1b e3 e4 e5 e6
  exact ⟨⟨⟨op, ⟨k1, m1⟩, src, goal, nn, live, nm, cas, sgs⟩, c3, c8, c9⟩, rfl, ⟨y0.1, y1.1, y3.1, y4.1, y5.1, y6.1, y2.1, y7.1, y8.1, hx, s2, u2, v2⟩, s1, u1, v1⟩
theorem ins_trod {v : Value} {x : DataW H × List MemPlace} (h : DataW.trod enc Tryd.prog W base sp held fuel 22 [v] = some x) : ∃ l, InsAt W l v ∧ LenD x.1 l.length ∧ ∀ a ∈ l, ∃ d f, InSlice d x.1 ∧ InD d f ∧ f.x = a := by
  obtain ⟨Fs, h1, h2, h3⟩ := slice_atL imC (fun d f => InD d f ∧ ImAt W f) Tryd.underlying22 size42 (by omega) (fun _ _ _ h => im_trod h) h
  refine ⟨Fs.map (·.x), ⟨Fs, rfl, h1, fun f hf => ?_⟩, by rw [List.length_map]; exact h2, fun a ha => ?_⟩
  · obtain ⟨d, _, _, h4⟩ := h3 f hf
    exact h4
  · obtain ⟨f, hf, rfl⟩ := List.mem_map.1 ha
    obtain ⟨d, h4, h5, _⟩ := h3 f hf
    exact ⟨d, f, h4, h5, rfl⟩
end
/-! ### Sizes -/
section
variable {H : Type}
theorem weightsAll_mem {P : Program} {e : TypeId} {d : DataW H} {n : Nat} : ∀ {l : List (DataW H)}, d ∈ l → n ∈ d.weights P e → n ∈ DataW.weightsAll P e l
  | x :: r, h, hn => by
    simp only [DataW.weightsAll, List.mem_append]
    rcases List.mem_cons.1 h with rfl | h
    · exact .inl hn
    · exact .inr (weightsAll_mem h hn)
theorem InSlice.weights {P : Program} {t e : TypeId} {d x : DataW H} (h : InSlice d x) (ht : P.underlying t = some (.slice e)) {n : Nat} (hn : n ∈ d.weights P e) : n ∈ x.weights P t := by
  obtain ⟨elems, spare, rfl, hd⟩ := h
  simp only [DataW.weights, ht, List.mem_cons, List.mem_append]
  exact .inr (.inl (weightsAll_mem hd hn))
theorem LenD.le {P : Program} {t e : TypeId} {x : DataW H} {n B : Nat} (h : LenD x n) (ht : P.underlying t = some (.slice e)) (hw : ∀ m ∈ x.weights P t, m ≤ B) : n * P.bytesOf e ≤ B := by
  rcases h with rfl | ⟨elems, spare, rfl, rfl⟩
  · omega
  · have := hw _ (by simp only [DataW.weights, ht]; exact List.mem_cons_self ..)
    exact Nat.le_trans (Nat.mul_le_mul_right _ (Nat.le_add_right _ _)) this
end
theorem bytes42 : Tryd.prog.bytesOf 42 = 136 := by kernel_rfl
theorem bytes75 : Tryd.prog.bytesOf 75 = 16 := by kernel_rfl
theorem bytes3 : Tryd.prog.bytesOf 3 = 8 := by kernel_rfl
section
variable {H : Type} {ts : List TypeId} {ds : List (DataW H)} {j : Nat} {x : DataW H}
theorem ins_sizes (hd : (DataW.weightsEach Tryd.prog ts ds).all (· ≤ reachBytes) = true) (ht : ts[j]? = some 22) (hj : ds[j]? = some x) {l : List In} (h1 : LenD x l.length) (h2 : ∀ a ∈ l, ∃ (d : DataW H) (f : Im), InSlice d x ∧ InD d f ∧ f.x = a) : l.length ≤ 1034834473200 ∧ ∀ a ∈ l, a.cases.length ≤ 8796093021952 := by
  have hr : reachBytes = 140737488351232 := rfl
  have hw : ∀ m ∈ x.weights Tryd.prog 22, m ≤ 140737488351232 := fun m hm => by
    have := List.all_eq_true.1 hd _ (DataW.weights_mem_each ht hj _ hm)
    rw [decide_eq_true_eq, hr] at this
    exact this
  refine ⟨?_, fun a ha => ?_⟩
  · have := h1.le Tryd.underlying22 hw
    rw [bytes42] at this
    omega
  · obtain ⟨d, f, hin, ⟨pa, pb, pc, pg, pi, pj, ps, pu, pv, rfl, _, hu, _⟩, rfl⟩ := h2 a ha
    have := hu.le Tryd.underlying39 (B := 140737488351232) (fun m hm => hw m (hin.weights Tryd.underlying22 (by
      simp only [DataW.weights, Tryd.underlying42, DataW.weightsEach, List.map_cons, List.map_nil, List.mem_append]
      simp [hm])))
    rw [bytes75] at this
    omega
theorem ints_sizes (hd : (DataW.weightsEach Tryd.prog ts ds).all (· ≤ reachBytes) = true) (ht : ts[j]? = some 23) (hj : ds[j]? = some x) {L : List Int} (h1 : LenD x L.length) : L.length ≤ 17592186043904 := by
  have hr : reachBytes = 140737488351232 := rfl
  have := h1.le Tryd.underlying23 (B := 140737488351232) (fun m hm => by
    have := List.all_eq_true.1 hd _ (DataW.weights_mem_each ht hj _ hm)
    rw [decide_eq_true_eq, hr] at this
    exact this)
  rw [bytes3] at this
  omega
end
/-! ### The table -/
theorem own_ : ownKnob Tryd.prog.godebug = none := by kernel_rfl
theorem laidOut : laidOutB Tryd.prog = true := by kernel_rfl
theorem gTab : Tryd.prog.globalNamed "math/bits.deBruijn64tab" = some 0 := by kernel_rfl
abbrev laidT : List (String × DataW Unit) := [("math/bits.deBruijn64tab", Rows.laid_math_bits_deBruijn64tab)]
abbrev tabI : List Int := Lib.deBruijn64tab.map fun n : Nat => (n : Int)
theorem of_laid {W : World} (h : laidMetH Tryd.prog laidT W) : TabAt 0 Lib.deBruijn64tab W ∧ 0 < W.heap.size := by
  have hT : Lib.TabIs Tryd.prog W "math/bits.deBruijn64tab" .u8 tabI := Lib.tabIs_of_head (rest := []) (g := 0) (t := 107) (e := 5) (n := 64) gTab (by kernel_rfl) Tryd.underlying107 Tryd.underlying5 (by kernel_rfl) (by kernel_rfl) h
  have hc : TabAt 0 Lib.deBruijn64tab W := fun j hj => by
    rw [hT.cell gTab j (by rw [List.length_map]; exact hj)]
    rw [List.getD_eq_getElem?_getD, List.getD_eq_getElem?_getD, List.getElem?_map, List.getElem?_eq_getElem hj]
    rfl
  refine ⟨hc, ?_⟩
  have h0 := hc 0 (by decide)
  unfold World.cell? at h0
  by_cases hz : 0 < W.heap.size
  · exact hz
  · rw [Array.getElem?_eq_none (by show W.heap.size ≤ 0; omega)] at h0
    cases h0
/-- A world for the witness: the table (block 0) holds what its initialiser lays. -/
noncomputable def laidWorld (os : Os) : World :=
  { World.holding Tryd.prog os ⟨#[], #[], []⟩ with heap := (World.holding Tryd.prog os ⟨#[], #[], []⟩).heap.modify 0 fun
      | .cells _ t frozen => .cells (tabI.map fun z => Value.int .u8 z).toArray t frozen
      | o => o }
theorem laid_met (os : Os) (args : Array Value) : laidMet Tryd.prog laidT ((laidWorld os).forCall (fun _ _ => 0) ⟨#[], args, []⟩).memory :=
  laidMet_of_run' 8 (by kernel_rfl) (by kernel_rfl)
end Go.Proofs.YtekfnonjhcfdmaaDoor
namespace Go.Proofs.YtekfnonjhcfdmaaDoor
open Go Go.ChangeShapes Go.WideShapes Go.ChangeAt Go.RowKit Go.Rt Go.Rw

section
variable {H : Type}
theorem bulk_pos (d : DataW H) : 1 ≤ Rows.uptoBulk d := by
  cases d <;> first | (rename_i l; cases l <;> simp [Rows.uptoBulk]) | simp [Rows.uptoBulk]
theorem bulk_mem {d : DataW H} : ∀ {l : List (DataW H)}, d ∈ l → Rows.uptoBulk d ≤ Rows.uptoBulkAll l
  | x :: r, h => by
    simp only [Rows.uptoBulkAll]
    rcases List.mem_cons.1 h with rfl | h
    · omega
    · have := bulk_mem h
      omega
theorem bulk_len : ∀ (l : List (DataW H)), l.length ≤ Rows.uptoBulkAll l
  | [] => by simp
  | x :: r => by
    have h1 := bulk_pos x
    have h2 := bulk_len r
    simp only [Rows.uptoBulkAll, List.length_cons]
    omega
theorem LenD.bulk {x : DataW H} {n : Nat} (h : LenD x n) : n + 1 ≤ Rows.uptoBulk x ∨ n = 0 := by
  rcases h with rfl | ⟨elems, spare, rfl, rfl⟩
  · exact .inr rfl
  · have h1 := bulk_len elems
    simp only [Rows.uptoBulk]
    exact .inl (by omega)
theorem LenD.bulk1 {x : DataW H} {n : Nat} (h : LenD x n) : n ≤ Rows.uptoBulk x := by
  rcases h.bulk with h | h <;> omega
/-- How long an instruction's lists are, together. -/
def wgt (x : In) : Nat := x.src.length + x.cases.length + x.segs.length + 1
def wgtL (l : List In) : Nat := (l.map wgt).sum
theorem InD.bulk {d : DataW H} {f : Im} (h : InD d f) : wgt f.x ≤ Rows.uptoBulk d := by
  obtain ⟨a, b, c, g, i, j, s, u, v, rfl, h1, h2, h3⟩ := h
  have e1 := h1.bulk1
  have e2 := h2.bulk1
  have e3 := h3.bulk1
  unfold wgt
  simp only [Rows.uptoBulk, Rows.uptoBulkAll]
  omega
/-- A list of instructions beside its datum. -/
def PairD (x : DataW H) (l : List In) : Prop := l = [] ∨ ∃ (elems spare : List (DataW H)) (Fs : List Im), x = .slice elems spare ∧ Fs.map (·.x) = l ∧ elems.length = Fs.length ∧ ∀ (i : Nat) (h : i < elems.length) (k : i < Fs.length), InD elems[i] Fs[i]
theorem wgt_bulk : ∀ (elems : List (DataW H)) (Fs : List Im), elems.length = Fs.length → (∀ (i : Nat) (h : i < elems.length) (k : i < Fs.length), InD elems[i] Fs[i]) → wgtL (Fs.map (·.x)) ≤ Rows.uptoBulkAll elems
  | [], [], _, _ => by simp [wgtL]
  | [], _ :: _, h, _ => by simp at h
  | _ :: _, [], h, _ => by simp at h
  | d :: r, f :: s, h, hp => by
    have h1 := (hp 0 (by simp) (by simp)).bulk
    have h2 := wgt_bulk r s (by simpa using h) (fun i a b => hp (i + 1) (by rw [List.length_cons]; omega) (by rw [List.length_cons]; omega))
    simp only [List.getElem_cons_zero] at h1
    unfold wgtL at h2 ⊢
    simp only [List.map_cons, List.sum_cons, Rows.uptoBulkAll]
    omega
theorem PairD.bulk {x : DataW H} {l : List In} (h : PairD x l) : wgtL l ≤ Rows.uptoBulk x := by
  rcases h with rfl | ⟨elems, spare, Fs, rfl, rfl, hl, hp⟩
  · simp [wgtL]
  · have := wgt_bulk elems Fs hl hp
    simp only [Rows.uptoBulk]
    omega
theorem wgtL_mem : ∀ {l : List In} {a : In}, a ∈ l → wgt a ≤ wgtL l
  | x :: r, a, h => by
    unfold wgtL
    simp only [List.map_cons, List.sum_cons]
    rcases List.mem_cons.1 h with rfl | h
    · omega
    · have := wgtL_mem h
      unfold wgtL at this
      omega
theorem wgtL_len : ∀ (l : List In), l.length ≤ wgtL l
  | [] => by simp
  | x :: r => by
    have := wgtL_len r
    unfold wgtL at this ⊢
    simp only [List.map_cons, List.sum_cons, List.length_cons, wgt]
    omega
end
section
variable {α H : Type} {enc : TypeId × Value → H} {P : Program} {W : World} {base : Nat} {sp : Nat → Bool} {held : Bool} {fuel : Nat} {t e : TypeId} {k : Nat}
/-- As slice_atL, place by place. -/
theorem slice_atP {v : Value} {x : DataW H × List MemPlace} (c : α → List Value) (good : DataW H → α → Prop) (ht : P.underlying t = some (.slice e)) (hk : P.cellsOf e = k) (hk0 : 0 < k)
    (hopen : ∀ n cs y, DataW.trod enc P W base sp held n e cs = some y → ∃ a, cs = c a ∧ good y.1 a)
    (h : DataW.trod enc P W base sp held fuel t [v] = some x) : ∃ As, SlAt W k c v As ∧ (As = [] ∨ ∃ elems spare : List (DataW H), x.1 = .slice elems spare ∧ elems.length = As.length ∧ ∀ (i : Nat) (h : i < elems.length) (q : i < As.length), good elems[i] As[i]) := by
  rcases DataW.trod_slice ht h with ⟨hcs, _⟩ | ⟨a, len, cap, elems, rest, n, _, hcs, hx, _, hl, hm, hlen, hel, _⟩
  · simp only [List.cons.injEq, and_true] at hcs
    exact ⟨[], .inl ⟨rfl, none, 0, hcs⟩, .inl rfl⟩
  · simp only [List.cons.injEq, and_true] at hcs
    subst hcs
    have hm' : len ≤ 9223372036854775807 := by unfold maxLen at hm; omega
    have each : ∀ i, i < len → ∃ u : α, (∀ j, j < k → W.cell? ((a.add (i * k)).add j) = (c u)[j]?) ∧ (c u).length = k ∧ ∀ (h : i < (elems.map (·.1)).length), good (elems.map (·.1))[i] u := by
      intro i hi
      have := hel i hi
      rw [List.getElem?_eq_getElem (by omega), Option.bind_eq_some_iff] at this
      obtain ⟨cs, h1, h2⟩ := this
      rw [hk] at h1
      obtain ⟨_, q2, q3⟩ := World.cells?_some h1
      obtain ⟨u, rfl, hu⟩ := hopen _ _ _ h2
      exact ⟨u, q3, q2, fun h => by rw [List.getElem_map]; exact hu⟩
    obtain ⟨As, hA, hg⟩ := choose_list _ len each
    refine ⟨As, ?_, .inr ⟨elems.map (·.1), rest.map (·.1), by rw [hx], by rw [List.length_map]; omega, fun i h q => (hg i q).2.2 h⟩⟩
    by_cases h0 : len = 0
    · subst h0
      exact .inl ⟨List.eq_nil_of_length_eq_zero hA, some a, cap, rfl⟩
    · have c0 := (hg 0 (by omega)).1 0 hk0
      rw [List.getElem?_eq_getElem (by rw [(hg 0 (by omega)).2.1]; exact hk0)] at c0
      obtain ⟨b, o, s2⟩ := a
      have hb : b < W.heap.size ∧ s2 = none := by
        unfold World.cell? at c0
        simp only [Addr.add] at c0
        split at c0
        · rename_i hh
          cases s2 with
          | none =>
            simp only [Nat.zero_mul, Nat.add_zero] at hh
            exact ⟨(Array.getElem?_eq_some_iff.1 (by simpa using hh)).1, rfl⟩
          | some q => simp at c0
        · cases c0
      obtain ⟨hb, rfl⟩ := hb
      refine .inr ⟨b, o, cap, by rw [hA], by omega, hb, ?_⟩
      intro i j hi hj
      have := (hg i hi).1 j hj
      have ea : ∀ (p q : Nat), (⟨b, p, none⟩ : Addr).add q = ⟨b, p + q, none⟩ := fun p q => by
        unfold Addr.add
        split
        · rename_i h; subst h; rfl
        · rfl
      rw [ea, ea] at this
      exact this
theorem ins_trodP {v : Value} {x : DataW H × List MemPlace} (h : DataW.trod enc Tryd.prog W base sp held fuel 22 [v] = some x) : ∃ l, InsAt W l v ∧ PairD x.1 l := by
  have hfull : ∃ Fs, SlAt W 10 imC v Fs ∧ (Fs = [] ∨ ∃ elems spare : List (DataW H), x.1 = .slice elems spare ∧ elems.length = Fs.length ∧ ∀ (i : Nat) (h : i < elems.length) (q : i < Fs.length), InD elems[i] Fs[i] ∧ ImAt W Fs[i]) :=
    slice_atP imC (fun d f => InD d f ∧ ImAt W f) Tryd.underlying22 size42 (by omega) (fun _ _ _ h => im_trod h) h
  obtain ⟨Fs, h1, h2⟩ := hfull
  refine ⟨Fs.map (·.x), ⟨Fs, rfl, h1, fun f hf => ?_⟩, ?_⟩
  · rcases h2 with rfl | ⟨elems, spare, _, hl, hp⟩
    · cases hf
    · obtain ⟨i, hi, rfl⟩ := List.getElem_of_mem hf
      exact (hp i (by omega) hi).2
  · rcases h2 with rfl | ⟨elems, spare, hx, hl, hp⟩
    · exact .inl rfl
    · exact .inr ⟨elems, spare, Fs, hx, rfl, hl, fun i a b => (hp i a b).1⟩
end
end Go.Proofs.YtekfnonjhcfdmaaDoor
namespace Go.Proofs.YtekfnonjhcfdmaaDoor

theorem sumN_wgt (l : List In) : ∀ n, n ≤ l.length → sumN (fun i => wtI l i) n ≤ 5 * wgtL (l.take n)
  | 0, _ => by simp [sumN]
  | n + 1, h => by
    have h1 := sumN_wgt l n (by omega)
    have h2 := wtI_le l n (by omega)
    rw [List.take_succ_eq_append_getElem (by omega)]
    have e : wgtL (l.take n ++ [l[n]]) = wgtL (l.take n) + wgt l[n] := by
      unfold wgtL
      rw [List.map_append, List.sum_append]
      simp only [List.map_cons, List.map_nil, List.sum_cons, List.sum_nil, Nat.add_zero]
    rw [e, sumN]
    unfold wgt
    omega
theorem owe_le (l : List In) (Q : Nat → Bool) : owe l Q ≤ 5 * wgtL l := by
  have h1 := sumN_wgt l l.length (Nat.le_refl _)
  rw [List.take_length] at h1
  have h2 := sumN_le (f := fun i => if Q i then 0 else wtI l i) (g := fun i => wtI l i) l.length (fun i _ => by
    split
    · exact Nat.zero_le _
    · exact Nat.le_refl _)
  unfold owe
  omega
theorem bulk_cases {l : List In} (h : wgtL l ≤ 1048576) : ∀ x ∈ l, x.cases.length ≤ 1048576 := fun x hx => by
  have := wgtL_mem hx
  unfold wgt at this
  omega
theorem bulk_src {l : List In} (h : wgtL l ≤ 1048576) : ∀ x ∈ l, x.src.length ≤ 1048576 := fun x hx => by
  have := wgtL_mem hx
  unfold wgt at this
  omega
theorem bulk_segs {l : List In} (h : wgtL l ≤ 1048576) : ∀ x ∈ l, x.segs.length ≤ 1048576 := fun x hx => by
  have := wgtL_mem hx
  unfold wgt at this
  omega
theorem bulk_list {l : List In} (h : wgtL l ≤ 1048576) : l.length ≤ 1048576 := Nat.le_trans (wgtL_len l) h
end Go.Proofs.YtekfnonjhcfdmaaDoor
