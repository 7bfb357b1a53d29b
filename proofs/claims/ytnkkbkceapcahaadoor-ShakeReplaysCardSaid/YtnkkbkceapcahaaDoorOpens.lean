/- A setting as an argument: its cells, its datum, its strings' lengths. -/
import Derived.Test.YtnkkbkceapcahaaDoorLaid
import Derived.Lib.SmallJoins
import Derived.SizedLaws
namespace Go.Proofs.YtnkkbkceapcahaaDoor
open Go.ChangeShapes Go.WideShapes Go.ChangeAt Go.RowKit

/-- A setting. -/
structure Stg where
  dials : Bool
  name : ByteArray
  gen : Int
  want : ByteArray
  cookie : ByteArray
  chal : Int
def stgV (x : Stg) : Value := .agg #[.bool x.dials, .string x.name, .int .i64 x.gen, .string x.want, .string x.cookie, .int .u64 x.chal]
def stgD {H : Type} (x : Stg) : DataW H := .agg [.lit (.bool x.dials), .agg [.lit (.string x.name.data.toList), .lit (.int .i64 x.gen)], .lit (.string x.want.data.toList), .lit (.string x.cookie.data.toList), .lit (.int .u64 x.chal)]
structure StgOk (x : Stg) : Prop where
  g : (Lit.int .i64 x.gen).wf = true
  c : (Lit.int .u64 x.chal).wf = true
theorem size26 : Tryd.prog.cellsOf 26 = 6 := by kernel_rfl
theorem size23 : Tryd.prog.cellsOf 23 = 2 := by kernel_rfl
theorem size9 : Tryd.prog.cellsOf 9 = 1 := by kernel_rfl
theorem size4 : Tryd.prog.cellsOf 4 = 1 := by kernel_rfl
theorem size24 : Tryd.prog.cellsOf 24 = 1 := by kernel_rfl
theorem size2 : Tryd.prog.cellsOf 2 = 1 := by kernel_rfl
theorem list2 {α : Type} {l : List α} (h : l.length = 2) : ∃ a b, l = [a, b] := by
  match l, h with
  | [a, b], _ => exact ⟨a, b, rfl⟩
theorem list5 {α : Type} {l : List α} (h : l.length = 5) : ∃ a b c d e, l = [a, b, c, d, e] := by
  match l, h with
  | [a, b, c, d, e], _ => exact ⟨a, b, c, d, e, rfl⟩
theorem list6 {α : Type} {l : List α} (h : l.length = 6) : ∃ a b c d e f, l = [a, b, c, d, e, f] := by
  match l, h with
  | [a, b, c, d, e, f], _ => exact ⟨a, b, c, d, e, f, rfl⟩
section
variable {H : Type} {enc : TypeId × Value → H} {w : World} {base : Nat} {spare : Nat → Bool} {held : Bool} {fuel : Nat}
theorem peer_trod {cs : List Value} {x : DataW H × List MemPlace} (h : DataW.trod enc Tryd.prog w base spare held fuel 23 cs = some x) :
    ∃ (n : ByteArray) (g : Int), cs = [.string n, .int .i64 g] ∧ x = (.agg [.lit (.string n.data.toList), .lit (.int .i64 g)], []) ∧ (Lit.int .i64 g).wf = true := by
  obtain ⟨y0, y1, n, hx, hl, h0, h1⟩ := trod_struct2 Tryd.underlying23 h
  rw [size23] at hl
  obtain ⟨c0, c1, rfl⟩ := list2 hl
  · simp only [size9, size2, List.drop_zero, List.take_succ_cons, List.take_zero, List.drop_succ_cons] at h0 h1
    obtain ⟨s, e0, rfl, _⟩ := DataW.trod_string Tryd.underlying9 h0
    obtain ⟨g, e1, rfl, hg⟩ := DataW.trod_int Tryd.underlying2 h1
    simp only [List.cons.injEq, and_true] at e0 e1
    subst e0 e1
    exact ⟨s, g, rfl, by rw [hx]; rfl, hg⟩
theorem trod_struct5 {P : Program} {t : TypeId} {f0 f1 f2 f3 f4 : Field} {cs : List Value} {x : DataW H × List MemPlace} (ht : P.underlying t = some (.struct #[f0, f1, f2, f3, f4])) (h : DataW.trod enc P w base spare held fuel t cs = some x) :
    ∃ y0 y1 y2 y3 y4 n, x = (.agg [y0.1, y1.1, y2.1, y3.1, y4.1], y0.2 ++ (y1.2 ++ (y2.2 ++ (y3.2 ++ y4.2)))) ∧ cs.length = P.cellsOf t ∧ DataW.trod enc P w base spare held n f0.type ((cs.drop f0.offset).take (P.cellsOf f0.type)) = some y0 ∧
      DataW.trod enc P w base spare held n f1.type ((cs.drop f1.offset).take (P.cellsOf f1.type)) = some y1 ∧ DataW.trod enc P w base spare held n f2.type ((cs.drop f2.offset).take (P.cellsOf f2.type)) = some y2 ∧
      DataW.trod enc P w base spare held n f3.type ((cs.drop f3.offset).take (P.cellsOf f3.type)) = some y3 ∧ DataW.trod enc P w base spare held n f4.type ((cs.drop f4.offset).take (P.cellsOf f4.type)) = some y4 := by
  obtain ⟨xs, n, _, rfl, hl, hlen, hf⟩ := DataW.trod_struct ht h
  obtain ⟨y0, y1, y2, y3, y4, rfl⟩ := list5 hlen
  exact ⟨y0, y1, y2, y3, y4, n, by simp, hl, by simpa using hf 0 f0 rfl, by simpa using hf 1 f1 rfl, by simpa using hf 2 f2 rfl, by simpa using hf 3 f3 rfl, by simpa using hf 4 f4 rfl⟩
theorem stg_trod {cs : List Value} {x : DataW H × List MemPlace} (h : DataW.trod enc Tryd.prog w base spare held fuel 26 cs = some x) :
    ∃ s : Stg, cs = [.bool s.dials, .string s.name, .int .i64 s.gen, .string s.want, .string s.cookie, .int .u64 s.chal] ∧ x = (stgD s, []) ∧ StgOk s := by
  obtain ⟨y0, y1, y2, y3, y4, n, hx, hl, h0, h1, h2, h3, h4⟩ := trod_struct5 Tryd.underlying26 h
  rw [size26] at hl
  obtain ⟨c0, c1, c2, c3, c4, c5, rfl⟩ := list6 hl
  · simp only [size4, size9, size23, size24, List.drop_zero, List.take_succ_cons, List.take_zero, List.drop_succ_cons] at h0 h1 h2 h3 h4
    obtain ⟨d, e0, rfl⟩ := DataW.trod_bool Tryd.underlying4 h0
    obtain ⟨nm, g, e1, rfl, hg⟩ := peer_trod h1
    obtain ⟨wt, e2, rfl, _⟩ := DataW.trod_string Tryd.underlying9 h2
    obtain ⟨ck, e3, rfl, _⟩ := DataW.trod_string Tryd.underlying9 h3
    obtain ⟨c, e4, rfl, hc⟩ := DataW.trod_int Tryd.underlying24 h4
    simp only [List.cons.injEq, and_true] at e0 e1 e2 e3 e4
    obtain ⟨e1a, e1b⟩ := e1
    subst e0 e1a e1b e2 e3 e4
    exact ⟨⟨d, nm, g, wt, ck, c⟩, rfl, hx, ⟨hg, hc⟩⟩
set_option maxRecDepth 100000 in
theorem stg_open {r : Reach} {b0 : Nat} {v : Value} {d : DataW H} {p : List MemPlace} (hv : Value.okWide Tryd.prog w r b0 26 v) (h : DataW.Trod enc Tryd.prog w base spare held 26 v d p) : ∃ s, v = stgV s ∧ d = stgD s ∧ p = [] ∧ StgOk s := by
  obtain ⟨cs, rfl, hsz⟩ := okWide_struct Tryd.underlying26 hv
  obtain ⟨fuel, hf⟩ := h
  obtain ⟨s, e, ex, hs⟩ := stg_trod hf
  simp only [Prod.mk.injEq] at ex
  refine ⟨s, ?_, ex.1, ex.2, hs⟩
  have e' : cs.toList = [.bool s.dials, .string s.name, .int .i64 s.gen, .string s.want, .string s.cookie, .int .u64 s.chal] := e
  have : cs = #[.bool s.dials, .string s.name, .int .i64 s.gen, .string s.want, .string s.cookie, .int .u64 s.chal] := by
    apply Array.ext'
    rw [e']
  rw [this]
  rfl
set_option maxRecDepth 100000 in
theorem stg_sizes {ts : List TypeId} {ds : List (DataW H)} (hd : (DataW.weightsEach Tryd.prog ts ds).all (· ≤ reachBytes) = true) {j : Nat} {s : Stg} (ht : ts[j]? = some 26) (hj : ds[j]? = some (stgD s)) :
    s.name.size ≤ 140737488355328 ∧ s.want.size ≤ 140737488355328 ∧ s.cookie.size ≤ 140737488355328 := by
  have key : ∀ b : ByteArray, b.data.toList.length ∈ DataW.weights Tryd.prog 26 (stgD (H := H) s) → b.size ≤ 140737488355328 := by
    intro b hb
    have := List.all_eq_true.1 hd _ (DataW.weights_mem_each ht hj _ hb)
    have h2 : reachBytes = 140737488351232 := rfl
    simp only [decide_eq_true_eq, Array.length_toList, h2, ByteArray.size_data] at this
    omega
  refine ⟨key _ ?_, key _ ?_, key _ ?_⟩ <;> simp [stgD, DataW.weights, DataW.weightsEach, Tryd.underlying26, Tryd.underlying23]
end
end Go.Proofs.YtnkkbkceapcahaaDoor
