/- Two settings, an answer and a cookie as one argument. -/
import Derived.Test.YtnkkbkceapcahaaDoorOpens
import Derived.Test.YtnkkbkceapcahaaDoorSilent
namespace Go.Proofs.YtnkkbkceapcahaaDoor
open Go.ChangeShapes Go.WideShapes Go.ChangeAt Go.RowKit
theorem size28 : Tryd.prog.cellsOf 28 = 14 := by kernel_rfl
theorem size3 : Tryd.prog.cellsOf 3 = 1 := by kernel_rfl
theorem list4 {α : Type} {l : List α} (h : l.length = 4) : ∃ a b c d, l = [a, b, c, d] := by
  match l, h with
  | [a, b, c, d], _ => exact ⟨a, b, c, d, rfl⟩
theorem list14 {α : Type} {l : List α} (h : l.length = 14) : ∃ a0 a1 a2 a3 a4 a5 a6 a7 a8 a9 a10 a11 a12 a13, l = [a0, a1, a2, a3, a4, a5, a6, a7, a8, a9, a10, a11, a12, a13] := by
  match l, h with
  | [a0, a1, a2, a3, a4, a5, a6, a7, a8, a9, a10, a11, a12, a13], _ => exact ⟨a0, a1, a2, a3, a4, a5, a6, a7, a8, a9, a10, a11, a12, a13, rfl⟩
section
variable {H : Type} {enc : TypeId × Value → H} {w : World} {base : Nat} {spare : Nat → Bool} {held : Bool} {fuel : Nat}
theorem trod_struct4 {P : Program} {t : TypeId} {f0 f1 f2 f3 : Field} {cs : List Value} {x : DataW H × List MemPlace} (ht : P.underlying t = some (.struct #[f0, f1, f2, f3])) (h : DataW.trod enc P w base spare held fuel t cs = some x) :
    ∃ y0 y1 y2 y3 n, x = (.agg [y0.1, y1.1, y2.1, y3.1], y0.2 ++ (y1.2 ++ (y2.2 ++ y3.2))) ∧ cs.length = P.cellsOf t ∧ DataW.trod enc P w base spare held n f0.type ((cs.drop f0.offset).take (P.cellsOf f0.type)) = some y0 ∧
      DataW.trod enc P w base spare held n f1.type ((cs.drop f1.offset).take (P.cellsOf f1.type)) = some y1 ∧ DataW.trod enc P w base spare held n f2.type ((cs.drop f2.offset).take (P.cellsOf f2.type)) = some y2 ∧
      DataW.trod enc P w base spare held n f3.type ((cs.drop f3.offset).take (P.cellsOf f3.type)) = some y3 := by
  obtain ⟨xs, n, _, rfl, hl, hlen, hf⟩ := DataW.trod_struct ht h
  obtain ⟨y0, y1, y2, y3, rfl⟩ := list4 hlen
  exact ⟨y0, y1, y2, y3, n, by simp, hl, by simpa using hf 0 f0 rfl, by simpa using hf 1 f1 rfl, by simpa using hf 2 f2 rfl, by simpa using hf 3 f3 rfl⟩
def silV (x y : Stg) (how : Int) (ck : ByteArray) : Value := .agg #[.bool x.dials, .string x.name, .int .i64 x.gen, .string x.want, .string x.cookie, .int .u64 x.chal, .bool y.dials, .string y.name, .int .i64 y.gen, .string y.want, .string y.cookie, .int .u64 y.chal, .int .i64 how, .string ck]
def silD {H : Type} (x y : Stg) (how : Int) (ck : ByteArray) : DataW H := .agg [stgD x, stgD y, .lit (.int .i64 how), .lit (.string ck.data.toList)]
set_option maxRecDepth 100000 in
theorem sil_open {r : Reach} {b0 : Nat} {v : Value} {d : DataW H} {p : List MemPlace} (hv : Value.okWide Tryd.prog w r b0 28 v) (h : DataW.Trod enc Tryd.prog w base spare held 28 v d p) : ∃ x y how ck, v = silV x y how ck ∧ d = silD x y how ck ∧ StgOk x ∧ StgOk y := by
  obtain ⟨cs, rfl, hsz⟩ := okWide_struct Tryd.underlying28 hv
  obtain ⟨fuel, hf⟩ := h
  have hf' : DataW.trod enc Tryd.prog w base spare held fuel 28 cs.toList = some (d, p) := hf
  obtain ⟨y0, y1, y2, y3, n, hx, hl, h0, h1, h2, h3⟩ := trod_struct4 Tryd.underlying28 hf'
  rw [size28] at hl
  obtain ⟨a0, a1, a2, a3, a4, a5, a6, a7, a8, a9, a10, a11, a12, a13, e⟩ := list14 hl
  rw [e] at h0 h1 h2 h3
  simp only [size26, size3, size9, List.drop_zero, List.take_succ_cons, List.take_zero, List.drop_succ_cons] at h0 h1 h2 h3
  obtain ⟨x, e0, rfl, ok0⟩ := stg_trod h0
  obtain ⟨y, e1, rfl, ok1⟩ := stg_trod h1
  obtain ⟨how, e2, rfl, _⟩ := DataW.trod_int Tryd.underlying3 h2
  obtain ⟨ck, e3, rfl, _⟩ := DataW.trod_string Tryd.underlying9 h3
  simp only [List.cons.injEq, and_true] at e0 e1 e2 e3
  obtain ⟨e00, e01, e02, e03, e04, e05⟩ := e0
  obtain ⟨e10, e11, e12, e13, e14, e15⟩ := e1
  subst e00 e01 e02 e03 e04 e05 e10 e11 e12 e13 e14 e15 e2 e3
  simp only [Prod.mk.injEq] at hx
  refine ⟨x, y, how, ck, ?_, hx.1, ok0, ok1⟩
  obtain ⟨l⟩ := cs
  simp only at e
  rw [e]
  rfl
set_option maxRecDepth 100000 in
theorem sil_sizes {ts : List TypeId} {ds : List (DataW H)} (hd : (DataW.weightsEach Tryd.prog ts ds).all (· ≤ reachBytes) = true) {j : Nat} {x y : Stg} {how : Int} {ck : ByteArray} (ht : ts[j]? = some 28) (hj : ds[j]? = some (silD x y how ck)) :
    StgSz x ∧ StgSz y ∧ ck.size ≤ 140737488355328 := by
  have key : ∀ b : ByteArray, b.data.toList.length ∈ DataW.weights Tryd.prog 28 (silD (H := H) x y how ck) → b.size ≤ 140737488355328 := by
    intro b hb
    have := List.all_eq_true.1 hd _ (DataW.weights_mem_each ht hj _ hb)
    have h2 : reachBytes = 140737488351232 := rfl
    simp only [decide_eq_true_eq, Array.length_toList, h2, ByteArray.size_data] at this
    omega
  refine ⟨⟨key _ ?_, key _ ?_, key _ ?_⟩, ⟨key _ ?_, key _ ?_, key _ ?_⟩, key _ ?_⟩ <;> simp [silD, stgD, DataW.weights, DataW.weightsEach, Tryd.underlying28, Tryd.underlying26, Tryd.underlying23]
end
end Go.Proofs.YtnkkbkceapcahaaDoor
