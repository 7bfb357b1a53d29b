/- A term among the arguments, as a plain term in memory. -/
import Derived.Test.YtcpdmlnodhokmaaOnce
import Derived.ChangeSame
import Derived.DataReads
import Derived.Below
import Derived.Carry
import Derived.ProofKit
import Derived.OpenShut
import Derived.ShutString
import Derived.Lib.SmallJoins
namespace Go.Proofs.Ytcpdmlnodhokmaa
open Go.RowKit Go.Rt Go.Rw

def rngF (f : Fl) : Prop := (f.nm.size ≤ 9223372036854775807 ∧ f.fn.size ≤ 9223372036854775807 ∧ f.bs.size ≤ 9223372036854775807) ∧ (-9223372036854775808 ≤ f.k ∧ f.k ≤ 9223372036854775807) ∧ (-9223372036854775808 ≤ f.n ∧ f.n ≤ 9223372036854775807) ∧ (-9223372036854775808 ≤ f.g ∧ f.g ≤ 9223372036854775807) ∧ (-9223372036854775808 ≤ f.ar ∧ f.ar ≤ 9223372036854775807) ∧ (-9223372036854775808 ≤ f.bt ∧ f.bt ≤ 9223372036854775807)
mutual
/-- The numbers of a term are numbers of 64 bits. -/
def rngT : Tm → Prop
  | .mk f l => rngF f ∧ rngL l
def rngL : List Tm → Prop
  | [] => True
  | t :: r => rngT t ∧ rngL r
end
mutual
theorem fit_of_small : ∀ t, smallT t → rngT t → fitT t
  | .mk f l, h, g => by
    rw [smallT] at h
    rw [rngT] at g
    rw [fitT]
    obtain ⟨⟨h1, h2, h3⟩, h4⟩ := h
    exact ⟨⟨⟨by omega, by omega, by omega⟩, g.1.2⟩, fitL_of_small l h4 g.2⟩
theorem fitL_of_small : ∀ l, smallL l → rngL l → fitL l
  | [], _, _ => trivial
  | t :: r, h, g => by
    rw [smallL] at h
    rw [rngL] at g
    rw [fitL]
    exact ⟨fit_of_small t h.1 g.1, fitL_of_small r h.2 g.2⟩
end
/-- What kit.Great lets by is examined. -/
theorem ok_of_great {t : Tm} (hr : rngT t) (h : smallT t ∧ cnt t ≤ 4000) : okT t := ⟨fit_of_small t h.1 hr, h.2⟩

theorem choose_list {α : Type} (p : Nat → α → Prop) : ∀ n, (∀ i, i < n → ∃ a, p i a) → ∃ l : List α, l.length = n ∧ ∀ i (h : i < l.length), p i l[i]
  | 0, _ => ⟨[], rfl, fun i h => by simp at h⟩
  | n + 1, h => by
    obtain ⟨l, h1, h2⟩ := choose_list p n (fun i hi => h i (by omega))
    obtain ⟨a, ha⟩ := h n (by omega)
    refine ⟨l ++ [a], by simp [h1], fun i hi => ?_⟩
    rcases Nat.lt_or_ge i l.length with q | q
    · rw [List.getElem_append_left q]; exact h2 i q
    · simp only [List.length_append, List.length_cons, List.length_nil] at hi
      obtain rfl : i = l.length := by omega
      rw [List.getElem_append_right (Nat.le_refl _)]
      simp only [Nat.sub_self, List.getElem_cons_zero, h1]
      exact ha
theorem tms_of {S : Nat → Prop} {W : World} : ∀ As : List (Tm × Ft), (∀ a ∈ As, TmAt S W a.1 a.2) → TmsAt S W (As.map (·.1)) (As.map (·.2))
  | [], _ => by
    show TmsAt S W [] []
    unfold TmsAt
    rfl
  | a :: r, h => by
    show TmsAt S W (a.1 :: r.map (·.1)) (a.2 :: r.map (·.2))
    unfold TmsAt
    exact ⟨_, _, rfl, h a (by simp), tms_of r (fun b hb => h b (by simp [hb]))⟩
theorem rngL_of : ∀ As : List (Tm × Ft), (∀ a ∈ As, rngT a.1) → rngL (As.map (·.1))
  | [], _ => trivial
  | a :: r, h => by
    show rngL (a.1 :: r.map (·.1))
    rw [rngL]
    exact ⟨h a (by simp), rngL_of r (fun b hb => h b (by simp [hb]))⟩
section
variable {H : Type} {enc : TypeId × Value → H} {W : World}
theorem items_open {fuel : Nat} {v : Value} {x : DataW H × List MemPlace}
    (hopen : ∀ n, n < fuel → ∀ cs y, DataW.trod enc Try.prog W 0 (fun _ => true) true n 25 cs = some y → ∃ t x, cs = ftC x ∧ TmAt (fun b => b < W.heap.size) W t x ∧ rngT t)
    (h : DataW.trod enc Try.prog W 0 (fun _ => true) true fuel 23 [v] = some x) : ∃ l, ItsAt (fun b => b < W.heap.size) W l v ∧ rngL l := by
  have hk : Try.prog.cellsOf 25 = 9 := by kernel_rfl
  rcases DataW.trod_slice Try.underlying23 h with ⟨hcs, _⟩ | ⟨a, len, cap, elems, rest, n, hfu, hcs, _, _, hl, hm, hlen, hel, _⟩
  · simp only [List.cons.injEq, and_true] at hcs
    subst hcs
    exact ⟨[], ItsAt.nil none 0, trivial⟩
  · simp only [List.cons.injEq, and_true] at hcs
    subst hcs
    have each : ∀ i, i < len → ∃ u : Tm × Ft, (∀ j, j < 9 → W.cell? ((a.add (i * 9)).add j) = (ftC u.2)[j]?) ∧ TmAt (fun b => b < W.heap.size) W u.1 u.2 ∧ rngT u.1 := by
      intro i hi
      have := hel i hi
      rw [List.getElem?_eq_getElem (by omega), Option.bind_eq_some_iff] at this
      obtain ⟨cs, h1, h2⟩ := this
      rw [hk] at h1
      obtain ⟨_, q2, q3⟩ := World.cells?_some h1
      obtain ⟨t, x, rfl, hu, hr⟩ := hopen n (by omega) _ _ h2
      exact ⟨(t, x), q3, hu, hr⟩
    obtain ⟨As, hA, hg⟩ := choose_list _ len each
    refine ⟨As.map (·.1), ⟨As.map (·.2), ?_, ?_, tms_of As (fun u hu => ?_)⟩, rngL_of As (fun u hu => ?_)⟩
    · by_cases h0 : len = 0
      · subst h0
        obtain rfl := List.eq_nil_of_length_eq_zero hA
        exact .inl ⟨rfl, some a, cap, rfl⟩
      · have c0 := (hg 0 (by omega)).1 0 (by decide)
        obtain ⟨b, o, sp⟩ := a
        have hb : b < W.heap.size ∧ sp = none := by
          rw [List.getElem?_eq_getElem (by rw [ftC_len]; decide)] at c0
          unfold World.cell? at c0
          simp only [Addr.add] at c0
          split at c0
          · rename_i hh
            cases sp with
            | none =>
              simp only [Nat.zero_mul, Nat.add_zero] at hh
              exact ⟨(Array.getElem?_eq_some_iff.1 (by simpa using hh)).1, rfl⟩
            | some q => simp at c0
          · cases c0
        obtain ⟨hb, rfl⟩ := hb
        refine .inr ⟨b, o, cap, by rw [List.length_map, hA], by rw [List.length_map, hA]; unfold maxLen at hm; omega, hb, ?_⟩
        intro i j hi hj
        rw [List.length_map] at hi
        have := (hg i hi).1 j hj
        rw [add_none, add_none] at this
        rw [this, List.getElem_map]
    · intro b o n' c e hn'
      cases e
      have c0 := (hg 0 (by omega)).1 0 (by decide)
      rw [List.getElem?_eq_getElem (by rw [ftC_len]; decide)] at c0
      unfold World.cell? at c0
      simp only [Addr.add] at c0
      split at c0
      · rename_i hh
        simp only [Nat.zero_mul, Nat.add_zero] at hh
        exact (Array.getElem?_eq_some_iff.1 (by simpa using hh)).1
      · cases c0
    · obtain ⟨i, hi, rfl⟩ := List.getElem_of_mem hu
      exact (hg i hi).2.1
    · obtain ⟨i, hi, rfl⟩ := List.getElem_of_mem hu
      exact (hg i hi).2.2
theorem i64_bounds {n : Int} (h : (Lit.int .i64 n).wf = true) : -9223372036854775808 ≤ n ∧ n ≤ 9223372036854775807 := by
  unfold Lit.wf at h
  rw [Bool.and_eq_true, decide_eq_true_eq, decide_eq_true_eq, show IntKind.i64.min = -9223372036854775808 from rfl, show IntKind.i64.max = 9223372036854775807 from rfl] at h
  exact h
theorem term_open : ∀ (fuel : Nat) (cs : List Value) (y : DataW H × List MemPlace), DataW.trod enc Try.prog W 0 (fun _ => true) true fuel 25 cs = some y → ∃ t x, cs = ftC x ∧ TmAt (fun b => b < W.heap.size) W t x ∧ rngT t := by
  intro fuel
  induction fuel using Nat.strongRecOn with
  | _ fuel ih =>
    intro cs y h
    obtain ⟨xs, n, rfl, _, hlen, hx, hf⟩ := DataW.trod_struct Try.underlying25 h
    have hc9 : Try.prog.cellsOf 25 = 9 := by kernel_rfl
    have k3 : Try.prog.cellsOf 3 = 1 := by kernel_rfl
    have k2 : Try.prog.cellsOf 2 = 1 := by kernel_rfl
    have k9 : Try.prog.cellsOf 9 = 1 := by kernel_rfl
    have k23 : Try.prog.cellsOf 23 = 1 := by kernel_rfl
    rw [hc9] at hlen
    have hx9 : xs.length = 9 := hx
    match cs, hlen with
    | [c0, c1, c2, c3, c4, c5, c6, c7, c8], _ =>
      match xs, hx9 with
      | [x0, x1, x2, x3, x4, x5, x6, x7, x8], _ =>
        have h0 : DataW.trod enc Try.prog W 0 (fun _ => true) true n 3 [c0] = some x0 := by
          have q : DataW.trod enc Try.prog W 0 (fun _ => true) true n 3 (([c0, c1, c2, c3, c4, c5, c6, c7, c8].drop 0).take (Try.prog.cellsOf 3)) = some x0 := hf 0 _ rfl
          rw [k3] at q
          exact q
        have h1 : DataW.trod enc Try.prog W 0 (fun _ => true) true n 2 [c1] = some x1 := by
          have q : DataW.trod enc Try.prog W 0 (fun _ => true) true n 2 (([c0, c1, c2, c3, c4, c5, c6, c7, c8].drop 1).take (Try.prog.cellsOf 2)) = some x1 := hf 1 _ rfl
          rw [k2] at q
          exact q
        have h2 : DataW.trod enc Try.prog W 0 (fun _ => true) true n 2 [c2] = some x2 := by
          have q : DataW.trod enc Try.prog W 0 (fun _ => true) true n 2 (([c0, c1, c2, c3, c4, c5, c6, c7, c8].drop 2).take (Try.prog.cellsOf 2)) = some x2 := hf 2 _ rfl
          rw [k2] at q
          exact q
        have h3 : DataW.trod enc Try.prog W 0 (fun _ => true) true n 9 [c3] = some x3 := by
          have q : DataW.trod enc Try.prog W 0 (fun _ => true) true n 9 (([c0, c1, c2, c3, c4, c5, c6, c7, c8].drop 3).take (Try.prog.cellsOf 9)) = some x3 := hf 3 _ rfl
          rw [k9] at q
          exact q
        have h4 : DataW.trod enc Try.prog W 0 (fun _ => true) true n 9 [c4] = some x4 := by
          have q : DataW.trod enc Try.prog W 0 (fun _ => true) true n 9 (([c0, c1, c2, c3, c4, c5, c6, c7, c8].drop 4).take (Try.prog.cellsOf 9)) = some x4 := hf 4 _ rfl
          rw [k9] at q
          exact q
        have h5 : DataW.trod enc Try.prog W 0 (fun _ => true) true n 3 [c5] = some x5 := by
          have q : DataW.trod enc Try.prog W 0 (fun _ => true) true n 3 (([c0, c1, c2, c3, c4, c5, c6, c7, c8].drop 5).take (Try.prog.cellsOf 3)) = some x5 := hf 5 _ rfl
          rw [k3] at q
          exact q
        have h6 : DataW.trod enc Try.prog W 0 (fun _ => true) true n 23 [c6] = some x6 := by
          have q : DataW.trod enc Try.prog W 0 (fun _ => true) true n 23 (([c0, c1, c2, c3, c4, c5, c6, c7, c8].drop 6).take (Try.prog.cellsOf 23)) = some x6 := hf 6 _ rfl
          rw [k23] at q
          exact q
        have h7 : DataW.trod enc Try.prog W 0 (fun _ => true) true n 9 [c7] = some x7 := by
          have q : DataW.trod enc Try.prog W 0 (fun _ => true) true n 9 (([c0, c1, c2, c3, c4, c5, c6, c7, c8].drop 7).take (Try.prog.cellsOf 9)) = some x7 := hf 7 _ rfl
          rw [k9] at q
          exact q
        have h8 : DataW.trod enc Try.prog W 0 (fun _ => true) true n 3 [c8] = some x8 := by
          have q : DataW.trod enc Try.prog W 0 (fun _ => true) true n 3 (([c0, c1, c2, c3, c4, c5, c6, c7, c8].drop 8).take (Try.prog.cellsOf 3)) = some x8 := hf 8 _ rfl
          rw [k3] at q
          exact q
        obtain ⟨a0, e0, -, w0⟩ := DataW.trod_int Try.underlying3 h0
        obtain ⟨a1, e1, -, w1⟩ := DataW.trod_int Try.underlying2 h1
        obtain ⟨a2, e2, -, w2⟩ := DataW.trod_int Try.underlying2 h2
        obtain ⟨a3, e3, -, w3⟩ := DataW.trod_string Try.underlying9 h3
        obtain ⟨a4, e4, -, w4⟩ := DataW.trod_string Try.underlying9 h4
        obtain ⟨a5, e5, -, w5⟩ := DataW.trod_int Try.underlying3 h5
        obtain ⟨l, hl, hr⟩ := items_open (fun m hm => ih m (by omega)) (show DataW.trod enc Try.prog W 0 (fun _ => true) true n 23 [c6] = some x6 from h6)
        obtain ⟨a7, e7, -, w7⟩ := DataW.trod_string Try.underlying9 h7
        obtain ⟨a8, e8, -, w8⟩ := DataW.trod_int Try.underlying3 h8
        cases e0; cases e1; cases e2; cases e3; cases e4; cases e5; cases e7; cases e8
        unfold maxLen at w3 w4 w7
        refine ⟨.mk ⟨a0, a1, a2, a3, a4, a5, a7, a8⟩ l, ⟨⟨a0, a1, a2, a3, a4, a5, a7, a8⟩, c6⟩, rfl, TmAt.of rfl hl, ?_⟩
        rw [rngT]
        exact ⟨⟨⟨by show a3.size ≤ _; omega, by show a4.size ≤ _; omega, by show a7.size ≤ _; omega⟩, i64_bounds w0, i64_bounds w1, i64_bounds w2, i64_bounds w5, i64_bounds w8⟩, hr⟩
/-- A term among the arguments. -/
theorem term_arg {r : Reach} {b0 : Nat} {v : Value} {d : DataW H} {p : List MemPlace} (hv : Value.okWide Try.prog W r b0 25 v) (h : DataW.Trod enc Try.prog W 0 (fun _ => true) true 25 v d p) :
    ∃ t x, v = ftV x ∧ TmAt (fun b => b < W.heap.size) W t x ∧ rngT t := by
  obtain ⟨cs, rfl, _⟩ := Go.WideShapes.okWide_struct Try.underlying25 hv
  obtain ⟨fuel, hf⟩ := h
  obtain ⟨t, x, e, ht, hr⟩ := term_open fuel _ _ hf
  refine ⟨t, x, ?_, ht, hr⟩
  have e : cs.toList = ftC x := e
  show Value.agg cs = .agg (ftC x).toArray
  rw [← e]
end
end Go.Proofs.Ytcpdmlnodhokmaa
