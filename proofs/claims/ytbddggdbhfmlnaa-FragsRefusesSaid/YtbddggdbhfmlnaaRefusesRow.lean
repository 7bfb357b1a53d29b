/- FragsRefuses: the closing text. -/
import Derived.Test.YtbddggdbhfmlnaaRefuses
import Derived.Below
import Derived.Carry
import Derived.ProofKit
import Derived.OpenShut
import Derived.ShutString
import Derived.SliceStrings
import Derived.Lib.SmallJoins
namespace Go.Proofs.Ytbddggdbhfmlnaa
open Go.RowKit Go.Rt Go.Rw Go.Mp Go.Lib
namespace fragsRefuses
open Go.ChangeShapes Go.WideShapes Go.ChangeAt Go.RowKit
open Go.ChangeMaps (open_string shut_string)
theorem own : ownKnob Try.prog.godebug = none := by kernel_rfl
theorem laid : laidOutB Try.prog = true := by kernel_rfl
theorem i64_bounds {n : Int} (h : (Lit.int .i64 n).wf = true) : -9223372036854775808 ≤ n ∧ n ≤ 9223372036854775807 := by
  unfold Lit.wf at h
  rw [Bool.and_eq_true, decide_eq_true_eq, decide_eq_true_eq, show IntKind.i64.min = -9223372036854775808 from rfl, show IntKind.i64.max = 9223372036854775807 from rfl] at h
  exact h

/-- A slice of strings among the arguments, as the list of its strings. -/
theorem strs_at {H : Type} {enc : TypeId × Value → H} {W : World} {fuel : Nat} {v : Value} {x : DataW H × List MemPlace}
    (h : DataW.trod enc Try.prog W 0 (fun _ => true) true fuel 31 [v] = some x) : ∃ Ts, SlAt W 1 strC v Ts ∧ ∀ t ∈ Ts, t.size ≤ 9223372036854775807 := by
  rcases open_strings Try.underlying31 Try.underlying9 (show Try.prog.cellsOf 9 = 1 by kernel_rfl) h with ⟨hcs, _⟩ | ⟨a, len, cap, ss, hcs, _, hl, hm, hz, _, hcell, hws⟩
  · simp only [List.cons.injEq, and_true] at hcs
    exact ⟨[], .inl ⟨rfl, none, 0, hcs⟩, by simp⟩
  · simp only [List.cons.injEq, and_true] at hcs
    subst hcs
    simp only [if_true] at hz
    refine ⟨ss.take len, ?_, fun t ht => by have := hws t (List.mem_of_mem_take ht); unfold maxLen at this; omega⟩
    by_cases h0 : len = 0
    · subst h0
      exact .inl ⟨by simp, some a, cap, rfl⟩
    · have c0 := hcell 0 (by omega)
      obtain ⟨b, o, sp⟩ := a
      have hb : b < W.heap.size ∧ sp = none := by
        unfold World.cell? at c0
        simp only [Addr.add] at c0
        split at c0
        · rename_i hh
          refine ⟨(Array.getElem?_eq_some_iff.1 hh).1, ?_⟩
          cases sp
          · rfl
          · simp at c0
        · cases c0
      obtain ⟨hb, rfl⟩ := hb
      have hlen : (ss.take len).length = len := by rw [List.length_take]; omega
      refine .inr ⟨b, o, cap, by rw [hlen], by rw [hlen]; unfold maxLen at hm; omega, hb, ?_⟩
      intro i j hi hj
      obtain rfl : j = 0 := by omega
      rw [hlen] at hi
      have := hcell i (by omega)
      have ea : (⟨b, o, none⟩ : Addr).add i = ⟨b, o + i, none⟩ := by
        unfold Addr.add
        split
        · rename_i h; subst h; rfl
        · rfl
      rw [ea] at this
      simp only [Nat.mul_one, Nat.add_zero]
      rw [this, List.getElem_take, List.getD_eq_getElem?_getD, List.getElem?_eq_getElem (by omega)]
      rfl
theorem slice_form {H : Type} {enc : TypeId × Value → H} {W : World} {fuel : Nat} {v : Value} {x : DataW H × List MemPlace}
    (h : DataW.trod enc Try.prog W 0 (fun _ => true) true fuel 32 [v] = some x) : ∃ sa n cap, v = .slice sa n cap := by
  rcases DataW.trod_slice Try.underlying32 h with ⟨hcs, _⟩ | ⟨a, len, cap, _, _, _, _, hcs, _⟩
  · simp only [List.cons.injEq, and_true] at hcs; exact ⟨_, _, _, hcs⟩
  · simp only [List.cons.injEq, and_true] at hcs; exact ⟨_, _, _, hcs⟩

set_option maxRecDepth 100000 in
theorem lifted (os : Os) (started : os.Started) (H : Type) (enc : TypeId × Value → H) :
    ReturnsInHanded {} Try.checked os 6 .any (Rows.fragsRefusesSpec.pre6 enc Try.prog Try.f6 Rows.fragsRefusesRow.domain false) (Rows.fragsRefusesSpec.post enc Try.prog Try.f6 false true false false) := by
  refine returnsInHanded_of_change (C := Try.checked) own started (by kernel_rfl) Try.func6
    (ChangeSpec.witness6 (enc := enc) (C := Try.checked) false ⟨#[], #[.agg #[.slice none 0 0, .int .i64 0, .slice none 0 0], .agg #[.int .i64 0, .bool false, .int .i64 0, .string ByteArray.empty], .int .i64 0], []⟩ 8 (by kernel_rfl) (by kernel_rfl) (by kernel_rfl) (by kernel_rfl)) ?_
  intro W base args ds gs before hval0 hW hcnd _
  have hval : ∀ (j : Nat) t v, Try.f6.params[j]? = some t → args[j]? = some v → Value.okWide Try.prog W .any base t v := hval0
  have hW' := hW
  obtain ⟨p, q, hA0, hV, rfl, hfz, hnd⟩ := hW
  have hA : DataW.TrodAll enc Try.prog W 0 (fun _ => true) true Try.f6.params.toList args.toList ds p := hA0
  rw [Try.params6] at hA hval
  obtain ⟨v0, vs0, d0, ds0, p0, q0, hargs, rfl, rfl, h0, r0⟩ := trodAll_cons hA
  obtain ⟨v1, vs1, d1, ds1, p1, q1, rfl, rfl, rfl, h1, r1⟩ := trodAll_cons r0
  obtain ⟨v2, vs2, d2, ds2, p2, q2, rfl, rfl, rfl, h2, r2⟩ := trodAll_cons r1
  obtain ⟨rfl, rfl, rfl⟩ := trodAll_nil r2
  obtain rfl : args = #[v0, v1, v2] := by cases args; simp_all
  obtain ⟨rfl, rfl⟩ := trodVars_none hV
  have k0 := h0
  have k1 := h1
  have k2 := h2
  have hlt0 : ∀ x ∈ p0, x.block < W.heap.size := fun x hx => by simpa using hW'.lt x (by simp [hx])
  have hlt1 : ∀ x ∈ p1, x.block < W.heap.size := fun x hx => by simpa using hW'.lt x (by simp [hx])
  have hlt2 : ∀ x ∈ p2, x.block < W.heap.size := fun x hx => by simpa using hW'.lt x (by simp [hx])
  obtain ⟨t0, t1, t2, z0, z1, z2, m0, rfl, -, -, hz0, hz1, hz2⟩ := Go.Joins.open_agg3 Try.underlying34 (by kernel_rfl) (show Try.prog.cellsOf 34 = 3 by kernel_rfl) (hval 0 34 v0 rfl rfl) h0
  obtain ⟨Ts, hTs, hTz⟩ := strs_at hz0
  obtain ⟨most, e1, -, -⟩ := DataW.trod_int Try.underlying3 hz1
  simp only [List.cons.injEq, and_true] at e1
  subst e1
  have hO := slice_form hz2
  obtain ⟨c0, c1, c2, c3, y0, y1, y2, y3, m, rfl, -, -, hy0, hy1, hy2, hy3⟩ := Go.Joins.open_agg4 Try.underlying30 (by kernel_rfl) (show Try.prog.cellsOf 30 = 4 by kernel_rfl) (hval 1 30 v1 rfl rfl) h1
  obtain ⟨fa, e0, -, -⟩ := DataW.trod_int Try.underlying2 hy0
  obtain ⟨fb, e1, -⟩ := DataW.trod_bool Try.underlying4 hy1
  obtain ⟨fl, e2, -, -⟩ := DataW.trod_int Try.underlying3 hy2
  obtain ⟨fd, e3, -, wd⟩ := DataW.trod_string Try.underlying9 hy3
  simp only [List.cons.injEq, and_true] at e0 e1 e2 e3
  subst e0 e1 e2 e3
  obtain ⟨a2, rfl, -, -, w2⟩ := open_int Try.underlying3 (hval 2 3 v2 rfl rfl) h2
  have wd' : fd.size ≤ 9223372036854775807 := by have := wd; unfold maxLen at this; omega
  obtain ⟨b1, b2⟩ := i64_bounds w2
  clear hA0 hval0
  simp only [List.append_nil] at hW'
  refine (refuses_walk t0 t2 Ts most fa fl a2 fb fd W hTs hTz wd' b1 b2 hO).mono fun e W' ⟨he, bel⟩ => ?_
  subst he
  exact ⟨_, rfl, _, _, _, [], _, [], hW', trodAll_mk1 (shut_bool Try.underlying4 _), trodAll_cons_mk (Below.trod laid (by kernel_rfl) (of_decide_eq_true (by kernel_rfl)) k0 bel hlt0) (trodAll_cons_mk (Below.trod laid (by kernel_rfl) (of_decide_eq_true (by kernel_rfl)) k1 bel hlt1) (trodAll_cons_mk (Below.trod laid (by kernel_rfl) (of_decide_eq_true (by kernel_rfl)) k2 bel hlt2) trodAll_mk0)), rfl, bel.frame _, fun h => by cases h⟩

theorem over : Rows.fragsRefusesRow.holds Try.pinned (OpenSpec.ofChange Rows.fragsRefusesSpec) :=
  OpenClaim.holds_of_wide 6 Try.f6 rfl rfl rfl rfl rfl rfl rfl ⟨rfl, rfl, rfl, rfl, rfl⟩ rfl rfl rfl rfl rfl (by kernel_rfl) Try.func6 (by kernel_rfl)
    (of_decide_eq_true (by kernel_rfl)) (by unfold Func.isWrapper; first | (rw [if_pos (by decide +kernel)]; kernel_rfl) | (rw [if_neg (by decide +kernel)]; exact ⟨rfl, rfl⟩))
    (fun os started H enc _ => lifted os started H enc)
end fragsRefuses
/-- The statement. -/
theorem fragsRefuses_holds : Rows.FragsRefusesSaid := fragsRefuses.over
#print axioms fragsRefuses_holds
end Go.Proofs.Ytbddggdbhfmlnaa
