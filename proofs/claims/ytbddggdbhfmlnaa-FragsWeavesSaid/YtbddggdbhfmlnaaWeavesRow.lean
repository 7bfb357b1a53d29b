/- FragsWeaves: whatever the order in which the fragments of several messages come, each message is returned with its last one. No condition. -/
import Derived.Test.YtbddggdbhfmlnaaWeaves
import Derived.Test.YtbddggdbhfmlnaaArgs
import Derived.Below
import Derived.Carry
import Derived.ProofKit
import Derived.OpenShut
import Derived.ShutString
import Derived.Lib.SmallJoins
namespace Go.Proofs.Ytbddggdbhfmlnaa
open Go.RowKit Go.Rt Go.Rw Go.Mp Go.Lib
namespace fragsWeaves
open Go.ChangeShapes Go.WideShapes Go.ChangeAt Go.RowKit
open Go.ChangeMaps (open_string shut_string)
theorem own : ownKnob Try.prog.godebug = none := by kernel_rfl
theorem laid : laidOutB Try.prog = true := by kernel_rfl
theorem i64_bounds {n : Int} (h : (Lit.int .i64 n).wf = true) : -9223372036854775808 ≤ n ∧ n ≤ 9223372036854775807 := by
  unfold Lit.wf at h
  rw [Bool.and_eq_true, decide_eq_true_eq, decide_eq_true_eq, show IntKind.i64.min = -9223372036854775808 from rfl, show IntKind.i64.max = 9223372036854775807 from rfl] at h
  exact h
theorem text_open {H : Type} {enc : TypeId × Value → H} {W : World} (n : Nat) (cs : List Value) (y : DataW H × List MemPlace) (h : DataW.trod enc Try.prog W 0 (fun _ => true) true n 9 cs = some y) : ∃ a : ByteArray, cs = textC a ∧ a.size ≤ 9223372036854775807 := by
  obtain ⟨s, e, -, wd⟩ := DataW.trod_string Try.underlying9 h
  refine ⟨s, e, ?_⟩
  have := wd
  unfold maxLen at this
  omega
theorem int_open {H : Type} {enc : TypeId × Value → H} {W : World} (n : Nat) (cs : List Value) (y : DataW H × List MemPlace) (h : DataW.trod enc Try.prog W 0 (fun _ => true) true n 3 cs = some y) : ∃ a : Int, cs = intC a ∧ (-9223372036854775808 ≤ a ∧ a ≤ 9223372036854775807) := by
  obtain ⟨s, e, -, wf⟩ := DataW.trod_int Try.underlying3 h
  exact ⟨s, e, i64_bounds wf⟩

set_option maxRecDepth 100000 in
theorem lifted (os : Os) (started : os.Started) (H : Type) (enc : TypeId × Value → H) :
    ReturnsInHanded {} Try.checked os 5 .any (Rows.fragsWeavesSpec.pre6 enc Try.prog Try.f5 Rows.fragsWeavesRow.domain false) (Rows.fragsWeavesSpec.post enc Try.prog Try.f5 false true false false) := by
  refine returnsInHanded_of_change (C := Try.checked) own started (by kernel_rfl) Try.func5
    (ChangeSpec.witness6 (enc := enc) (C := Try.checked) false ⟨#[], #[.agg #[.slice none 0 0, .int .i64 0, .slice none 0 0]], []⟩ 8 (by kernel_rfl) (by kernel_rfl) (by kernel_rfl) (by kernel_rfl)) ?_
  intro W base args ds gs before hval0 hW hcnd _
  have hval : ∀ (j : Nat) t v, Try.f5.params[j]? = some t → args[j]? = some v → Value.okWide Try.prog W .any base t v := hval0
  have hW' := hW
  obtain ⟨p, q, hA0, hV, rfl, hfz, hnd⟩ := hW
  have hA : DataW.TrodAll enc Try.prog W 0 (fun _ => true) true Try.f5.params.toList args.toList ds p := hA0
  rw [Try.params5] at hA hval
  obtain ⟨v0, vs0, d0, ds0, p0, q0, hargs, rfl, rfl, h0, r0⟩ := trodAll_cons hA
  obtain ⟨rfl, rfl, rfl⟩ := trodAll_nil r0
  obtain rfl : args = #[v0] := by cases args; simp_all
  obtain ⟨rfl, rfl⟩ := trodVars_none hV
  have k0 := h0
  have hlt0 : ∀ x ∈ p0, x.block < W.heap.size := fun x hx => by simpa using hW'.lt x (by simp [hx])
  obtain ⟨t0, t1, t2, z0, z1, z2, m0, rfl, -, -, hz0, hz1, hz2⟩ := Go.Joins.open_agg3 Try.underlying34 (by kernel_rfl) (show Try.prog.cellsOf 34 = 3 by kernel_rfl) (hval 0 34 v0 rfl rfl) h0
  obtain ⟨Ts, hTs, hTz⟩ := slice_at (k := 1) textC _ Try.underlying31 (by kernel_rfl) (by omega) text_open hz0
  obtain ⟨Os, hOs, hOz⟩ := slice_at (k := 1) intC _ Try.underlying32 (by kernel_rfl) (by omega) int_open hz2
  obtain ⟨most, e1, -, -⟩ := DataW.trod_int Try.underlying3 hz1
  simp only [List.cons.injEq, and_true] at e1
  subst e1
  clear hA0 hval0
  simp only [List.append_nil] at hW'
  refine (weaves_walk t0 t2 Ts Os most W hTs hOs hTz hOz).mono fun e W' ⟨he, bel⟩ => ?_
  subst he
  exact ⟨_, rfl, _, _, _, [], _, [], hW', trodAll_mk1 (shut_bool Try.underlying4 _), trodAll_cons_mk (Below.trod laid (by kernel_rfl) (of_decide_eq_true (by kernel_rfl)) k0 bel hlt0) trodAll_mk0, rfl, bel.frame _, fun h => by cases h⟩

theorem over : Rows.fragsWeavesRow.holds Try.pinned (OpenSpec.ofChange Rows.fragsWeavesSpec) :=
  OpenClaim.holds_of_wide 5 Try.f5 rfl rfl rfl rfl rfl rfl rfl ⟨rfl, rfl, rfl, rfl, rfl⟩ rfl rfl rfl rfl rfl (by kernel_rfl) Try.func5 (by kernel_rfl)
    (of_decide_eq_true (by kernel_rfl)) (by unfold Func.isWrapper; first | (rw [if_pos (by decide +kernel)]; kernel_rfl) | (rw [if_neg (by decide +kernel)]; exact ⟨rfl, rfl⟩))
    (fun os started H enc _ => lifted os started H enc)
end fragsWeaves
/-- The statement. -/
theorem fragsWeaves_holds : Rows.FragsWeavesSaid := fragsWeaves.over
#print axioms fragsWeaves_holds
end Go.Proofs.Ytbddggdbhfmlnaa

