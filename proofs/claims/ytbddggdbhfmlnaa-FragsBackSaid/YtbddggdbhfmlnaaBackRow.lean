/- FragsBack: the closing text. -/
import Derived.Test.YtbddggdbhfmlnaaBack
import Derived.Below
import Derived.Carry
import Derived.ProofKit
import Derived.OpenShut
import Derived.ShutString
namespace Go.Proofs.Ytbddggdbhfmlnaa
namespace fragsBack
open Go.ChangeShapes Go.WideShapes Go.ChangeAt Go.RowKit
open Go.ChangeMaps (open_string shut_string)
theorem own : ownKnob Try.prog.godebug = none := by kernel_rfl
set_option maxRecDepth 100000 in
theorem lifted (os : Os) (started : os.Started) (H : Type) (enc : TypeId × Value → H) :
    ReturnsInHanded {} Try.checked os 10 .any (Rows.fragsBackSpec.pre6 enc Try.prog Try.f10 Rows.fragsBackRow.domain false) (Rows.fragsBackSpec.post enc Try.prog Try.f10 false true false false) := by
  refine returnsInHanded_of_change (C := Try.checked) own started (by kernel_rfl) Try.func10
    (ChangeSpec.witness6 (enc := enc) (C := Try.checked) false ⟨#[], #[.agg #[.int .i64 0, .bool false, .int .i64 0, .string ByteArray.empty], .string ByteArray.empty], []⟩ 8 (by kernel_rfl) (by kernel_rfl) (by kernel_rfl) (by kernel_rfl)) ?_
  intro W base args ds gs before hval0 hW hcnd _
  have hval : ∀ (j : Nat) t v, Try.f10.params[j]? = some t → args[j]? = some v → Value.okWide Try.prog W .any base t v := hval0
  have hW' := hW
  obtain ⟨p, q, hA0, hV, rfl, hfz, hnd⟩ := hW
  have hA : DataW.TrodAll enc Try.prog W 0 (fun _ => true) true Try.f10.params.toList args.toList ds p := hA0
  rw [Try.params10] at hA hval
  obtain ⟨v0, vs0, d0, ds0, p0, q0, hargs, rfl, rfl, h0, r0⟩ := trodAll_cons hA
  obtain ⟨v1, vs1, d1, ds1, p1, q1, rfl, rfl, rfl, h1, r1⟩ := trodAll_cons r0
  obtain ⟨rfl, rfl, rfl⟩ := trodAll_nil r1
  obtain rfl : args = #[v0, v1] := by cases args; simp_all
  obtain ⟨rfl, rfl⟩ := trodVars_none hV
  obtain ⟨c0, c1, c2, c3, y0, y1, y2, y3, m, rfl, rfl, rfl, hy0, hy1, hy2, hy3⟩ := Go.Joins.open_agg4 Try.underlying30 (by kernel_rfl) (show Try.prog.cellsOf 30 = 4 by kernel_rfl) (hval 0 30 v0 rfl rfl) h0
  obtain ⟨fa, e0, rfl, wa⟩ := DataW.trod_int Try.underlying2 hy0
  obtain ⟨fb, e1, rfl⟩ := DataW.trod_bool Try.underlying4 hy1
  obtain ⟨fl, e2, rfl, wc⟩ := DataW.trod_int Try.underlying3 hy2
  obtain ⟨fd, e3, rfl, wd⟩ := DataW.trod_string Try.underlying9 hy3
  simp only [List.cons.injEq, and_true] at e0 e1 e2 e3
  subst e0 e1 e2 e3
  have wd' : fd.size ≤ 9223372036854775807 := by have := wd; unfold maxLen at this; omega
  have structReads : ∀ (W' : World) (bs : Nat) (sp : Nat → Bool) (hd : Bool), DataW.Trod enc Try.prog W' bs sp hd 30 (.agg #[.int .i64 fa, .bool fb, .int .i64 fl, .string fd]) (.agg [.lit (.int .i64 fa), .lit (.bool fb), .lit (.int .i64 fl), .lit (.string fd.data.toList)]) [] := fun W' bs sp hd =>
    Go.Joins.shut_agg4 (y0 := (.lit (.int .i64 fa), [])) (y1 := (.lit (.bool fb), [])) (y2 := (.lit (.int .i64 fl), [])) (y3 := (.lit (.string fd.data.toList), [])) Try.underlying30 (by kernel_rfl) (by kernel_rfl) ⟨1, by simp [DataW.trod, Try.underlying2, wa]⟩ ⟨1, by simp [DataW.trod, Try.underlying4]⟩ ⟨1, by simp [DataW.trod, Try.underlying3, wc]⟩ ⟨1, by simp [DataW.trod, Try.underlying9, wd]⟩
  obtain ⟨a1, rfl, rfl, rfl, w1⟩ := open_string Try.underlying9 (hval 1 9 v1 rfl rfl) h1
  clear hA0 hval0
  simp only [List.append_nil] at hW'
  have w1' : a1.size ≤ 9223372036854775807 := by have := w1; unfold maxLen at this; omega
  refine (back_walk fa fl fb fd a1 W wd' w1').mono fun e W' ⟨he, bel⟩ => ?_
  subst he
  exact ⟨_, rfl, _, _, _, [], [], [], hW', trodAll_mk1 (shut_bool Try.underlying4 _), (trodAll_cons_mk (structReads _ _ _ _) (trodAll_cons_mk (shut_string Try.underlying9 w1) trodAll_mk0)), rfl, bel.frame _, fun h => by cases h⟩

theorem over : Rows.fragsBackRow.holds Try.pinned (OpenSpec.ofChange Rows.fragsBackSpec) :=
  OpenClaim.holds_of_wide 10 Try.f10 rfl rfl rfl rfl rfl rfl rfl ⟨rfl, rfl, rfl, rfl, rfl⟩ rfl rfl rfl rfl rfl (by kernel_rfl) Try.func10 (by kernel_rfl)
    (of_decide_eq_true (by kernel_rfl)) (by unfold Func.isWrapper; first | (rw [if_pos (by decide +kernel)]; kernel_rfl) | (rw [if_neg (by decide +kernel)]; exact ⟨rfl, rfl⟩))
    (fun os started H enc _ => lifted os started H enc)
end fragsBack
/-- The statement. -/
theorem fragsBack_holds : Rows.FragsBackSaid := fragsBack.over
#print axioms fragsBack_holds
end Go.Proofs.Ytbddggdbhfmlnaa
