/- BlobsCounts returns true for every case; its argument reads as before. No condition. -/
import Derived.Test.YtfgnagnnmibmaaaCounts
import Derived.Below
import Derived.Carry
import Derived.WalkKit
import Derived.ProofKit
import Derived.OpenShut
import Derived.ShutString
import Derived.Deep.Slices
import Derived.Deep.Fields
import Derived.ChangeSame
import Derived.Lib.SmallJoins
namespace Go.Proofs.Ytfgnagnnmibmaaa
open Go.ChangeShapes Go.WideShapes Go.ChangeAt Go.RowKit Go.Deep Go.Joins

section
variable {H : Type} {enc : TypeId × Value → H} {P : Program} {w : World} {base : Nat} {spare : Nat → Bool} {held : Bool}
theorem open_slice_fields {t e : TypeId} {fs : Array Field} {fuel : Nat} {cs : List Value} {x : DataW H × List MemPlace} (ht : P.underlying t = some (.slice e)) (he : P.underlying e = some (.struct fs))
    (hone : oneCellFields P fs = true) (hC : P.cellsOf e = fs.size) (h : DataW.trod enc P w base spare held fuel t cs = some x) :
    cs = [.slice none 0 0] ∨
    ∃ (a : Addr) (len cap : Nat), cs = [.slice (some a) len cap] ∧ len ≤ cap ∧ cap ≤ maxLen ∧
      ∀ i, i < len → ∃ n, ∀ (j : Nat) (f : Field), fs[j]? = some f → ∃ (v : Value) (y : DataW H × List MemPlace), w.cell? (a.add (i * fs.size + j)) = some v ∧ DataW.trod enc P w base spare held n f.type [v] = some y := by
  rcases open_slice ht h with h0 | ⟨a, len, cap, m, n, D, Pl, hcs, hb, hl, hm, hmm, hx, hi⟩
  · exact .inl h0.1
  · refine .inr ⟨a, len, cap, hcs, hl, hm, fun i him => ?_⟩
    obtain ⟨cs', hc, ht'⟩ := hi i (by rw [hmm]; split <;> omega)
    rw [hC] at hc
    obtain ⟨ys, n', hn', hy, hlen, hyl, hf⟩ := DataW.trod_struct he ht'
    obtain ⟨_, hcl, hat⟩ := World.cells?_some hc
    refine ⟨n', fun j f hj => ?_⟩
    obtain ⟨ho, hk⟩ := hone_of hone j f hj
    have hjl : j < fs.size := (Array.getElem?_eq_some_iff.1 hj).1
    have hcell := hat j hjl
    have hv : cs'[j]? = some (cs'[j]'(by omega)) := List.getElem?_eq_getElem (by omega)
    have h1 := hf j f hj
    rw [ho, hk] at h1
    have hone' : (cs'.drop j).take 1 = [cs'[j]'(by omega)] := by
      rw [List.drop_eq_getElem_cons (by omega)]
      rfl
    rw [hone'] at h1
    have hys : ys[j]? = some (ys[j]'(by omega)) := List.getElem?_eq_getElem (by omega)
    refine ⟨_, _, ?_, h1.trans hys⟩
    rw [← Go.Deep.add_add, hcell, hv]
end

theorem wf8 {n : Int} (h : (Lit.int .u8 n).wf = true) : 0 ≤ n ∧ n ≤ 255 := by
  simp [Lit.wf, IntKind.min, IntKind.max, IntKind.signed, IntKind.bits] at h
  omega
theorem add_none (b o j : Nat) : (⟨b, o, none⟩ : Addr).add j = ⟨b, o + j, none⟩ := by
  unfold Addr.add
  split <;> simp_all
theorem cells22 : Try.prog.cellsOf 35 = 3 := by kernel_rfl
theorem laidOut : laidOutB Try.prog = true := by kernel_rfl

/-- A list of calls that came in. -/
theorem ops_open {H : Type} {enc : TypeId × Value → H} {w : World} {base : Nat} {spare : Nat → Bool} {held : Bool} {fuel : Nat} {v : Value} {x : DataW H × List MemPlace}
    (h : DataW.trod enc Try.prog w base spare held fuel 22 [v] = some x) : ∃ ops : List OpD, OpsAt w v ops ∧ OpsFit ops := by
  rcases open_slice_fields (t := 22) (e := 35) Try.underlying22 Try.underlying35 (by kernel_rfl) (by kernel_rfl) h with h0 | ⟨a, len, cap, hv, hl, hm, hi⟩
  · refine ⟨[], .inl ⟨rfl, none, 0, by simpa using h0⟩, fun _ h => by simp at h⟩
  · obtain rfl : v = .slice (some a) len cap := by simpa using hv
    have each : ∀ i, i < len → ∃ q : OpD, w.cell? (a.add (i * 3 + 0)) = some (.int .u8 q.1) ∧ w.cell? (a.add (i * 3 + 1)) = some (.string q.2.1) ∧ w.cell? (a.add (i * 3 + 2)) = some (.int .i64 q.2.2) ∧ 0 ≤ q.1 ∧ q.1 ≤ 255 ∧ q.2.1.size ≤ 9223372036854775807 := by
      intro i hil
      obtain ⟨n, hf⟩ := hi i hil
      obtain ⟨v0, y0, c0, t0⟩ := hf 0 _ rfl
      obtain ⟨v1, y1, c1, t1⟩ := hf 1 _ rfl
      obtain ⟨v2, y2, c2, t2⟩ := hf 2 _ rfl
      obtain ⟨n0, e0, _, f0⟩ := DataW.trod_int (k := .u8) Try.underlying5 t0
      obtain ⟨n1, e1, _, f1⟩ := DataW.trod_string Try.underlying9 t1
      obtain ⟨n2, e2, _, f2⟩ := DataW.trod_int (k := .i64) Try.underlying3 t2
      simp only [List.cons.injEq, and_true] at e0 e1 e2
      subst e0 e1 e2
      unfold maxLen at f1
      exact ⟨(n0, n1, n2), c0, c1, c2, (wf8 f0).1, (wf8 f0).2, f1⟩
    obtain ⟨V, hV⟩ := choose_lt each
    have hll : len ≤ 9223372036854775807 := by unfold maxLen at hm; omega
    refine ⟨(List.range len).map V, ?_, ?_⟩
    · by_cases h0 : len = 0
      · subst h0
        exact .inl ⟨rfl, _, _, rfl⟩
      · have hc := (hV 0 (by omega)).1
        obtain ⟨b, o, sp⟩ := a
        have hsp : sp = none := by
          cases sp with
          | none => rfl
          | some q => simp [World.cell?, Addr.add] at hc; split at hc <;> simp at hc
        subst hsp
        refine .inr ⟨b, o, cap, by simp, by simpa using hll, ?_, ⟨fun i hi => ?_, fun i hi => ?_, fun i hi => ?_⟩⟩
        · simp only [World.cell?, Addr.add] at hc
          split at hc
          · rename_i q; exact (Array.getElem?_eq_some_iff.1 q).1
          · cases hc
        · have := (hV i (by simpa using hi)).1; simpa [add_none] using this
        · have := (hV i (by simpa using hi)).2.1; simpa [add_none, Nat.add_assoc] using this
        · have := (hV i (by simpa using hi)).2.2.1; simpa [add_none, Nat.add_assoc] using this
    · intro x hx
      obtain ⟨i, hi, rfl⟩ := List.mem_map.1 hx
      exact (hV i (by simpa using hi)).2.2.2

namespace blobsCounts
theorem own : ownKnob Try.prog.godebug = none := by kernel_rfl

theorem walk {v : Value} {ops : List OpD} {text : ByteArray} {more kept : Int} (w : World) (h : OpsAt w v ops) (hfit : OpsFit ops) (ht : text.size ≤ 9223372036854775807)
    (hm0 : 0 ≤ more) (hm1 : more ≤ 255) (hk0 : 0 ≤ kept) (hk1 : kept ≤ 255) :
    Calls Try.prog 3 #[.agg #[v, .string text, .int .u8 more, .int .u8 kept]] w fun e w' => e = .returned (.bool true) ∧ Below w.heap.size w w' := by
  by_cases hl : text.size ≤ 2048
  · cases hs : smallB ops
    · exact counts_no w h hfit ht (.inl hs)
    · exact counts_yes w h hfit hl hs hm0 hm1 hk0 hk1
  · exact counts_no w h hfit ht (.inr (by omega))

set_option maxRecDepth 100000 in
theorem lifted (os : Os) (started : os.Started) (H : Type) (enc : TypeId × Value → H) :
    ReturnsInHanded {} Try.checked os 3 .any (Rows.blobsCountsSpec.pre6 enc Try.prog Try.f3 Rows.blobsCountsRow.domain false) (Rows.blobsCountsSpec.post enc Try.prog Try.f3 false true false false) := by
  refine returnsInHanded_of_change (C := Try.checked) own started (by kernel_rfl) Try.func3
    (ChangeSpec.witness6 (enc := enc) (C := Try.checked) false ⟨#[], #[.agg #[.slice none 0 0, .string ByteArray.empty, .int .u8 0, .int .u8 0]], []⟩ 8 (by kernel_rfl) (by kernel_rfl) (by kernel_rfl) (by kernel_rfl)) ?_
  intro W base args ds gs before hval0 hW hcnd _
  have hval : ∀ (j : Nat) t v, Try.f3.params[j]? = some t → args[j]? = some v → Value.okWide Try.prog W .any base t v := hval0
  have hW' := hW
  obtain ⟨p, q, hA0, hV, rfl, hfz, hnd⟩ := hW
  have hA : DataW.TrodAll enc Try.prog W 0 (fun _ => true) true Try.f3.params.toList args.toList ds p := hA0
  rw [Try.params3] at hA hval
  obtain ⟨v0, vs0, d0, ds0, p0, q0, hargs, rfl, rfl, h0, r0⟩ := trodAll_cons hA
  obtain ⟨rfl, rfl, rfl⟩ := trodAll_nil r0
  obtain rfl : args = #[v0] := by cases args; simp_all
  obtain ⟨rfl, rfl⟩ := trodVars_none hV
  simp only [List.append_nil] at hW'
  have hlt : ∀ x ∈ p0, x.block < W.heap.size := fun x hx => hW'.lt x hx
  obtain ⟨u0, u1, u2, u3, y0, y1, y2, y3, n, rfl, _, _, t0, t1, t2, t3⟩ := open_agg4 Try.underlying24 (by kernel_rfl) (by kernel_rfl) (hval 0 24 v0 rfl rfl) h0
  obtain ⟨ops, hops, hfit⟩ := ops_open t0
  obtain ⟨n1, e1, _, f1⟩ := DataW.trod_string Try.underlying9 t1
  obtain ⟨n2, e2, _, f2⟩ := DataW.trod_int (k := .u8) Try.underlying5 t2
  obtain ⟨n3, e3, _, f3⟩ := DataW.trod_int (k := .u8) Try.underlying5 t3
  simp only [List.cons.injEq, and_true] at e1 e2 e3
  subst e1 e2 e3
  unfold maxLen at f1
  have f2' := wf8 f2
  have f3' := wf8 f3
  clear hA0 hval0
  refine (walk W hops hfit f1 (by omega) (by omega) (by omega) (by omega)).mono fun e W' ⟨he, bel⟩ => ?_
  subst he
  exact ⟨_, rfl, _, _, _, [], _, [], hW', trodAll_mk1 (shut_bool Try.underlying4 _), trodAll_mk1 (Below.trod laidOut (by kernel_rfl) (of_decide_eq_true (by kernel_rfl)) h0 bel hlt), rfl, bel.frame _, fun h => by cases h⟩

theorem over : Rows.blobsCountsRow.holds Try.pinned (OpenSpec.ofChange Rows.blobsCountsSpec) :=
  OpenClaim.holds_of_wide 3 Try.f3 rfl rfl rfl rfl rfl rfl rfl ⟨rfl, rfl, rfl, rfl, rfl⟩ rfl rfl rfl rfl rfl (by kernel_rfl) Try.func3 (by kernel_rfl)
    (of_decide_eq_true (by kernel_rfl)) (by unfold Func.isWrapper; first | (rw [if_pos (by decide +kernel)]; kernel_rfl) | (rw [if_neg (by decide +kernel)]; exact ⟨rfl, rfl⟩))
    (fun os started H enc _ => lifted os started H enc)

/-- The statement. -/
theorem proved : Rows.BlobsCountsSaid :=
  over
end blobsCounts
theorem blobsCounts_holds : Rows.BlobsCountsSaid := blobsCounts.proved
#print axioms blobsCounts_holds
end Go.Proofs.Ytfgnagnnmibmaaa
