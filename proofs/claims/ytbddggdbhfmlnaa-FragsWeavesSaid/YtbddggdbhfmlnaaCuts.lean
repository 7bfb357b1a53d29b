/- FragsCuts returns true for every ID, message and number; its arguments read as before. No condition. -/
import Derived.Test.YtbddggdbhfmlnaaAwake
import Derived.Test.YtbddggdbhfmlnaaRcut
import Derived.Below
import Derived.Carry
import Derived.ProofKit
import Derived.OpenShut
import Derived.ShutString
namespace Go.Proofs.Ytbddggdbhfmlnaa
open Go.RowKit Go.Rt Go.Rw

/-- What Cut hands back: the list and the error. -/
def cutR (id : Int) (data : ByteArray) (most : Int) : List FragD × Int :=
  if cutBad id most = true then ([], 2) else if 262144 < data.size then ([], 3) else (cutL id data most.toNat, 0)

theorem cut_any (id most : Int) (data : ByteArray) (w : World) (hs : data.size ≤ 9223372036854775807) :
    Calls Try.prog 12 #[.int .i64 id, .string data, .int .i64 most] w fun e w' => ∃ v, e = .returned (.tuple #[v, .int .i64 (cutR id data most).2]) ∧ Sl w' w.heap.size 30 4 fc v (cutR id data most).1 ∧ Below w.heap.size w w' := by
  unfold cutR
  cases hb : cutBad id most
  · simp only [Bool.false_eq_true, if_false]
    by_cases hl : 262144 < data.size
    · rw [if_pos hl]
      exact (cut_long id most data w hs hb hl).mono fun e w' ⟨h1, h2⟩ => ⟨_, h1, Sl.nil _ _ _ _ _, h2⟩
    · rw [if_neg hl]
      obtain ⟨h1, h2, h3, h4⟩ := cut_ok_of hb
      obtain ⟨k, rfl⟩ := Int.eq_ofNat_of_zero_le (show 0 ≤ most by omega)
      rw [Int.toNat_natCast]
      exact cut_ok id data k w h1 h2 (by omega) (by omega) (by omega)
  · simp only [if_true]
    exact (cut_arg id most data w hb).mono fun e w' ⟨h1, h2⟩ => ⟨_, h1, Sl.nil _ _ _ _ _, h2⟩
theorem rcut_any (id most : Int) (data : ByteArray) (w : World) (hs : data.size ≤ 9223372036854775807) :
    Calls Try.prog 13 #[.int .i64 id, .string data, .int .i64 most] w fun e w' => ∃ v, e = .returned (.tuple #[v, .int .i64 (cutR id data most).2]) ∧ Sl w' w.heap.size 30 4 fc v (cutR id data most).1 ∧ Below w.heap.size w w' := by
  unfold cutR
  cases hb : cutBad id most
  · simp only [Bool.false_eq_true, if_false]
    by_cases hl : 262144 < data.size
    · rw [if_pos hl]
      exact (rcut_long id most data w hs hb hl).mono fun e w' ⟨h1, h2⟩ => ⟨_, h1, Sl.nil _ _ _ _ _, h2⟩
    · rw [if_neg hl]
      obtain ⟨h1, h2, h3, h4⟩ := cut_ok_of hb
      obtain ⟨k, rfl⟩ := Int.eq_ofNat_of_zero_le (show 0 ≤ most by omega)
      rw [Int.toNat_natCast]
      exact rcut_ok id data k w h1 h2 (by omega) (by omega) (by omega)
  · simp only [if_true]
    exact (rcut_arg id most data w hb).mono fun e w' ⟨h1, h2⟩ => ⟨_, h1, Sl.nil _ _ _ _ _, h2⟩

set_option maxRecDepth 100000 in
set_option maxHeartbeats 1000000 in
theorem cuts_walk (id most : Int) (data : ByteArray) (w : World) (hs : data.size ≤ 9223372036854775807) :
    Calls Try.prog 3 #[.int .i64 id, .string data, .int .i64 most] w fun e w' => e = .returned (.bool true) ∧ Below w.heap.size w w' := by
  by_cases hl : 300000 < data.size
  · have hl' : (300000 : Int) < data.size := by omega
    go_enter Try.func3, Try.ntmps3
    go_wp2_with fail
    refine (awake_any _).mono ?_
    rintro e w1 ⟨rfl, b1⟩
    have B1 := Lib.hid b1
    clear b1
    go_wp2
    go_ret
    exact ⟨rfl, B1.out⟩
  · have hl' : ¬ (300000 : Int) < data.size := by omega
    have HC := Lib.hid (fun w => cut_any id most data w hs)
    have HR := Lib.hid (fun w => rcut_any id most data w hs)
    obtain ⟨⟨L, er⟩, hLe⟩ : ∃ p, p = cutR id data most := ⟨_, rfl⟩
    rw [← hLe] at HC HR
    have hq : (er == er) = true := beq_self_eq_true _
    clear hLe
    go_enter Try.func3, Try.ntmps3
    go_wp2_with fail
    refine (HC.out _).mono ?_
    rintro e w1 ⟨v1, rfl, s1, b1⟩
    obtain ⟨sa1, cap1, hv1⟩ := (s1.at fc_len).len.2
    have S1 := Lib.hid s1
    have B1 := Lib.hid b1
    clear s1 b1
    subst hv1
    go_wp2_with fail
    refine (HR.out _).mono ?_
    rintro e w2 ⟨v2, rfl, s2, b2⟩
    obtain ⟨sa2, cap2, hv2⟩ := (s2.at fc_len).len.2
    have S2 := Lib.hid s2
    have S1' := Lib.hid (S1.out.below b2 (fun g hg => (S1.out.lt g hg).2))
    have B2 := Lib.hid (B1.out.trans (b2.mono B1.out.size))
    clear s2 b2
    subst hv2
    go_wp2_with fail
    refine (same_any L L _ _ _ (S1'.out.at fc_len) (S2.out.at fc_len)).mono ?_
    simp only [decide_true]
    rintro e w3 ⟨rfl, n, rfl⟩
    go_wp2_with fail
    refine (awake_any _).mono ?_
    rintro e w4 ⟨rfl, b4⟩
    have hdr : Below w.heap.size w (w2.drewN n) := ⟨B2.out.os, B2.out.tape, B2.out.output, B2.out.size, B2.out.block⟩
    have B4 : Hid (Below w.heap.size w w4) := Lib.hid (hdr.trans (b4.mono hdr.size))
    clear b4
    go_wp2
    go_ret
    exact ⟨rfl, B4.out⟩

namespace fragsCuts
open Go.ChangeShapes Go.WideShapes Go.ChangeAt Go.RowKit
open Go.ChangeMaps (open_string shut_string)
theorem own : ownKnob Try.prog.godebug = none := by kernel_rfl
set_option maxRecDepth 100000 in
theorem lifted (os : Os) (started : os.Started) (H : Type) (enc : TypeId × Value → H) :
    ReturnsInHanded {} Try.checked os 3 .any (Rows.fragsCutsSpec.pre6 enc Try.prog Try.f3 Rows.fragsCutsRow.domain false) (Rows.fragsCutsSpec.post enc Try.prog Try.f3 false true false false) := by
  refine returnsInHanded_of_change (C := Try.checked) own started (by kernel_rfl) Try.func3
    (ChangeSpec.witness6 (enc := enc) (C := Try.checked) false ⟨#[], #[.int .i64 0, .string ByteArray.empty, .int .i64 0], []⟩ 8 (by kernel_rfl) (by kernel_rfl) (by kernel_rfl) (by kernel_rfl)) ?_
  intro W base args ds gs before hval0 hW hcnd _
  have hval : ∀ (j : Nat) t v, Try.f3.params[j]? = some t → args[j]? = some v → Value.okWide Try.prog W .any base t v := hval0
  have hW' := hW
  obtain ⟨p, q, hA0, hV, rfl, hfz, hnd⟩ := hW
  have hA : DataW.TrodAll enc Try.prog W 0 (fun _ => true) true Try.f3.params.toList args.toList ds p := hA0
  rw [Try.params3] at hA hval
  obtain ⟨v0, vs0, d0, ds0, p0, q0, hargs, rfl, rfl, h0, r0⟩ := trodAll_cons hA
  obtain ⟨v1, vs1, d1, ds1, p1, q1, rfl, rfl, rfl, h1, r1⟩ := trodAll_cons r0
  obtain ⟨v2, vs2, d2, ds2, p2, q2, rfl, rfl, rfl, h2, r2⟩ := trodAll_cons r1
  obtain ⟨rfl, rfl, rfl⟩ := trodAll_nil r2
  obtain rfl : args = #[v0, v1, v2] := by cases args; simp_all
  obtain ⟨rfl, rfl⟩ := trodVars_none hV
  obtain ⟨a0, rfl, rfl, rfl, w0⟩ := open_int Try.underlying2 (hval 0 2 v0 rfl rfl) h0
  obtain ⟨a1, rfl, rfl, rfl, w1⟩ := open_string Try.underlying9 (hval 1 9 v1 rfl rfl) h1
  obtain ⟨a2, rfl, rfl, rfl, w2⟩ := open_int Try.underlying3 (hval 2 3 v2 rfl rfl) h2
  clear hA0 hval0
  simp only [List.append_nil] at hW'
  have w1' := w1
  unfold maxLen at w1'
  refine (cuts_walk a0 a2 a1 W (by omega)).mono fun e W' ⟨he, bel⟩ => ?_
  subst he
  exact ⟨_, rfl, _, _, _, [], [], [], hW', trodAll_mk1 (shut_bool Try.underlying4 _), (trodAll_cons_mk (shut_int Try.underlying2 w0) (trodAll_cons_mk (shut_string Try.underlying9 w1) (trodAll_cons_mk (shut_int Try.underlying3 w2) trodAll_mk0))), rfl, bel.frame _, fun h => by cases h⟩

theorem over : Rows.fragsCutsRow.holds Try.pinned (OpenSpec.ofChange Rows.fragsCutsSpec) :=
  OpenClaim.holds_of_wide 3 Try.f3 rfl rfl rfl rfl rfl rfl rfl ⟨rfl, rfl, rfl, rfl, rfl⟩ rfl rfl rfl rfl rfl (by kernel_rfl) Try.func3 (by kernel_rfl)
    (of_decide_eq_true (by kernel_rfl)) (by unfold Func.isWrapper; first | (rw [if_pos (by decide +kernel)]; kernel_rfl) | (rw [if_neg (by decide +kernel)]; exact ⟨rfl, rfl⟩))
    (fun os started H enc _ => lifted os started H enc)
end fragsCuts
/-- The statement. -/
theorem fragsCuts_holds : Rows.FragsCutsSaid := fragsCuts.over
#print axioms fragsCuts_holds
end Go.Proofs.Ytbddggdbhfmlnaa
