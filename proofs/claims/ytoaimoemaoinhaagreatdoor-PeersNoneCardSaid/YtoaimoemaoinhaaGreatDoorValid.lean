/- terms.Valid. -/
import Derived.Test.YtoaimoemaoinhaaGreatDoorSum
namespace Go.Proofs.YtoaimoemaoinhaaGreatDoor
open Go.RowKit Go.Rt Go.Rw
set_option maxRecDepth 100000 in
set_option maxHeartbeats 2000000 in
theorem valid_anyW (S : Nat → Prop) (t : Tm) (x : Ft) (w : World) (hx : TmAt S w t x) (hfit : fitW t) (hz : bulk t ≤ 4611686018427387904) :
    Calls Tryz.prog 81 #[ftV x] w fun e w' => e = .returned (.bool (validB t)) ∧ Below w.heap.size w w' := by
  obtain ⟨e1, i1⟩ := hx.its
  obtain ⟨e2, sa, cap, v1⟩ := i1.form
  clear e2
  have hv := checkF_zero t
  have CC := Lib.hid (fun (W : World) (hb : Below w.heap.size w W) => check_any (fun b => b < w.heap.size) t x W (hx.map hb.size (fun b _ hl => hb.block b hl) (fun b _ hl => hl)) hfit hz)
  obtain ⟨xf, xv⟩ := x
  dsimp only at v1
  subst v1
  generalize t.l.length = len at *
  clear hx e1 i1 hfit hz
  rw [← hv]
  clear hv
  generalize checkF t = c at CC ⊢
  unfold ftV at CC ⊢
  by_cases hc : c = 0
  · subst hc
    go_enter Tryz.func81, Tryz.ntmps81
    go_wp2_with fail
    refine (CC.out _ ((Below.refl _ _).alloc (Nat.le_refl _) _)).mono ?_
    rintro e w1 ⟨rfl, b1⟩
    have B1 := Lib.hid (((Below.refl w.heap.size w).alloc (Nat.le_refl _) _).trans (b1.mono (by simp)))
    clear b1 CC
    go_wp2_with fail
    go_ret
    exact ⟨rfl, B1.out⟩
  · have d : (c == 0) = false := by simpa using hc
    have e0 : decide (c = 0) = false := by simpa using hc
    rw [e0]
    clear hc e0
    go_enter Tryz.func81, Tryz.ntmps81
    go_wp2_with fail
    refine (CC.out _ ((Below.refl _ _).alloc (Nat.le_refl _) _)).mono ?_
    rintro e w1 ⟨rfl, b1⟩
    have B1 := Lib.hid (((Below.refl w.heap.size w).alloc (Nat.le_refl _) _).trans (b1.mono (by simp)))
    clear b1 CC
    go_wp2_with fail
    go_ret
    exact ⟨rfl, B1.out⟩
theorem valid_any (S : Nat → Prop) (t : Tm) (x : Ft) (w : World) (hx : TmAt S w t x) (hfit : fitT t) (hz : bulk t ≤ 4611686018427387904) :
    Calls Tryz.prog 81 #[ftV x] w fun e w' => e = .returned (.bool (validB t)) ∧ Below w.heap.size w w' := valid_anyW S t x w hx (fitW_of t hfit) hz
end Go.Proofs.YtoaimoemaoinhaaGreatDoor
