/- PeersX: a part of the proof. No condition beyond the premises of each theorem. -/
import Derived.Test.YtoaimoemaoinhaaGreatDoorQd04
import Derived.Deep.CutBlock
namespace Go.Proofs.YtoaimoemaoinhaaGreatDoor
open Go.RowKit Go.Rt Go.Rw
structure Sg where
 k : Int
 fr : Tm
 tt : Tm
 node : ByteArray
 name : ByteArray
 ref : Tm
 num : Int
 val : Tm
structure Sf where
 a : Ft
 b : Ft
 c : Ft
 d : Ft
def sgC (s : Sg) (x : Sf) : List Value := [.int .i64 s.k] ++ ftC x.a ++ ftC x.b ++ [.string s.node, .string s.name] ++ ftC x.c ++ [.int .i64 s.num] ++ ftC x.d
def sgV (s : Sg) (x : Sf) : Value := .agg (sgC s x).toArray
structure SgAt (S : Nat → Prop) (w : World) (s : Sg) (x : Sf) : Prop where
 fr : TmAt S w s.fr x.a
 tt : TmAt S w s.tt x.b
 ref : TmAt S w s.ref x.c
 val : TmAt S w s.val x.d
theorem SgAt.below {S : Nat → Prop} {w w' : World} {s : Sg} {x : Sf} {n : Nat} (h : SgAt S w s x) (hb : Below n w w') (hn : ∀ b, S b → b < w.heap.size → b < n) : SgAt S w' s x :=
 ⟨h.fr.below hb hn, h.tt.below hb hn, h.ref.below hb hn, h.val.below hb hn⟩
theorem SgAt.mono {S S' : Nat → Prop} {w : World} {s : Sg} {x : Sf} (h : SgAt S w s x) (hS : ∀ b, S b → b < w.heap.size → S' b) : SgAt S' w s x :=
 ⟨h.fr.mono hS, h.tt.mono hS, h.ref.mono hS, h.val.mono hS⟩
def usesF (k : Int) : Int :=
 if k = 1 then 67
 else if k = 6 then 67
 else if k = 7 then 67
 else if k = 2 then 77
 else if k = 3 then 3
 else if k = 4 then 35
 else if k = 5 then 35
 else if k = 8 then 19
 else if k = 9 then 19
 else if k = 10 then 83
 else if k = 11 then 85
 else if k = 12 then 86
 else 0
set_option maxRecDepth 100000 in
set_option maxHeartbeats 4000000 in
theorem uses21 (k : Int) (w : World) : Calls Tryz.prog 45 #[.int .i64 k] w fun e w' => e = .returned (.int .i64 (usesF k)) ∧ Below w.heap.size w w' := by
 obtain ⟨u, hu⟩ : ∃ u, u = usesF k := ⟨_, rfl⟩
 rw [← hu]
 by_cases h1 : k = 1
 ·
  subst h1
  obtain rfl : u = 67 := hu
  go_enter Tryz.func45, Tryz.ntmps45
  go_wp2_with fail
  go_ret
  exact ⟨rfl, Below.refl _ _⟩
 by_cases h6 : k = 6
 ·
  subst h6
  obtain rfl : u = 67 := hu
  go_enter Tryz.func45, Tryz.ntmps45
  go_wp2_with fail
  go_ret
  exact ⟨rfl, Below.refl _ _⟩
 by_cases h7 : k = 7
 ·
  subst h7
  obtain rfl : u = 67 := hu
  go_enter Tryz.func45, Tryz.ntmps45
  go_wp2_with fail
  go_ret
  exact ⟨rfl, Below.refl _ _⟩
 by_cases h2 : k = 2
 ·
  subst h2
  obtain rfl : u = 77 := hu
  go_enter Tryz.func45, Tryz.ntmps45
  go_wp2_with fail
  go_ret
  exact ⟨rfl, Below.refl _ _⟩
 by_cases h3 : k = 3
 ·
  subst h3
  obtain rfl : u = 3 := hu
  go_enter Tryz.func45, Tryz.ntmps45
  go_wp2_with fail
  go_ret
  exact ⟨rfl, Below.refl _ _⟩
 by_cases h4 : k = 4
 ·
  subst h4
  obtain rfl : u = 35 := hu
  go_enter Tryz.func45, Tryz.ntmps45
  go_wp2_with fail
  go_ret
  exact ⟨rfl, Below.refl _ _⟩
 by_cases h5 : k = 5
 ·
  subst h5
  obtain rfl : u = 35 := hu
  go_enter Tryz.func45, Tryz.ntmps45
  go_wp2_with fail
  go_ret
  exact ⟨rfl, Below.refl _ _⟩
 by_cases h8 : k = 8
 ·
  subst h8
  obtain rfl : u = 19 := hu
  go_enter Tryz.func45, Tryz.ntmps45
  go_wp2_with fail
  go_ret
  exact ⟨rfl, Below.refl _ _⟩
 by_cases h9 : k = 9
 ·
  subst h9
  obtain rfl : u = 19 := hu
  go_enter Tryz.func45, Tryz.ntmps45
  go_wp2_with fail
  go_ret
  exact ⟨rfl, Below.refl _ _⟩
 by_cases h10 : k = 10
 ·
  subst h10
  obtain rfl : u = 83 := hu
  go_enter Tryz.func45, Tryz.ntmps45
  go_wp2_with fail
  go_ret
  exact ⟨rfl, Below.refl _ _⟩
 by_cases h11 : k = 11
 ·
  subst h11
  obtain rfl : u = 85 := hu
  go_enter Tryz.func45, Tryz.ntmps45
  go_wp2_with fail
  go_ret
  exact ⟨rfl, Below.refl _ _⟩
 by_cases h12 : k = 12
 ·
  subst h12
  obtain rfl : u = 86 := hu
  go_enter Tryz.func45, Tryz.ntmps45
  go_wp2_with fail
  go_ret
  exact ⟨rfl, Below.refl _ _⟩
 obtain rfl : u = 0 := by rw [hu]; unfold usesF; simp [h1, h6, h7, h2, h3, h4, h5, h8, h9, h10, h11, h12]
 have e1 : (k == 1) = false := by rw [beq_eq_false_iff_ne]; exact h1
 have e6 : (k == 6) = false := by rw [beq_eq_false_iff_ne]; exact h6
 have e7 : (k == 7) = false := by rw [beq_eq_false_iff_ne]; exact h7
 have e2 : (k == 2) = false := by rw [beq_eq_false_iff_ne]; exact h2
 have e3 : (k == 3) = false := by rw [beq_eq_false_iff_ne]; exact h3
 have e4 : (k == 4) = false := by rw [beq_eq_false_iff_ne]; exact h4
 have e5 : (k == 5) = false := by rw [beq_eq_false_iff_ne]; exact h5
 have e8 : (k == 8) = false := by rw [beq_eq_false_iff_ne]; exact h8
 have e9 : (k == 9) = false := by rw [beq_eq_false_iff_ne]; exact h9
 have e10 : (k == 10) = false := by rw [beq_eq_false_iff_ne]; exact h10
 have e11 : (k == 11) = false := by rw [beq_eq_false_iff_ne]; exact h11
 have e12 : (k == 12) = false := by rw [beq_eq_false_iff_ne]; exact h12
 clear hu h1 h6 h7 h2 h3 h4 h5 h8 h9 h10 h11 h12
 go_enter Tryz.func45, Tryz.ntmps45
 go_wp2_with fail
 go_ret
 exact ⟨rfl, Below.refl _ _⟩
end Go.Proofs.YtoaimoemaoinhaaGreatDoor
