/- FragsWeaves: every path. -/
import Derived.Test.YtbddggdbhfmlnaaWeavesA
namespace Go.Proofs.Ytbddggdbhfmlnaa
open Go.RowKit Go.Rt Go.Rw Go.Mp Go.Lib

set_option maxRecDepth 100000 in
set_option maxHeartbeats 2000000 in
theorem weaves_walk (vT vO : Value) (Ts : List ByteArray) (Os : List Int) (most : Int) (w : World) (hT : SlAt w 1 textC vT Ts) (hO : SlAt w 1 intC vO Os)
    (hsz : ∀ t ∈ Ts, t.size ≤ 9223372036854775807) (hob : ∀ o ∈ Os, -9223372036854775808 ≤ o ∧ o ≤ 9223372036854775807) :
    Calls Try.prog 5 #[.agg #[vT, .int .i64 most, vO]] w fun e w' => e = .returned (.bool true) ∧ Below w.heap.size w w' := by
  have HA := Lib.hid awake_any
  by_cases h1 : 60 < Ts.length
  · obtain ⟨hl, sT, cT, rfl⟩ := hT.len
    obtain ⟨ho, sO, cO, rfl⟩ := hO.len
    have d0 : (60 : Int) < (Ts.length : Int) := by omega
    clear hT hO hsz hob
    go_enter Try.func5, Try.ntmps5
    go_wp2_with fail
    refine (HA.out _).mono ?_
    rintro e w1 ⟨rfl, b1⟩
    have B1 := Lib.hid ((((Below.refl _ w).alloc (Nat.le_refl _) _)).trans (b1.mono (by simp)))
    clear b1
    go_wp2_with fail
    go_ret
    exact ⟨rfl, B1.out⟩
  · have d0 : ¬ (60 : Int) < (Ts.length : Int) := by omega
    by_cases h2 : most < 1
    · obtain ⟨hl, sT, cT, rfl⟩ := hT.len
      obtain ⟨ho, sO, cO, rfl⟩ := hO.len
      clear hT hO hsz hob
      go_enter Try.func5, Try.ntmps5
      go_wp2_with fail
      refine (HA.out _).mono ?_
      rintro e w1 ⟨rfl, b1⟩
      have B1 := Lib.hid ((((Below.refl _ w).alloc (Nat.le_refl _) _)).trans (b1.mono (by simp)))
      clear b1
      go_wp2_with fail
      go_ret
      exact ⟨rfl, B1.out⟩
    · by_cases h3 : 4096 < most
      · obtain ⟨hl, sT, cT, rfl⟩ := hT.len
        obtain ⟨ho, sO, cO, rfl⟩ := hO.len
        clear hT hO hsz hob
        go_enter Try.func5, Try.ntmps5
        go_wp2_with fail
        refine (HA.out _).mono ?_
        rintro e w1 ⟨rfl, b1⟩
        have B1 := Lib.hid ((((Below.refl _ w).alloc (Nat.le_refl _) _)).trans (b1.mono (by simp)))
        clear b1
        go_wp2_with fail
        go_ret
        exact ⟨rfl, B1.out⟩
      · by_cases h4 : 2000 < Os.length
        · obtain ⟨hl, sT, cT, rfl⟩ := hT.len
          obtain ⟨ho, sO, cO, rfl⟩ := hO.len
          have d4 : (2000 : Int) < (Os.length : Int) := by omega
          clear hT hO hsz hob
          go_enter Try.func5, Try.ntmps5
          go_wp2_with fail
          refine (HA.out _).mono ?_
          rintro e w1 ⟨rfl, b1⟩
          have B1 := Lib.hid ((((Below.refl _ w).alloc (Nat.le_refl _) _)).trans (b1.mono (by simp)))
          clear b1
          go_wp2_with fail
          go_ret
          exact ⟨rfl, B1.out⟩
        · obtain ⟨m, rfl⟩ := Int.eq_ofNat_of_zero_le (show 0 ≤ most by omega)
          exact weaves_yes vT vO Ts Os m w hT hO (by omega) (by omega) (by omega) (by omega) hsz hob
end Go.Proofs.Ytbddggdbhfmlnaa
