/- The walk of DigestEquals. -/
import Derived.Test.YtggfibheolpbiaaDoorLawP
namespace Go.Proofs.YtggfibheolpbiaaDoor
open Go.RowKit Go.Rt Go.Rw
set_option maxRecDepth 100000 in
set_option maxHeartbeats 1000000 in
theorem equals_walk (a b : ByteArray) (w : World) (ha : a.size ≤ 9223372036854775807) (hb : b.size ≤ 9223372036854775807) (ht : Tabs w) :
    Calls Tryd.prog 4 #[.string a, .string b] w fun e w' => e = .returned (.bool true) ∧ Below w.heap.size w w' := by
  have HAW := Lib.hid (awake_any)
  have HT := Lib.hid ht
  clear ht
  by_cases h1 : a.size ≤ 2000
  · have h1' : ¬ (2000 : Int) < a.size := by omega
    by_cases h2 : b.size ≤ 2000
    · have h2' : ¬ (2000 : Int) < b.size := by omega
      obtain ⟨q, hq⟩ : ∃ q : Bool, q = decide (a = b) := ⟨_, rfl⟩
      have he : (a.toList == b.toList) = q := by
        rw [hq]
        by_cases e : a = b
        · subst e; simp
        · rw [toList_ne e]; simp [e]
      have hh : ((hexS a).toList == (hexS b).toList) = q := by
        rw [hq]
        by_cases e : a = b
        · subst e; simp
        · rw [toList_ne (fun h => e (hexS_inj h))]; simp [e]
      have E1 := Lib.hid (fun w => equal_any a b (by omega) (by omega) w)
      have E2 := Lib.hid (fun w => equal_any a a (by omega) (by omega) w)
      rw [← hq] at E1
      simp only [decide_true] at E2
      have X1 := Lib.hid (fun w => hex_str a (by omega) w)
      have X2 := Lib.hid (fun w => hex_str b (by omega) w)
      clear hq h1 h2
      cases q
      all_goals
        go_enter Tryd.func4, Tryd.ntmps4
        go_wp2_with fail
        refine (E1.out _).mono ?_
        rintro e w1 ⟨rfl, b1⟩
        go_wp2_with fail
        refine (E2.out _).mono ?_
        rintro e w2 ⟨rfl, b2⟩
        go_wp2_with fail
        refine (X1.out _).mono ?_
        rintro e w3 ⟨rfl, b3⟩
        go_wp2_with fail
        refine (X2.out _).mono ?_
        rintro e w4 ⟨rfl, b4⟩
        have B4 : Below w.heap.size w w4 := ((b1.trans (b2.mono b1.size)).trans ((b3.trans (b4.mono b3.size)).mono (by have := b1.size; have := b2.size; omega)))
        have T4 := HT.out.below B4 HT.out.two
        have HB4 := Lib.hid B4
        clear b1 b2 b3 b4 B4
        go_wp2_with fail
        refine (HAW.out _ T4).mono ?_
        rintro e w5 ⟨rfl, b5⟩
        clear T4
        go_wp2
        go_ret
        exact ⟨rfl, HB4.out.trans (b5.mono HB4.out.size)⟩
    · have h2' : (2000 : Int) < b.size := by omega
      go_enter Tryd.func4, Tryd.ntmps4
      go_wp2_with fail
      refine (HAW.out _ HT.out).mono ?_
      rintro e w1 ⟨rfl, b1⟩
      have B1 := Lib.hid b1
      clear b1
      go_wp2
      go_ret
      exact ⟨rfl, B1.out⟩
  · have h1' : (2000 : Int) < a.size := by omega
    go_enter Tryd.func4, Tryd.ntmps4
    go_wp2_with fail
    refine (HAW.out _ HT.out).mono ?_
    rintro e w1 ⟨rfl, b1⟩
    have B1 := Lib.hid b1
    clear b1
    go_wp2
    go_ret
    exact ⟨rfl, B1.out⟩
end Go.Proofs.YtggfibheolpbiaaDoor
