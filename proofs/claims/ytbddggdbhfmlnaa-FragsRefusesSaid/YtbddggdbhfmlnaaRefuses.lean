/- FragsRefuses: every path. -/
import Derived.Test.YtbddggdbhfmlnaaRefusesA
import Derived.Test.YtbddggdbhfmlnaaAwake
namespace Go.Proofs.Ytbddggdbhfmlnaa
open Go.RowKit Go.Rt Go.Rw Go.Mp Go.Lib

theorem awake_after {w W w1 : World} (b : Below w.heap.size w W) (b1 : Below W.heap.size W w1) : Below w.heap.size w w1 := b.trans (b1.mono b.size)

set_option maxRecDepth 100000 in
set_option maxHeartbeats 1000000 in
theorem refuses_walk (vT vO : Value) (Ts : List ByteArray) (most id left at' : Int) (fi : Bool) (od : ByteArray) (w : World) (hT : SlAt w 1 strC vT Ts) (hs : ∀ t ∈ Ts, t.size ≤ 9223372036854775807) (hod : od.size ≤ 9223372036854775807)
    (ha1 : -9223372036854775808 ≤ at') (ha2 : at' ≤ 9223372036854775807) (hO : ∃ sa n cap, vO = .slice sa n cap) :
    Calls Try.prog 6 #[.agg #[vT, .int .i64 most, vO], .agg #[.int .i64 id, .bool fi, .int .i64 left, .string od], .int .i64 at'] w fun e w' => e = .returned (.bool true) ∧ Below w.heap.size w w' := by
  have HA := Lib.hid awake_any
  by_cases hn : Ts.length = 1
  · obtain ⟨t, rfl⟩ := List.length_eq_one_iff.1 hn
    by_cases ht : t.size ≤ 3000
    · by_cases h3 : most < 1
      · obtain ⟨sO, nO, cO, rfl⟩ := hO
        obtain ⟨_, sT, cT, rfl⟩ := hT.len
        obtain ⟨bT, oT, rfl, hbT, hcT⟩ := hT.get (by simp)
        have hc0 := hcT 0 0 (by simp) (by omega)
        simp only [Nat.zero_mul, Nat.add_zero, List.getElem_cons_zero, strC, List.getElem?_cons_zero] at hc0
        have d1 : ¬ (3000 : Int) < t.size := by omega
        clear hcT hT hn ht
        simp only [List.length_cons, List.length_nil, Nat.zero_add]
        go_enter Try.func6, Try.ntmps6
        go_wp2_with fail
        refine (HA.out _).mono ?_
        rintro e w1 ⟨rfl, b1⟩
        have B1 := Lib.hid (awake_after (((Below.refl _ w).alloc (Nat.le_refl _) _).alloc (by simp) _) b1)
        clear b1
        go_wp2_with fail
        go_ret
        exact ⟨rfl, B1.out⟩
      · by_cases h4 : 4096 < most
        · obtain ⟨sO, nO, cO, rfl⟩ := hO
          obtain ⟨_, sT, cT, rfl⟩ := hT.len
          obtain ⟨bT, oT, rfl, hbT, hcT⟩ := hT.get (by simp)
          have hc0 := hcT 0 0 (by simp) (by omega)
          simp only [Nat.zero_mul, Nat.add_zero, List.getElem_cons_zero, strC, List.getElem?_cons_zero] at hc0
          have d1 : ¬ (3000 : Int) < t.size := by omega
          clear hcT hT hn ht
          simp only [List.length_cons, List.length_nil, Nat.zero_add]
          go_enter Try.func6, Try.ntmps6
          go_wp2_with fail
          refine (HA.out _).mono ?_
          rintro e w1 ⟨rfl, b1⟩
          have B1 := Lib.hid (awake_after (((Below.refl _ w).alloc (Nat.le_refl _) _).alloc (by simp) _) b1)
          clear b1
          go_wp2_with fail
          go_ret
          exact ⟨rfl, B1.out⟩
        · cases hv : validB id left od
          · obtain ⟨sO, nO, cO, rfl⟩ := hO
            obtain ⟨_, sT, cT, rfl⟩ := hT.len
            obtain ⟨bT, oT, rfl, hbT, hcT⟩ := hT.get (by simp)
            have hc0 := hcT 0 0 (by simp) (by omega)
            simp only [Nat.zero_mul, Nat.add_zero, List.getElem_cons_zero, strC, List.getElem?_cons_zero] at hc0
            have d1 : ¬ (3000 : Int) < t.size := by omega
            clear hcT hT hn ht
            have HV := Lib.hid (fun W => rvalid_no id left fi od W hod hv)
            clear hv
            simp only [List.length_cons, List.length_nil, Nat.zero_add]
            go_enter Try.func6, Try.ntmps6
            go_wp2_with fail
            refine (HV.out _).mono ?_
            rintro e w0 ⟨rfl, b0⟩
            have B0 := Lib.hid (awake_after (((Below.refl _ w).alloc (Nat.le_refl _) _).alloc (by simp) _) b0)
            clear b0
            go_wp2_with fail
            refine (HA.out _).mono ?_
            rintro e w1 ⟨rfl, b1⟩
            have B1 := Lib.hid (awake_after B0.out b1)
            clear b1
            go_wp2_with fail
            go_ret
            exact ⟨rfl, B1.out⟩
          · obtain ⟨m, rfl⟩ := Int.eq_ofNat_of_zero_le (show 0 ≤ most by omega)
            exact refuses_yes vT vO t m id left at' fi od w hT ht (by omega) (by omega) hv ha1 ha2 hO
    · obtain ⟨sO, nO, cO, rfl⟩ := hO
      obtain ⟨_, sT, cT, rfl⟩ := hT.len
      obtain ⟨bT, oT, rfl, hbT, hcT⟩ := hT.get (by simp)
      have hc0 := hcT 0 0 (by simp) (by omega)
      have hts := hs t (by simp)
      simp only [Nat.zero_mul, Nat.add_zero, List.getElem_cons_zero, strC, List.getElem?_cons_zero] at hc0
      have d1 : (3000 : Int) < t.size := by omega
      clear hcT hT hn ht
      simp only [List.length_cons, List.length_nil, Nat.zero_add]
      go_enter Try.func6, Try.ntmps6
      go_wp2_with fail
      refine (HA.out _).mono ?_
      rintro e w1 ⟨rfl, b1⟩
      have B1 := Lib.hid (awake_after (((Below.refl _ w).alloc (Nat.le_refl _) _).alloc (by simp) _) b1)
      clear b1
      go_wp2_with fail
      go_ret
      exact ⟨rfl, B1.out⟩
  · obtain ⟨sO, nO, cO, rfl⟩ := hO
    obtain ⟨hlen, sT, cT, rfl⟩ := hT.len
    have d0 : ((Ts.length : Int) != 1) = true := by rw [bne_iff_ne]; omega
    clear hT hn
    go_enter Try.func6, Try.ntmps6
    go_wp2_with fail
    refine (HA.out _).mono ?_
    rintro e w1 ⟨rfl, b1⟩
    have B1 := Lib.hid (awake_after (((Below.refl _ w).alloc (Nat.le_refl _) _).alloc (by simp) _) b1)
    clear b1
    go_wp2_with fail
    go_ret
    exact ⟨rfl, B1.out⟩
end Go.Proofs.Ytbddggdbhfmlnaa
