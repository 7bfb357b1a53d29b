/- in, holds. -/
import Derived.Test.YtekfnonjhcfdmaaDoorDefs
namespace Go.Proofs.YtekfnonjhcfdmaaDoor
open Go.RowKit Go.Rt Go.Rw

set_option maxRecDepth 100000 in
set_option maxHeartbeats 2000000 in
theorem in_any (L : List Int) (n : Int) (v : Value) (w : World) (h1 : SlAt w 1 inC v L) : Calls Tryd.prog 61 #[v, .int .i64 n] w (BoR (decide (n ∈ L)) w) := by
  obtain ⟨hm1, sa, cap, rfl⟩ := h1.len
  obtain ⟨r, hr⟩ : ∃ r, r = decide (n ∈ L) := ⟨_, rfl⟩
  rw [← hr]
  have RY : Hid (∀ k (a : k < L.length), L[k] = n → r = true) := Lib.hid (fun k a h => by rw [hr, ← h]; exact decide_eq_true (List.getElem_mem a))
  have RN : Hid ((∀ k (a : k < L.length), L[k] ≠ n) → r = false) := Lib.hid (fun h => by
    rw [hr]
    refine decide_eq_false (fun hn => ?_)
    obtain ⟨k, hk, e⟩ := List.getElem_of_mem hn
    exact h k hk e)
  have H1 := Lib.hid h1
  clear hr h1
  go_enter Tryd.func61, Tryd.ntmps61
  go_wp2_with fail
  go_loopw [5] (fun i wr => ∃ k : Nat, k ≤ L.length ∧ i = .int .i64 k ∧ Below w.heap.size w wr ∧ Hid (∀ j, j < k → ∀ (a : j < L.length), L[j] ≠ n)) (fun i _ => L.length - (intOf i).toNat)
  case atStart => exact ⟨0, Nat.zero_le _, rfl, Below.refl _ _, Lib.hid (fun j hj => by omega)⟩
  case round =>
    obtain ⟨k, hk, rfl, bw, hall⟩ := hrel
    have BW := Lib.hid bw
    by_cases hlt : k < L.length
    · obtain ⟨b, o, rfl, hb, hc⟩ := H1.out.get (by omega)
      have HK := Lib.hid (RY.out k hlt)
      have HE := Lib.hid hall.out
      have p := hc k 0 hlt (by omega)
      rw [Nat.mul_one, Nat.add_zero] at p
      obtain ⟨x, hx⟩ : ∃ x, x = L[k] := ⟨_, rfl⟩
      rw [← hx] at p HK
      have p0 : wr.cell? ⟨b, o + k, none⟩ = some (.int .i64 x) := by rw [bw.cell (p := ⟨b, _, none⟩) hb, p]; rfl
      clear hc p bw
      by_cases hxy : x = n
      · subst hxy
        obtain rfl := HK.out rfl
        clear hx
        go_wp2_with fail
        try go_quiet (fail)
        try go_wp2_with fail
        go_ret
        exact ⟨rfl, by first | exact BW.out | exact below_drewN BW.out _⟩
      · have dn : (x == n) = false := by rw [beq_eq_false_iff_ne]; exact hxy
        have HQ : Hid (L[k] ≠ n) := Lib.hid (by rw [← hx]; exact hxy)
        clear hx hxy
        go_wp2_with fail
        try go_quiet (fail)
        try go_wp2_with fail
        go_roundw
        case rel => exact ⟨k + 1, by omega, by go_num, by first | exact BW.out | exact below_drewN BW.out _, Lib.hid (fun j hj a => by
          rcases Nat.lt_succ_iff_lt_or_eq.1 hj with q | q
          · exact HE.out j q a
          · subst q; exact HQ.out)⟩
        case measure => simp [intOf]; omega
    · obtain rfl : r = false := RN.out (fun j a => hall.out j (by omega) a)
      go_wp2_with fail
      go_ret
      exact ⟨rfl, BW.out⟩
set_option maxRecDepth 100000 in
set_option maxHeartbeats 2000000 in
theorem holds_any (L : List Int) (n : Int) (v : Value) (w : World) (h1 : SlAt w 1 inC v L) : Calls Tryd.prog 31 #[v, .int .i64 n] w (BoR (decide (n ∈ L)) w) := by
  obtain ⟨hm1, sa, cap, rfl⟩ := h1.len
  obtain ⟨r, hr⟩ : ∃ r, r = decide (n ∈ L) := ⟨_, rfl⟩
  rw [← hr]
  have RY : Hid (∀ k (a : k < L.length), L[k] = n → r = true) := Lib.hid (fun k a h => by rw [hr, ← h]; exact decide_eq_true (List.getElem_mem a))
  have RN : Hid ((∀ k (a : k < L.length), L[k] ≠ n) → r = false) := Lib.hid (fun h => by
    rw [hr]
    refine decide_eq_false (fun hn => ?_)
    obtain ⟨k, hk, e⟩ := List.getElem_of_mem hn
    exact h k hk e)
  have H1 := Lib.hid h1
  clear hr h1
  go_enter Tryd.func31, Tryd.ntmps31
  go_wp2_with fail
  go_loopw [5] (fun i wr => ∃ k : Nat, k ≤ L.length ∧ i = .int .i64 k ∧ Below w.heap.size w wr ∧ Hid (∀ j, j < k → ∀ (a : j < L.length), L[j] ≠ n)) (fun i _ => L.length - (intOf i).toNat)
  case atStart => exact ⟨0, Nat.zero_le _, rfl, Below.refl _ _, Lib.hid (fun j hj => by omega)⟩
  case round =>
    obtain ⟨k, hk, rfl, bw, hall⟩ := hrel
    have BW := Lib.hid bw
    by_cases hlt : k < L.length
    · obtain ⟨b, o, rfl, hb, hc⟩ := H1.out.get (by omega)
      have HK := Lib.hid (RY.out k hlt)
      have HE := Lib.hid hall.out
      have p := hc k 0 hlt (by omega)
      rw [Nat.mul_one, Nat.add_zero] at p
      obtain ⟨x, hx⟩ : ∃ x, x = L[k] := ⟨_, rfl⟩
      rw [← hx] at p HK
      have p0 : wr.cell? ⟨b, o + k, none⟩ = some (.int .i64 x) := by rw [bw.cell (p := ⟨b, _, none⟩) hb, p]; rfl
      clear hc p bw
      by_cases hxy : x = n
      · subst hxy
        obtain rfl := HK.out rfl
        clear hx
        go_wp2_with fail
        try go_quiet (fail)
        try go_wp2_with fail
        go_ret
        exact ⟨rfl, by first | exact BW.out | exact below_drewN BW.out _⟩
      · have dn : (x == n) = false := by rw [beq_eq_false_iff_ne]; exact hxy
        have HQ : Hid (L[k] ≠ n) := Lib.hid (by rw [← hx]; exact hxy)
        clear hx hxy
        go_wp2_with fail
        try go_quiet (fail)
        try go_wp2_with fail
        go_roundw
        case rel => exact ⟨k + 1, by omega, by go_num, by first | exact BW.out | exact below_drewN BW.out _, Lib.hid (fun j hj a => by
          rcases Nat.lt_succ_iff_lt_or_eq.1 hj with q | q
          · exact HE.out j q a
          · subst q; exact HQ.out)⟩
        case measure => simp [intOf]; omega
    · obtain rfl : r = false := RN.out (fun j a => hall.out j (by omega) a)
      go_wp2_with fail
      go_ret
      exact ⟨rfl, BW.out⟩
end Go.Proofs.YtekfnonjhcfdmaaDoor
