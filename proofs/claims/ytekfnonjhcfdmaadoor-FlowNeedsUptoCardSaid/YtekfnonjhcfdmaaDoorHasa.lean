/- has: is a place in a list of places? -/
import Derived.Test.YtekfnonjhcfdmaaDoorWalk1
namespace Go.Proofs.YtekfnonjhcfdmaaDoor
open Go.RowKit Go.Rt Go.Rw

set_option maxRecDepth 100000 in
set_option maxHeartbeats 2000000 in
theorem has52 (L : List Ar) (a : Ar) (v : Value) (w : World) (h1 : SlAt w 2 arC v L) : Calls Tryd.prog 52 #[v, arV a] w (BoR (decide (a ∈ L)) w) := by
  obtain ⟨hm1, sa, cap, rfl⟩ := h1.len
  obtain ⟨r, hr⟩ : ∃ r, r = decide (a ∈ L) := ⟨_, rfl⟩
  rw [← hr]
  have RY : Hid (∀ k (h : k < L.length), L[k] = a → r = true) := Lib.hid (fun k h e => by rw [hr, ← e]; exact decide_eq_true (List.getElem_mem h))
  have RN : Hid ((∀ k (h : k < L.length), L[k] ≠ a) → r = false) := Lib.hid (fun h => by
    rw [hr]
    refine decide_eq_false (fun hn => ?_)
    obtain ⟨k, hk, e⟩ := List.getElem_of_mem hn
    exact h k hk e)
  have H1 := Lib.hid h1
  obtain ⟨yk, yn⟩ := a
  unfold arV
  dsimp only
  have X := Lib.hid (Blk.new w 38 #[.int .i64 yk, .int .i64 yn])
  have B := Lib.hid ((Below.refl w.heap.size w).alloc (Nat.le_refl _) (.cells #[.int .i64 yk, .int .i64 yn] 38))
  obtain ⟨m, hm⟩ : ∃ q, q = w.heap.size := ⟨_, rfl⟩
  have HM := Lib.hid hm
  rw [← hm] at X B
  clear hr h1
  go_enter Tryd.func52, Tryd.ntmps52
  go_upto_region 1 with fail
  rw [← hm]
  generalize w.alloc (.cells #[.int .i64 yk, .int .i64 yn] 38) = w1 at X B ⊢
  clear hm
  go_wp2_with fail
  go_loopw [5] (fun i wr => ∃ k : Nat, k ≤ L.length ∧ i = .int .i64 k ∧ Hid (Below m w wr) ∧ Hid (Blk wr m 38 #[.int .i64 yk, .int .i64 yn]) ∧ Hid (∀ j, j < k → ∀ (h : j < L.length), L[j] ≠ ⟨yk, yn⟩)) (fun i _ => L.length - (intOf i).toNat)
  case atStart => exact ⟨0, Nat.zero_le _, rfl, B, X, Lib.hid (fun j hj => by omega)⟩
  case round =>
    obtain ⟨k, hk, rfl, BW, XW, hall⟩ := hrel
    clear B X
    have q0 : wr.cell? ⟨m, 0, none⟩ = some (.int .i64 yk) := XW.out.cell 0
    have q1 : wr.cell? ⟨m, 1, none⟩ = some (.int .i64 yn) := XW.out.cell 1
    by_cases hlt : k < L.length
    · obtain ⟨b, o, rfl, hb, hc⟩ := H1.out.get (by omega)
      have HK := Lib.hid (RY.out k hlt)
      have HE := Lib.hid hall.out
      have p := hc k 0 hlt (by omega)
      have p' := hc k 1 hlt (by omega)
      rw [Nat.add_zero] at p
      obtain ⟨x, hx⟩ : ∃ x, x = L[k] := ⟨_, rfl⟩
      rw [← hx] at p p' HK
      rw [← HM.out] at hb
      have p0 : wr.cell? ⟨b, o + k * 2, none⟩ = some (.int .i64 x.k) := by rw [BW.out.cell (p := ⟨b, _, none⟩) hb, p]; rfl
      have p1 : wr.cell? ⟨b, o + k * 2 + 1, none⟩ = some (.int .i64 x.n) := by rw [BW.out.cell (p := ⟨b, _, none⟩) hb, p']; rfl
      have HX := Lib.hid hx
      clear hc p p' hb hall hx
      obtain ⟨xk, xn⟩ := x
      dsimp only at p0 p1
      by_cases hxy : (⟨xk, xn⟩ : Ar) = ⟨yk, yn⟩
      · obtain rfl := HK.out hxy
        cases hxy
        go_wp2_with fail
        go_quiet (fail)
        go_wp2_with fail
        go_ret
        exact ⟨rfl, by rw [← HM.out]; exact below_drewN BW.out _⟩
      · have HE2 : Hid (∀ j, j < k + 1 → ∀ (h : j < L.length), L[j] ≠ ⟨yk, yn⟩) := Lib.hid (fun j hj h => by
          rcases Nat.lt_succ_iff_lt_or_eq.1 hj with q | q
          · exact HE.out j q h
          · subst q
            rw [← HX.out]
            exact hxy)
        clear HE HX HK
        by_cases h0 : xk = yk
        · subst h0
          have dn : (xn == yn) = false := by rw [beq_eq_false_iff_ne]; intro e; subst e; exact hxy rfl
          clear hxy
          go_wp2_with fail
          go_quiet (fail)
          go_wp2_with fail
          go_roundw
          case rel => exact ⟨k + 1, by omega, by go_num, Lib.hid (below_drewN BW.out _), Lib.hid (XW.out.drewN _), HE2⟩
          case measure => simp [intOf]; omega
        · have dn : (xk == yk) = false := by rw [beq_eq_false_iff_ne]; exact h0
          clear hxy h0
          go_wp2_with fail
          go_quiet (fail)
          go_wp2_with fail
          go_roundw
          case rel => exact ⟨k + 1, by omega, by go_num, Lib.hid (below_drewN BW.out _), Lib.hid (XW.out.drewN _), HE2⟩
          case measure => simp [intOf]; omega
    · obtain rfl : r = false := RN.out (fun j h => hall.out j (by omega) h)
      go_wp2_with fail
      go_ret
      exact ⟨rfl, by rw [← HM.out]; exact BW.out⟩
end Go.Proofs.YtekfnonjhcfdmaaDoor
