/- flow's set.join of a set with itself: nothing happens. -/
import Derived.Test.YtekfnonjhcfdmaaDoorJoin
namespace Go.Proofs.YtekfnonjhcfdmaaDoor
open Go.RowKit Go.Rt Go.Rw

set_option maxRecDepth 100000 in
set_option maxHeartbeats 4000000 in
theorem join37s (b base : Nat) (o : Option Nat) (ws ds : List Nat) (dp : Value) (w : World) (h : SetAt w base b o ws) (hw : RdAt w dp ds) (hws : ws.length ≤ 1000000000) :
    Calls Tryd.prog 37 #[.pointer (some ⟨b, 0, none⟩), .pointer (some ⟨b, 0, none⟩), dp] w fun e w' => e = .returned (.bool false) ∧ w' = w := by
  obtain ⟨h0, h1, sa, co, hb, hs, hown⟩ := h
  obtain ⟨nu, hnu⟩ : ∃ q, q = ws.length := ⟨_, rfl⟩
  rw [← hnu] at hb hs hws
  have HNU := Lib.hid hnu
  have cb0 := hb.cell 0
  simp only [List.getElem?_toArray, List.getElem?_cons_zero] at cb0
  have H1 := Lib.hid h1
  have HS := Lib.hid hs
  have HRD := Lib.hid hw
  clear h1 hb hs hown hnu hw
  go_enter Tryd.func37, Tryd.ntmps37
  go_wp2_with fail
  go_loopw [7, 15] (fun z7 z wr => ∃ (i : Nat), i ≤ nu ∧ z = .int .i64 (i : Int) ∧ z7 = .bool false ∧ w = wr) (fun _ z _ => nu - (intOf z).toNat)
  case atStart => exact ⟨0, Nat.zero_le _, rfl, rfl, rfl⟩
  case round =>
    obtain ⟨i, hi, rfl, rfl, rfl⟩ := hrel
    by_cases hlt : i < nu
    · have hlti : (i : Int) < (nu : Int) := by omega
      obtain ⟨gt, rfl⟩ : ∃ g, sa = some ⟨g, 0, none⟩ := by
        rcases HS.out.form with ⟨e, _⟩ | ⟨g, cap, e, _⟩
        · simp only [Value.slice.injEq] at e
          omega
        · simp only [Value.slice.injEq] at e
          exact ⟨g, e.1⟩
      have hiu : i < ws.length := by rw [← HNU.out]; exact hlt
      have hgt := HS.out.cell wd_len i 0 hiu (by omega)
      simp only [Nat.mul_one, Nat.add_zero, wdC, List.getElem?_cons_zero] at hgt
      obtain ⟨x, hx⟩ : ∃ x, x = ws[i] := ⟨_, rfl⟩
      rw [← hx] at hgt
      have hx64 : x < 18446744073709551616 := by rw [hx]; exact H1.out _ (List.getElem_mem _)
      have hnle : ¬ (nu : Int) ≤ (i : Int) := by omega
      clear hx
      rcases HRD.out with ⟨rfl, hds⟩ | ⟨b3, base3, o3, rfl, d0, d1, s3, c3, hb3, hs3, hown3⟩
      · have hbn2 := bits_andN x x hx64 hx64
        rw [show andN x x = 0 by simp [andN]] at hbn2
        clear hds
        go_wp2_with fail
        go_roundw
        case rel => exact ⟨i + 1, by omega, by go_num, rfl, trivial⟩
        case measure => simp [intOf]; omega
      · obtain ⟨nd, hnd⟩ : ∃ q, q = ds.length := ⟨_, rfl⟩
        have cd := hb3.cell 0
        rw [← hnd] at cd hs3
        simp only [List.getElem?_toArray, List.getElem?_cons_zero] at cd
        by_cases hid : i < nd
        · have hidi : (i : Int) < (nd : Int) := by omega
          obtain ⟨g3, rfl⟩ : ∃ g, s3 = some ⟨g, 0, none⟩ := by
            rcases hs3.form with ⟨e, _⟩ | ⟨g, cap, e, _⟩
            · simp only [Value.slice.injEq] at e
              omega
            · simp only [Value.slice.injEq] at e
              exact ⟨g, e.1⟩
          have hdi : i < ds.length := by rw [← hnd]; exact hid
          have dcell := hs3.cell wd_len i 0 hdi (by omega)
          simp only [Nat.mul_one, Nat.add_zero, wdC, List.getElem?_cons_zero] at dcell
          obtain ⟨y, hy⟩ : ∃ y, y = ds[i] := ⟨_, rfl⟩
          rw [← hy] at dcell
          have hy64 : y < 18446744073709551616 := by rw [hy]; exact d1 _ (List.getElem_mem _)
          have hbn := bits_andN x y hx64 hy64
          obtain ⟨u, hu⟩ : ∃ u, u = andN x y := ⟨_, rfl⟩
          have hu64 : u < 18446744073709551616 := by rw [hu]; exact andN_lt _ _ hx64
          have hbn2 := bits_andN u x hu64 hx64
          rw [show andN u x = 0 by
            apply Nat.eq_of_testBit_eq
            intro j
            rw [hu, andN_bit, andN_bit, Nat.zero_testBit]
            cases x.testBit j <;> cases y.testBit j <;> rfl] at hbn2
          rw [← hu] at hbn
          clear hu hy hb3 hs3 hown3 hnd d0 d1
          go_wp2_with fail
          go_roundw
          case rel => exact ⟨i + 1, by omega, by go_num, rfl, trivial⟩
          case measure => simp [intOf]; omega
        · have hidi : ¬ (i : Int) < (nd : Int) := by omega
          have hbn2 := bits_andN x x hx64 hx64
          rw [show andN x x = 0 by simp [andN]] at hbn2
          clear hb3 hs3 hown3 hnd d0 d1
          go_wp2_with fail
          go_roundw
          case rel => exact ⟨i + 1, by omega, by go_num, rfl, trivial⟩
          case measure => simp [intOf]; omega
    · have hlti : ¬ (i : Int) < (nu : Int) := by omega
      clear hlt
      go_wp2_with fail
      go_ret
      exact ⟨rfl, rfl⟩
end Go.Proofs.YtekfnonjhcfdmaaDoor
