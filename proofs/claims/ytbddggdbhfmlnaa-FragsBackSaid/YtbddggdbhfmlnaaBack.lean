/- FragsBack: the walk. -/
import Derived.Test.YtbddggdbhfmlnaaCodes
namespace Go.Proofs.Ytbddggdbhfmlnaa
open Go.RowKit Go.Rt Go.Rw Go.Mp Go.Lib

theorem getF_cases (s : ByteArray) : (∃ (i l : Nat) (fi : Bool) (td : ByteArray), getF s = (((i : Int), fi, (l : Int), td), 0) ∧ validB i l td = true ∧ encF fi i l td = s) ∨ getF s = ((0, false, 0, ByteArray.empty), 6) := by
  cases h : formB s && validB (valK s 2 8) (valK s 10 8) (tailD s)
  · exact .inr (getF_no h)
  · rw [Bool.and_eq_true] at h
    exact .inl ⟨_, _, _, _, getF_yes (by rw [h.1, h.2]; rfl), h.2, enc_back s h.1⟩

set_option maxRecDepth 100000 in
set_option maxHeartbeats 1000000 in
theorem back_walk (id left : Int) (fi : Bool) (data s : ByteArray) (w : World) (hd : data.size ≤ 9223372036854775807) (hs : s.size ≤ 9223372036854775807) :
    Calls Try.prog 10 #[.agg #[.int .i64 id, .bool fi, .int .i64 left, .string data], .string s] w fun e w' => e = .returned (.bool true) ∧ Below w.heap.size w w' := by
  have HA := Lib.hid awake_any
  by_cases h1 : 10000 < data.size
  · have h1' : (10000 : Int) < data.size := by omega
    go_enter Try.func10, Try.ntmps10
    go_wp2_with fail
    refine (HA.out _).mono ?_
    rintro e w1 ⟨rfl, b1⟩
    have B1 := Lib.hid b1
    clear b1
    go_wp2_with fail
    go_ret
    exact ⟨rfl, ((Below.refl _ w).alloc (Nat.le_refl _) _).trans (B1.out.mono (by simp))⟩
  · by_cases h2 : 10000 < s.size
    · have h1' : ¬ (10000 : Int) < data.size := by omega
      have h2' : (10000 : Int) < s.size := by omega
      go_enter Try.func10, Try.ntmps10
      go_wp2_with fail
      refine (HA.out _).mono ?_
      rintro e w1 ⟨rfl, b1⟩
      have B1 := Lib.hid b1
      clear b1
      go_wp2_with fail
      go_ret
      exact ⟨rfl, ((Below.refl _ w).alloc (Nat.le_refl _) _).trans (B1.out.mono (by simp))⟩
    · have h1' : ¬ (10000 : Int) < data.size := by omega
      have h2' : ¬ (10000 : Int) < s.size := by omega
      have HG := Lib.hid (fun w => get_any s w hs)
      cases hv : validB id left data
      · have HP := Lib.hid (fun w => put_bad id left fi data w hd hv)
        have hcase : Hid (¬ 1 ≤ id ∨ (1 ≤ id ∧ ¬ id ≤ 2147483647) ∨ (1 ≤ id ∧ id ≤ 2147483647 ∧ ¬ 1 ≤ left) ∨ (1 ≤ id ∧ id ≤ 2147483647 ∧ 1 ≤ left ∧ ¬ left ≤ 262144) ∨ (1 ≤ id ∧ id ≤ 2147483647 ∧ 1 ≤ left ∧ left ≤ 262144 ∧ ¬ (data.size : Int) ≤ 4096)) := by
          refine Lib.hid ?_
          have := not_valid hv
          omega
        clear hv
        go_enter Try.func10, Try.ntmps10
        go_wp2_with fail
        have HX := Lib.hid (World.alloc_heap_new w (.cells #[.int .i64 id, .bool fi, .int .i64 left, .string data] 30))
        refine (HP.out _).mono ?_
        rintro e w1 ⟨rfl, b1⟩
        have B1 : Hid (Below w.heap.size w w1) := Lib.hid (((Below.refl _ w).alloc (Nat.le_refl _) _).trans (b1.mono (by simp)))
        have qR := (b1.block w.heap.size (by simp)).trans HX.out
        have v0 := cell_at qR 0
        have v1 := cell_at qR 1
        have v2 := cell_at qR 2
        have v3 := cell_at qR 3
        simp only [List.getElem?_toArray, List.getElem?_cons_zero, List.getElem?_cons_succ] at v0 v1 v2 v3
        have szR := (Array.getElem?_eq_some_iff.1 qR).1
        clear b1 qR HX
        rcases hcase.out with c1 | ⟨c1, c2⟩ | ⟨c1, c2, c3⟩ | ⟨c1, c2, c3, c4⟩ | ⟨c1, c2, c3, c4, c5⟩
        all_goals
          clear hcase
          go_wp2_with fail
          refine (HG.out _).mono ?_
          rintro e w2 ⟨rfl, b2⟩
          have B2 : Hid (Below w.heap.size w w2) := Lib.hid (B1.out.trans (b2.mono (by omega)))
          clear b2 v0 v1 v2 v3 szR B1
          rcases getF_cases s with ⟨i, l, fy, td, hg, hvy, he⟩ | hg
          · rw [hg]
            have HP2 := Lib.hid (fun w => put_ok i l fy td w hvy)
            rw [he] at HP2
            clear hg hvy he
            have sz2 := B2.out.size
            go_wp2_with fail
            have sz2 := B2.out.size
            refine (HP2.out _).mono ?_
            rintro e w3 ⟨rfl, b3⟩
            have B3 : Hid (Below w.heap.size w w3) := Lib.hid (B2.out.trans (((Below.refl _ w2).alloc sz2 _).trans (b3.mono (by simp; omega))))
            clear b3 B2 sz2
            have sz3 := B3.out.size
            go_wp2_with fail
            refine (HA.out _).mono ?_
            rintro e w4 ⟨rfl, b4⟩
            have B4 : Hid (Below w.heap.size w w4) := Lib.hid (B3.out.trans (b4.mono sz3))
            clear b4 B3
            go_wp2_with fail
            go_ret
            exact ⟨rfl, B4.out⟩
          · rw [hg]
            clear hg
            have sz2 := B2.out.size
            go_wp2_with fail
            refine (HA.out _).mono ?_
            rintro e w4 ⟨rfl, b4⟩
            have B4 : Hid (Below w.heap.size w w4) := Lib.hid (B2.out.trans (((Below.refl _ w2).alloc sz2 _).trans (b4.mono (by simp; omega))))
            clear b4 B2
            go_wp2_with fail
            go_ret
            exact ⟨rfl, B4.out⟩
      · obtain ⟨g1, g2, g3, g4, g5⟩ := valid_of hv
        obtain ⟨i0, rfl⟩ := Int.eq_ofNat_of_zero_le (show 0 ≤ id by omega)
        obtain ⟨l0, rfl⟩ := Int.eq_ofNat_of_zero_le (show 0 ≤ left by omega)
        have g5' : (data.size : Int) ≤ 4096 := by omega
        have HP := Lib.hid (fun w => put_ok i0 l0 fi data w hv)
        have HG0 := Lib.hid (fun w => get_any (encF fi i0 l0 data) w (by rw [enc_size]; omega))
        rw [get_enc fi i0 l0 data hv] at HG0
        obtain ⟨en, hen⟩ : ∃ en, en = encF fi i0 l0 data := ⟨_, rfl⟩
        rw [← hen] at HP HG0
        clear hv hen
        have q2 : ((i0 : Int) == (i0 : Int)) = true := beq_self_eq_true _
        have q4 : (fi == fi) = true := beq_self_eq_true _
        have q5 : ((l0 : Int) == (l0 : Int)) = true := beq_self_eq_true _
        go_enter Try.func10, Try.ntmps10
        go_wp2_with fail
        have HX := Lib.hid (World.alloc_heap_new w (.cells #[.int .i64 i0, .bool fi, .int .i64 l0, .string data] 30))
        refine (HP.out _).mono ?_
        rintro e w1 ⟨rfl, b1⟩
        have B1 : Hid (Below w.heap.size w w1) := Lib.hid (((Below.refl _ w).alloc (Nat.le_refl _) _).trans (b1.mono (by simp)))
        have HR := Lib.hid ((b1.block w.heap.size (by simp)).trans HX.out)
        have v0 := cell_at HR.out 0
        have v1 := cell_at HR.out 1
        have v2 := cell_at HR.out 2
        have v3 := cell_at HR.out 3
        simp only [List.getElem?_toArray, List.getElem?_cons_zero, List.getElem?_cons_succ] at v0 v1 v2 v3
        have szR := (Array.getElem?_eq_some_iff.1 HR.out).1
        clear b1 HX
        go_wp2_with fail
        refine (HG0.out _).mono ?_
        rintro e w2 ⟨rfl, b2⟩
        have B2 : Hid (Below w.heap.size w w2) := Lib.hid (B1.out.trans (b2.mono (by omega)))
        have HR2 := Lib.hid ((b2.block w.heap.size szR).trans HR.out)
        clear v0 v1 v2 v3 szR HR b2 B1
        have v0 := cell_at HR2.out 0
        have v1 := cell_at HR2.out 1
        have v2 := cell_at HR2.out 2
        have v3 := cell_at HR2.out 3
        simp only [List.getElem?_toArray, List.getElem?_cons_zero, List.getElem?_cons_succ] at v0 v1 v2 v3
        have szR := (Array.getElem?_eq_some_iff.1 HR2.out).1
        clear HR2
        go_wp2_with fail
        refine (HG.out _).mono ?_
        rintro e w4 ⟨rfl, b4⟩
        have B4 : Hid (Below w.heap.size w w4) := Lib.hid (B2.out.trans (((Below.refl _ w2).alloc B2.out.size _).trans (b4.mono (by simp; omega))))
        clear b4 v0 v1 v2 v3 szR B2
        rcases getF_cases s with ⟨i, l, fy, td, hg, hvy, he⟩ | hg
        · rw [hg]
          have HP2 := Lib.hid (fun w => put_ok i l fy td w hvy)
          rw [he] at HP2
          clear hg hvy he
          have sz4 := B4.out.size
          go_wp2_with fail
          have sz4 := B4.out.size
          refine (HP2.out _).mono ?_
          rintro e w5 ⟨rfl, b5⟩
          have B5 : Hid (Below w.heap.size w w5) := Lib.hid (B4.out.trans (((Below.refl _ w4).alloc sz4 _).trans (b5.mono (by simp; omega))))
          clear b5 B4 sz4
          have sz5 := B5.out.size
          go_wp2_with fail
          refine (HA.out _).mono ?_
          rintro e w6 ⟨rfl, b6⟩
          have B6 : Hid (Below w.heap.size w w6) := Lib.hid (B5.out.trans (b6.mono sz5))
          clear b6 B5
          go_wp2_with fail
          go_ret
          exact ⟨rfl, B6.out⟩
        · rw [hg]
          clear hg
          have sz4 := B4.out.size
          go_wp2_with fail
          refine (HA.out _).mono ?_
          rintro e w6 ⟨rfl, b6⟩
          have B6 : Hid (Below w.heap.size w w6) := Lib.hid (B4.out.trans (((Below.refl _ w4).alloc sz4 _).trans (b6.mono (by simp; omega))))
          clear b6 B4
          go_wp2_with fail
          go_ret
          exact ⟨rfl, B6.out⟩
end Go.Proofs.Ytbddggdbhfmlnaa
