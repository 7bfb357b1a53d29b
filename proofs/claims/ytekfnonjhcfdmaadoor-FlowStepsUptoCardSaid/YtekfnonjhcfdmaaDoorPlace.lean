/- place, x. -/
import Derived.Test.YtekfnonjhcfdmaaDoorBig
import Derived.Deep.Cut
namespace Go.Proofs.YtekfnonjhcfdmaaDoor
open Go.RowKit Go.Rt Go.Rw

def arV (a : Ar) : Value := .agg #[.int .i64 a.k, .int .i64 a.n]
set_option maxRecDepth 100000 in
set_option maxHeartbeats 2000000 in
theorem place42 (a : Ar) (w : World) : Calls Tryd.prog 42 #[arV a] w (BoR (placeF a) w) := by
  obtain ⟨k, n⟩ := a
  obtain ⟨r, hr⟩ : ∃ r, r = placeF ⟨k, n⟩ := ⟨_, rfl⟩
  rw [← hr]
  unfold placeF at hr
  dsimp only at hr
  unfold arV
  have X := Lib.hid (Blk.new w 38 #[.int .i64 k, .int .i64 n])
  have B := Lib.hid ((Below.refl w.heap.size w).alloc (Nat.le_refl _) (.cells #[.int .i64 k, .int .i64 n] 38))
  by_cases hk : k = 1 ∨ k = 2 ∨ k = 4
  · rw [show (decide (k = 1) || (decide (k = 2) || decide (k = 4))) = true by rcases hk with h | h | h <;> subst h <;> rfl, Bool.true_and] at hr
    obtain ⟨p, hp⟩ : ∃ p, p = decide (0 ≤ n) := ⟨_, rfl⟩
    obtain ⟨q, hq⟩ : ∃ q, q = decide (n < 524288) := ⟨_, rfl⟩
    rw [← hp, ← hq] at hr
    have HR := Lib.hid hr
    have d1 := hp.symm
    have d2 := hq.symm
    clear hr hp hq
    rcases hk with h | h | h
    all_goals
      subst h
      cases p
      all_goals
        cases q
        all_goals
          obtain rfl := HR.out
          clear HR
          go_enter Tryd.func42, Tryd.ntmps42
          go_upto_region 1 with fail
          generalize w.alloc (.cells _ 38) = v0 at X B ⊢
          have c0 := X.out.cell 0
          have c1 := X.out.cell 1
          simp at c0 c1
          go_wp2_with fail
          go_ret
          exact ⟨rfl, B.out⟩
  · have e1 : (k == 1) = false := by rw [beq_eq_false_iff_ne]; omega
    have e2 : (k == 2) = false := by rw [beq_eq_false_iff_ne]; omega
    have e4 : (k == 4) = false := by rw [beq_eq_false_iff_ne]; omega
    obtain rfl : r = false := by
      rw [hr, decide_eq_false (show ¬ k = 1 by omega), decide_eq_false (show ¬ k = 2 by omega), decide_eq_false (show ¬ k = 4 by omega)]
      rfl
    clear hr hk
    go_enter Tryd.func42, Tryd.ntmps42
    go_upto_region 1 with fail
    generalize w.alloc (.cells _ 38) = v0 at X B ⊢
    have c0 := X.out.cell 0
    have c1 := X.out.cell 1
    simp at c0 c1
    go_wp2_with fail
    go_ret
    exact ⟨rfl, B.out⟩
set_option maxRecDepth 100000 in
set_option maxHeartbeats 2000000 in
theorem place44 (a : Ar) (w : World) : Calls Tryd.prog 44 #[arV a] w (BoR (placeF a) w) := by
  obtain ⟨k, n⟩ := a
  obtain ⟨r, hr⟩ : ∃ r, r = placeF ⟨k, n⟩ := ⟨_, rfl⟩
  rw [← hr]
  unfold placeF at hr
  dsimp only at hr
  unfold arV
  have X := Lib.hid (Blk.new w 38 #[.int .i64 k, .int .i64 n])
  have B := Lib.hid ((Below.refl w.heap.size w).alloc (Nat.le_refl _) (.cells #[.int .i64 k, .int .i64 n] 38))
  by_cases hk : k = 1 ∨ k = 2 ∨ k = 4
  · rw [show (decide (k = 1) || (decide (k = 2) || decide (k = 4))) = true by rcases hk with h | h | h <;> subst h <;> rfl, Bool.true_and] at hr
    obtain ⟨p, hp⟩ : ∃ p, p = decide (0 ≤ n) := ⟨_, rfl⟩
    obtain ⟨q, hq⟩ : ∃ q, q = decide (n < 524288) := ⟨_, rfl⟩
    rw [← hp, ← hq] at hr
    have HR := Lib.hid hr
    have d1 := hp.symm
    have d2 := hq.symm
    clear hr hp hq
    rcases hk with h | h | h
    all_goals
      subst h
      cases p
      all_goals
        cases q
        all_goals
          obtain rfl := HR.out
          clear HR
          go_enter Tryd.func44, Tryd.ntmps44
          go_upto_region 1 with fail
          generalize w.alloc (.cells _ 38) = v0 at X B ⊢
          have c0 := X.out.cell 0
          have c1 := X.out.cell 1
          simp at c0 c1
          go_wp2_with fail
          go_ret
          exact ⟨rfl, B.out⟩
  · have e1 : (k == 1) = false := by rw [beq_eq_false_iff_ne]; omega
    have e2 : (k == 2) = false := by rw [beq_eq_false_iff_ne]; omega
    have e4 : (k == 4) = false := by rw [beq_eq_false_iff_ne]; omega
    obtain rfl : r = false := by
      rw [hr, decide_eq_false (show ¬ k = 1 by omega), decide_eq_false (show ¬ k = 2 by omega), decide_eq_false (show ¬ k = 4 by omega)]
      rfl
    clear hr hk
    go_enter Tryd.func44, Tryd.ntmps44
    go_upto_region 1 with fail
    generalize w.alloc (.cells _ 38) = v0 at X B ⊢
    have c0 := X.out.cell 0
    have c1 := X.out.cell 1
    simp at c0 c1
    go_wp2_with fail
    go_ret
    exact ⟨rfl, B.out⟩
set_option maxRecDepth 100000 in
set_option maxHeartbeats 2000000 in
theorem x43 (n : Int) (w : World) : Calls Tryd.prog 43 #[.int .i64 n] w fun e w' => e = .returned (arV ⟨1, n⟩) ∧ Below w.heap.size w w' := by
  have X := Lib.hid (Blk.new w 38 #[.int .i64 0, .int .i64 0])
  have B := Lib.hid ((Below.refl w.heap.size w).alloc (Nat.le_refl _) (.cells #[.int .i64 0, .int .i64 0] 38))
  go_enter Tryd.func43, Tryd.ntmps43
  go_upto_region 1 with fail
  generalize w.alloc (.cells #[.int .i64 0, .int .i64 0] 38) = v0 at X B ⊢
  go_wp2_with (refine wpList_store_blk rfl 38 _ _ rfl rfl w.heap.size #[.int .i64 1, .int .i64 n] _ 38 rfl rfl X.out rfl (by kernel_rfl) (by simp [Value.oneCell']) ?_; intro v1 b1 o1)
  exact bodyPost_ret (results_blk rfl _ _ w.heap.size _ _ rfl b1 Tryd.underlying38 rfl (by kernel_rfl)) rfl ⟨rfl, B.out.trans (o1.below (by simp) B.out.size)⟩
set_option maxRecDepth 100000 in
set_option maxHeartbeats 2000000 in
theorem x45 (n : Int) (w : World) : Calls Tryd.prog 45 #[.int .i64 n] w fun e w' => e = .returned (arV ⟨1, n⟩) ∧ Below w.heap.size w w' := by
  have X := Lib.hid (Blk.new w 38 #[.int .i64 0, .int .i64 0])
  have B := Lib.hid ((Below.refl w.heap.size w).alloc (Nat.le_refl _) (.cells #[.int .i64 0, .int .i64 0] 38))
  go_enter Tryd.func45, Tryd.ntmps45
  go_upto_region 1 with fail
  generalize w.alloc (.cells #[.int .i64 0, .int .i64 0] 38) = v0 at X B ⊢
  go_wp2_with (refine wpList_store_blk rfl 38 _ _ rfl rfl w.heap.size #[.int .i64 1, .int .i64 n] _ 38 rfl rfl X.out rfl (by kernel_rfl) (by simp [Value.oneCell']) ?_; intro v1 b1 o1)
  exact bodyPost_ret (results_blk rfl _ _ w.heap.size _ _ rfl b1 Tryd.underlying38 rfl (by kernel_rfl)) rfl ⟨rfl, B.out.trans (o1.below (by simp) B.out.size)⟩
set_option maxRecDepth 100000 in
set_option maxHeartbeats 2000000 in
theorem x25 (n : Int) (w : World) : Calls Tryd.prog 25 #[.int .i64 n] w fun e w' => e = .returned (arV ⟨1, n⟩) ∧ Below w.heap.size w w' := by
  have X := Lib.hid (Blk.new w 38 #[.int .i64 0, .int .i64 0])
  have B := Lib.hid ((Below.refl w.heap.size w).alloc (Nat.le_refl _) (.cells #[.int .i64 0, .int .i64 0] 38))
  go_enter Tryd.func25, Tryd.ntmps25
  go_upto_region 1 with fail
  generalize w.alloc (.cells #[.int .i64 0, .int .i64 0] 38) = v0 at X B ⊢
  go_wp2_with (refine wpList_store_blk rfl 38 _ _ rfl rfl w.heap.size #[.int .i64 1, .int .i64 n] _ 38 rfl rfl X.out rfl (by kernel_rfl) (by simp [Value.oneCell']) ?_; intro v1 b1 o1)
  exact bodyPost_ret (results_blk rfl _ _ w.heap.size _ _ rfl b1 Tryd.underlying38 rfl (by kernel_rfl)) rfl ⟨rfl, B.out.trans (o1.below (by simp) B.out.size)⟩
set_option maxRecDepth 100000 in
set_option maxHeartbeats 2000000 in
theorem v24 (n : Int) (w : World) : Calls Tryd.prog 24 #[.int .i64 n] w fun e w' => e = .returned (arV ⟨4, n⟩) ∧ Below w.heap.size w w' := by
  have X := Lib.hid (Blk.new w 38 #[.int .i64 0, .int .i64 0])
  have B := Lib.hid ((Below.refl w.heap.size w).alloc (Nat.le_refl _) (.cells #[.int .i64 0, .int .i64 0] 38))
  go_enter Tryd.func24, Tryd.ntmps24
  go_upto_region 1 with fail
  generalize w.alloc (.cells #[.int .i64 0, .int .i64 0] 38) = v0 at X B ⊢
  go_wp2_with (refine wpList_store_blk rfl 38 _ _ rfl rfl w.heap.size #[.int .i64 4, .int .i64 n] _ 38 rfl rfl X.out rfl (by kernel_rfl) (by simp [Value.oneCell']) ?_; intro v1 b1 o1)
  exact bodyPost_ret (results_blk rfl _ _ w.heap.size _ _ rfl b1 Tryd.underlying38 rfl (by kernel_rfl)) rfl ⟨rfl, B.out.trans (o1.below (by simp) B.out.size)⟩
end Go.Proofs.YtekfnonjhcfdmaaDoor
