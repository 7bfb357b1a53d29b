/- kit.KeptList, kit.Kept. -/
import Derived.Test.YtcpdmlnodhokmaaLend
namespace Go.Proofs.Ytcpdmlnodhokmaa
open Go.RowKit Go.Rt Go.Rw

def KR (w : World) (e : Ending) (w' : World) : Prop := e = .returned (.bool true) ∧ Below w.heap.size w w'
theorem slice_at_cap (W : World) (g n cap k : Nat) (h2 : k ≤ cap) : (Instr.slice 23 (.slice (some ⟨g, 0, none⟩) n cap) none (some (.int .i64 (k : Int))) none).run Try.prog W = .ok (.slice (some ⟨g, 0, none⟩) k cap) W := by
  rw [run_slice_h (P := Try.prog) W 23 (some ⟨g, 0, none⟩) n cap Try.underlying23 .i64 k (by omega) (by omega)]
  simp [go_sem, sliced, Result.andThen]
theorem PairAt.drewP {S : Nat → Prop} {w : World} {t : Tm} {y x : Ft} (h : PairAt S w t y x) : PairAt S w.drew t y x := h.below (Below.refl _ _).drew
set_option maxRecDepth 100000 in
set_option maxHeartbeats 2000000 in
theorem keptl_core (S : Nat → Prop) (l : List Tm) (yv xv : Value) (w : World) (h : PairV S w l yv xv)
    (ih : ∀ t ∈ l, ∀ (y x : Ft) (W : World), PairAt S W t y x → Calls Try.prog 24 #[ftV y, ftV x] W (KR W)) : Calls Try.prog 39 #[yv, xv] w (KR w) := by
  rcases h with ⟨rfl, ⟨c, rfl⟩, rfl⟩ | ⟨a, c, g, cap, Ys, Xs, rfl, rfl, h3, h4, h5, h6, h7, h8, h9, h10⟩
  · have he : ∀ W : World, (binOp .eql 23 (.slice none 0 c) (.slice none 0 0)).run Try.prog W = .ok (.bool true) W := fun _ => rfl
    clear ih
    go_enter Try.func39, Try.ntmps39
    go_wp2_with fail
    go_ret
    exact ⟨rfl, Below.refl _ _⟩
  · obtain ⟨hy, hx⟩ := h10.length
    obtain ⟨n, hn⟩ : ∃ n, n = l.length := ⟨_, rfl⟩
    rw [← hn] at h3 h7 h8 h9 hy hx ⊢
    have HN := Lib.hid hn
    have HY := Lib.hid hy
    have HX := Lib.hid hx
    have HP := Lib.hid h10
    have HG := Lib.hid h6
    have HS8 := Lib.hid h8
    have IH := Lib.hid ih
    have h7' := h7
    rw [show n + 2 = (Ys ++ [mkFt, mkFt]).length from by rw [List.length_append, hy]; rfl] at h7'
    obtain ⟨b0, o0, e0, _, hc7⟩ := h7'.get (by rw [List.length_append, hy]; simp)
    cases e0
    have M0 : ∀ j, j < 9 → w.cell? ⟨g, n * 9 + j, none⟩ = (ftC mkFt)[j]? := fun j hj => by
      have h := hc7 n j (by rw [List.length_append, hy]; simp) hj
      rw [Nat.zero_add, List.getElem_append_right (by omega)] at h
      simp only [hy, Nat.sub_self, List.getElem_cons_zero] at h
      exact h
    have M1 : ∀ j, j < 9 → w.cell? ⟨g, (n + 1) * 9 + j, none⟩ = (ftC mkFt)[j]? := fun j hj => by
      have h := hc7 (n + 1) j (by rw [List.length_append, hy]; simp) hj
      rw [Nat.zero_add, List.getElem_append_right (by omega)] at h
      simp only [hy, Nat.add_sub_cancel_left, List.getElem_cons_succ, List.getElem_cons_zero] at h
      exact h
    have HC7 : Hid (∀ i j (hi : i < Ys.length), j < 9 → w.cell? ⟨g, i * 9 + j, none⟩ = (ftC Ys[i])[j]?) := Lib.hid (fun i j hi hj => by
      have h := hc7 i j (by rw [List.length_append]; omega) hj
      rw [Nat.zero_add, List.getElem_append_left hi] at h
      exact h)
    have HS0 : Hid (∀ W, Below w.heap.size w W → (W.cell? ⟨g, n * 9, none⟩ = some (.int .i64 (-7)) ∧ W.cell? ⟨g, n * 9 + 1, none⟩ = some (.int .i64 4711) ∧ W.cell? ⟨g, n * 9 + 2, none⟩ = some (.int .i64 0) ∧ W.cell? ⟨g, n * 9 + 3, none⟩ = some (.string ⟨#[115, 112, 97, 114, 101]⟩) ∧ W.cell? ⟨g, n * 9 + 4, none⟩ = some (.string ⟨#[]⟩) ∧ W.cell? ⟨g, n * 9 + 5, none⟩ = some (.int .i64 0) ∧ W.cell? ⟨g, n * 9 + 6, none⟩ = some (.slice none 0 0) ∧ W.cell? ⟨g, n * 9 + 7, none⟩ = some (.string ⟨#[]⟩) ∧ W.cell? ⟨g, n * 9 + 8, none⟩ = some (.int .i64 0) ∧ W.cell? ⟨g, (n + 1) * 9, none⟩ = some (.int .i64 (-7)) ∧ W.cell? ⟨g, (n + 1) * 9 + 1, none⟩ = some (.int .i64 4711) ∧ W.cell? ⟨g, (n + 1) * 9 + 2, none⟩ = some (.int .i64 0) ∧ W.cell? ⟨g, (n + 1) * 9 + 3, none⟩ = some (.string ⟨#[115, 112, 97, 114, 101]⟩) ∧ W.cell? ⟨g, (n + 1) * 9 + 4, none⟩ = some (.string ⟨#[]⟩) ∧ W.cell? ⟨g, (n + 1) * 9 + 5, none⟩ = some (.int .i64 0) ∧ W.cell? ⟨g, (n + 1) * 9 + 6, none⟩ = some (.slice none 0 0) ∧ W.cell? ⟨g, (n + 1) * 9 + 7, none⟩ = some (.string ⟨#[]⟩) ∧ W.cell? ⟨g, (n + 1) * 9 + 8, none⟩ = some (.int .i64 0))) := Lib.hid (fun W bw => by
      obtain ⟨p0, p1, p2, p3, p4, p5, p6, p7, p8⟩ := cells9 (W := W) (b := g) (p := n * 9) (x := mkFt) (fun j hj => by rw [← M0 j hj]; exact bw.cell (p := ⟨g, _, none⟩) h6)
      obtain ⟨q0, q1, q2, q3, q4, q5, q6, q7, q8⟩ := cells9 (W := W) (b := g) (p := (n + 1) * 9) (x := mkFt) (fun j hj => by rw [← M1 j hj]; exact bw.cell (p := ⟨g, _, none⟩) h6)
      exact ⟨p0, p1, p2, p3, p4, p5, p6, p7, p8, q0, q1, q2, q3, q4, q5, q6, q7, q8⟩)
    have hw2 : IntKind.i64.wrap ((n : Int) + 2) = (n : Int) + 2 := by rw [IntKind.wrap_i64]; omega
    have hw1 : IntKind.i64.wrap ((n : Int) + 1) = (n : Int) + 1 := by rw [IntKind.wrap_i64]; omega
    have d2 : decide ((cap : Int) < (n : Int) + 2) = false := decide_eq_false (by omega)
    have hsl : ∀ W, (Instr.slice 23 (.slice (some ⟨g, 0, none⟩) n cap) none (some (.int .i64 ((n : Int) + 2))) none).run Try.prog W = .ok (.slice (some ⟨g, 0, none⟩) (n + 2) cap) W := fun W => slice_at_cap W g n cap (n + 2) h3
    have he : ∀ W : World, (binOp .eql 23 (.slice (some a) n c) (.slice none 0 0)).run Try.prog W = .ok (.bool false) W := fun _ => rfl
    have CM := Lib.hid mark_any
    have CS := Lib.hid (fun (W : World) => same_any mkTm mkTm (fun _ => True) (fun _ => True) mkFt mkFt W (mk_at _ _) (mk_at _ _))
    rw [(eqT_iff mkTm mkTm).2 rfl] at CS
    unfold ftV mkFt mkFl spareB noB at CM CS
    dsimp only at CM CS
    have l1 : (n : Int) < (n : Int) + 2 := by omega
    have l2 : (n : Int) + 1 < (n : Int) + 2 := by omega
    have l3 : (0 : Int) ≤ (n : Int) + 1 := by omega
    have hn63 : n < 9223372036854775806 := by omega
    clear hn hy hx h5 h6 h7 h7' h8 h9 h10 hc7 M0 M1 ih h4
    go_enter Try.func39, Try.ntmps39
    go_upto_region 8 with fail
    refine wp_region_held_drew (S := (fun w' => w'.cell? ⟨g, n * 9, none⟩ = some (.int .i64 (-7)) ∧ w'.cell? ⟨g, n * 9 + 1, none⟩ = some (.int .i64 4711) ∧ w'.cell? ⟨g, n * 9 + 2, none⟩ = some (.int .i64 0) ∧ w'.cell? ⟨g, n * 9 + 3, none⟩ = some (.string ⟨#[115, 112, 97, 114, 101]⟩) ∧ w'.cell? ⟨g, n * 9 + 4, none⟩ = some (.string ⟨#[]⟩) ∧ w'.cell? ⟨g, n * 9 + 5, none⟩ = some (.int .i64 0) ∧ w'.cell? ⟨g, n * 9 + 6, none⟩ = some (.slice none 0 0) ∧ w'.cell? ⟨g, n * 9 + 7, none⟩ = some (.string ⟨#[]⟩) ∧ w'.cell? ⟨g, n * 9 + 8, none⟩ = some (.int .i64 0) ∧ w'.cell? ⟨g, (n + 1) * 9, none⟩ = some (.int .i64 (-7)) ∧ w'.cell? ⟨g, (n + 1) * 9 + 1, none⟩ = some (.int .i64 4711) ∧ w'.cell? ⟨g, (n + 1) * 9 + 2, none⟩ = some (.int .i64 0) ∧ w'.cell? ⟨g, (n + 1) * 9 + 3, none⟩ = some (.string ⟨#[115, 112, 97, 114, 101]⟩) ∧ w'.cell? ⟨g, (n + 1) * 9 + 4, none⟩ = some (.string ⟨#[]⟩) ∧ w'.cell? ⟨g, (n + 1) * 9 + 5, none⟩ = some (.int .i64 0) ∧ w'.cell? ⟨g, (n + 1) * 9 + 6, none⟩ = some (.slice none 0 0) ∧ w'.cell? ⟨g, (n + 1) * 9 + 7, none⟩ = some (.string ⟨#[]⟩) ∧ w'.cell? ⟨g, (n + 1) * 9 + 8, none⟩ = some (.int .i64 0))) (by kernel_rfl) (HS0.out _ (Below.refl _ _).drew) (fun hS => ?_)
    have B_0 : Hid (Below w.heap.size w w.drew) := Lib.hid (Below.refl _ _).drew
    clear hsl he d2
    generalize w.drew = v0 at *
    refine wpAnyH_take (i := 0) (v := ?_) rfl (by kernel_rfl) (by kernel_rfl) (by kernel_rfl) (fun _ _ _ h => h) (Or.inl ⟨by rfl, ?_⟩) (by assumption) ?_
    rotate_left
    · intro w hSw
      go_simp
      with_reducible rfl
    change wpAnyH _ _ _ _ _ _ _ (Act.put _ (some 25) _) _
    simp only [Act.put, List.setIfInBounds_toArray, List.set_cons_zero, List.set_cons_succ]
    refine wpAnyH_take (i := 1) (v := ?_) rfl (by kernel_rfl) (by kernel_rfl) (by kernel_rfl) (fun _ _ _ h => h) (Or.inl ⟨by rfl, ?_⟩) (by assumption) ?_
    rotate_left
    · intro w hSw
      go_simp
      with_reducible rfl
    change wpAnyH _ _ _ _ _ _ _ (Act.put _ (some 26) _) _
    simp only [Act.put, List.setIfInBounds_toArray, List.set_cons_zero, List.set_cons_succ]
    refine wpAnyH_take (i := 2) (v := ?_) rfl (by kernel_rfl) (by kernel_rfl) (by kernel_rfl) (fun _ _ _ h => h) (Or.inl ⟨by rfl, ?_⟩) (by assumption) ?_
    rotate_left
    · intro w hSw
      go_simp
      with_reducible rfl
    change wpAnyH _ _ _ _ _ _ _ (Act.put _ (some 27) _) _
    simp only [Act.put, List.setIfInBounds_toArray, List.set_cons_zero, List.set_cons_succ]
    refine wpAnyH_take (i := 3) (v := ?_) rfl (by kernel_rfl) (by kernel_rfl) (by kernel_rfl) (fun _ _ _ h => h) (Or.inl ⟨by rfl, ?_⟩) (by assumption) ?_
    rotate_left
    · intro w hSw
      go_simp
      with_reducible rfl
    change wpAnyH _ _ _ _ _ _ _ (Act.put _ (some 28) _) _
    simp only [Act.put, List.setIfInBounds_toArray, List.set_cons_zero, List.set_cons_succ]
    refine wpAnyH_take (i := 4) (v := ?_) rfl (by kernel_rfl) (by kernel_rfl) (by kernel_rfl) (fun _ _ _ h => h) (Or.inl ⟨by rfl, ?_⟩) (by assumption) ?_
    rotate_left
    · intro w hSw
      go_simp
      with_reducible rfl
    change wpAnyH _ _ _ _ _ _ _ (Act.put _ (some 29) _) _
    simp only [Act.put, List.setIfInBounds_toArray, List.set_cons_zero, List.set_cons_succ]
    refine wpAnyH_ready (rs := [5]) (by kernel_rfl) (by simp) ?_
    refine AllReadyH.cons rfl (fun K hK => ?_) AllReadyH.nil
    go_simp
    refine (CM.out v0).mono ?_
    rintro e v1 ⟨rfl, bb⟩
    have B_1 := Lib.hid (B_0.out.trans (bb.mono B_0.out.size))
    clear bb B_0
    go_wp2_with fail
    refine hK.out _ _ (HS0.out _ B_1.out) (fun hS => ?_)
    clear hK K
    try simp only [Act.put, List.setIfInBounds_toArray, List.set_cons_zero, List.set_cons_succ]
    refine wpAnyH_ready (rs := [6]) (by kernel_rfl) (by simp) ?_
    refine AllReadyH.cons rfl (fun K hK => ?_) AllReadyH.nil
    go_simp
    refine (CS.out v1).mono ?_
    rintro e v2 ⟨rfl, bb⟩
    have B_2 := Lib.hid (B_1.out.trans (bb.mono B_1.out.size))
    clear bb B_1
    go_wp2_with fail
    refine hK.out _ _ (HS0.out _ B_2.out) (fun hS => ?_)
    clear hK K
    try simp only [Act.put, List.setIfInBounds_toArray, List.set_cons_zero, List.set_cons_succ]
    refine wpAnyH_take (i := 7) (v := ?_) rfl (by kernel_rfl) (by kernel_rfl) (by kernel_rfl) (fun _ _ _ h => h) (Or.inl ⟨by rfl, ?_⟩) (by assumption) ?_
    rotate_left
    · intro w hSw
      go_simp
      with_reducible rfl
    change wpAnyH _ _ _ _ _ _ _ (Act.put _ (some 32) _) _
    simp only [Act.put, List.setIfInBounds_toArray, List.set_cons_zero, List.set_cons_succ]
    refine wpAnyH_take (i := 8) (v := ?_) rfl (by kernel_rfl) (by kernel_rfl) (by kernel_rfl) (fun _ _ _ h => h) (Or.inl ⟨by rfl, ?_⟩) (by assumption) ?_
    rotate_left
    · intro w hSw
      go_simp
      with_reducible rfl
    change wpAnyH _ _ _ _ _ _ _ (Act.put _ (some 33) _) _
    simp only [Act.put, List.setIfInBounds_toArray, List.set_cons_zero, List.set_cons_succ]
    refine wpAnyH_take (i := 9) (v := ?_) rfl (by kernel_rfl) (by kernel_rfl) (by kernel_rfl) (fun _ _ _ h => h) (Or.inl ⟨by rfl, ?_⟩) (by assumption) ?_
    rotate_left
    · intro w hSw
      go_simp
      with_reducible rfl
    change wpAnyH _ _ _ _ _ _ _ (Act.put _ (some 34) _) _
    simp only [Act.put, List.setIfInBounds_toArray, List.set_cons_zero, List.set_cons_succ]
    refine wpAnyH_take (i := 10) (v := ?_) rfl (by kernel_rfl) (by kernel_rfl) (by kernel_rfl) (fun _ _ _ h => h) (Or.inl ⟨by rfl, ?_⟩) (by assumption) ?_
    rotate_left
    · intro w hSw
      go_simp
      with_reducible rfl
    change wpAnyH _ _ _ _ _ _ _ (Act.put _ (some 35) _) _
    simp only [Act.put, List.setIfInBounds_toArray, List.set_cons_zero, List.set_cons_succ]
    refine wpAnyH_take (i := 11) (v := ?_) rfl (by kernel_rfl) (by kernel_rfl) (by kernel_rfl) (fun _ _ _ h => h) (Or.inl ⟨by rfl, ?_⟩) (by assumption) ?_
    rotate_left
    · intro w hSw
      go_simp
      with_reducible rfl
    change wpAnyH _ _ _ _ _ _ _ (Act.put _ (some 36) _) _
    simp only [Act.put, List.setIfInBounds_toArray, List.set_cons_zero, List.set_cons_succ]
    refine wpAnyH_take (i := 12) (v := ?_) rfl (by kernel_rfl) (by kernel_rfl) (by kernel_rfl) (fun _ _ _ h => h) (Or.inl ⟨by rfl, ?_⟩) (by assumption) ?_
    rotate_left
    · intro w hSw
      go_simp
      with_reducible rfl
    change wpAnyH _ _ _ _ _ _ _ (Act.put _ (some 37) _) _
    simp only [Act.put, List.setIfInBounds_toArray, List.set_cons_zero, List.set_cons_succ]
    refine wpAnyH_take (i := 13) (v := ?_) rfl (by kernel_rfl) (by kernel_rfl) (by kernel_rfl) (fun _ _ _ h => h) (Or.inl ⟨by rfl, ?_⟩) (by assumption) ?_
    rotate_left
    · intro w hSw
      go_simp
      with_reducible rfl
    change wpAnyH _ _ _ _ _ _ _ (Act.put _ (some 38) _) _
    simp only [Act.put, List.setIfInBounds_toArray, List.set_cons_zero, List.set_cons_succ]
    refine wpAnyH_take (i := 14) (v := ?_) rfl (by kernel_rfl) (by kernel_rfl) (by kernel_rfl) (fun _ _ _ h => h) (Or.inl ⟨by rfl, ?_⟩) (by assumption) ?_
    rotate_left
    · intro w hSw
      go_simp
      with_reducible rfl
    change wpAnyH _ _ _ _ _ _ _ (Act.put _ (some 39) _) _
    simp only [Act.put, List.setIfInBounds_toArray, List.set_cons_zero, List.set_cons_succ]
    refine wpAnyH_ready (rs := [15]) (by kernel_rfl) (by simp) ?_
    refine AllReadyH.cons rfl (fun K hK => ?_) AllReadyH.nil
    go_simp
    refine (CM.out v2).mono ?_
    rintro e v3 ⟨rfl, bb⟩
    have B_3 := Lib.hid (B_2.out.trans (bb.mono B_2.out.size))
    clear bb B_2
    go_wp2_with fail
    refine hK.out _ _ (HS0.out _ B_3.out) (fun hS => ?_)
    clear hK K
    try simp only [Act.put, List.setIfInBounds_toArray, List.set_cons_zero, List.set_cons_succ]
    refine wpAnyH_ready (rs := [16]) (by kernel_rfl) (by simp) ?_
    refine AllReadyH.cons rfl (fun K hK => ?_) AllReadyH.nil
    go_simp
    refine (CS.out v3).mono ?_
    rintro e v4 ⟨rfl, bb⟩
    have B_4 := Lib.hid (B_3.out.trans (bb.mono B_3.out.size))
    clear bb B_3
    go_wp2_with fail
    refine hK.out _ _ (HS0.out _ B_4.out) (fun hS => ?_)
    clear hK K
    try simp only [Act.put, List.setIfInBounds_toArray, List.set_cons_zero, List.set_cons_succ]
    refine wpAnyH_take (i := 17) (v := ?_) rfl (by kernel_rfl) (by kernel_rfl) (by kernel_rfl) (fun _ _ _ h => h) (Or.inl ⟨by rfl, ?_⟩) (by assumption) ?_
    rotate_left
    · intro w hSw
      go_simp
      with_reducible rfl
    change wpAnyH _ _ _ _ _ _ _ (Act.put _ (some 42) _) _
    simp only [Act.put, List.setIfInBounds_toArray, List.set_cons_zero, List.set_cons_succ]
    refine wpAnyH_take (i := 18) (v := ?_) rfl (by kernel_rfl) (by kernel_rfl) (by kernel_rfl) (fun _ _ _ h => h) (Or.inl ⟨by rfl, ?_⟩) (by assumption) ?_
    rotate_left
    · intro w hSw
      go_simp
      with_reducible rfl
    change wpAnyH _ _ _ _ _ _ _ (Act.put _ (some 43) _) _
    simp only [Act.put, List.setIfInBounds_toArray, List.set_cons_zero, List.set_cons_succ]
    refine wpAnyH_done (by kernel_rfl) ?_ _
    clear hS CM CS l1 l2 l3
    go_wp2_with fail
    go_loopw [6] (fun i wr => ∃ k : Nat, k ≤ n ∧ i = .int .i64 k ∧ Hid (Below w.heap.size w wr)) (fun i _ => n - (intOf i).toNat)
    case atStart => exact ⟨0, Nat.zero_le _, rfl, B_4⟩
    case round =>
      obtain ⟨k, hk, rfl, BW⟩ := hrel
      clear B_4
      by_cases hlt : k < n
      · have hkl : k < l.length := by rw [← HN.out]; exact hlt
        have hky : k < Ys.length := by rw [HY.out]; exact hlt
        have hkx : k < Xs.length := by rw [HX.out]; exact hlt
        have hs1 : SlAt w 9 ftC (.slice (some a) n c) Xs := HS8.out
        rw [show n = Xs.length from HX.out.symm] at hs1
        obtain ⟨b2, o2, hab, hb2, hcx⟩ := hs1.get (by omega)
        obtain rfl : a = ⟨b2, o2, none⟩ := by cases hab; rfl
        have hp := HP.out.get k hkl hky hkx
        obtain ⟨t, ht⟩ : ∃ t, t = l[k] := ⟨_, rfl⟩
        obtain ⟨y, hyk⟩ : ∃ y, y = Ys[k] := ⟨_, rfl⟩
        obtain ⟨x, hxk⟩ : ∃ x, x = Xs[k] := ⟨_, rfl⟩
        rw [← ht, ← hyk, ← hxk] at hp
        have A1 := Lib.hid (hp.below BW.out).drewP
        have BD := Lib.hid BW.out.drew
        obtain ⟨p0, p1, p2, p3, p4, p5, p6, p7, p8⟩ := cells9 (W := wr) (b := g) (p := k * 9) (x := y) (fun j hj => by rw [hyk, ← HC7.out k j hky hj]; exact BW.out.cell (p := ⟨g, _, none⟩) HG.out)
        obtain ⟨q0, q1, q2, q3, q4, q5, q6, q7, q8⟩ := cells9 (W := wr) (b := b2) (p := o2 + k * 9) (x := x) (fun j hj => by rw [hxk, ← hcx k j hkx hj]; exact BW.out.cell (p := ⟨b2, _, none⟩) hb2)
        have IK := Lib.hid (fun W => IH.out t (by rw [ht]; exact List.getElem_mem hkl) y x W)
        unfold ftV at IK
        clear hs1 hab hcx hp ht hyk hxk
        go_wp2_with fail
        go_still_tail 8, (by kernel_rfl)
        change wpList _ _ _ _ _ wr.drew
        clear p0 p1 p2 p3 p4 p5 p6 p7 p8 q0 q1 q2 q3 q4 q5 q6 q7 q8 BW
        generalize wr.drew = w3 at A1 BD ⊢
        go_wp2_with fail
        refine (IK.out _ A1.out).mono ?_
        rintro e w4 ⟨rfl, b4⟩
        have B4 := Lib.hid (BD.out.trans (b4.mono BD.out.size))
        clear b4 A1
        go_wp2_with fail
        go_roundw
        case rel => exact ⟨k + 1, by omega, by go_num, B4⟩
        case measure => simp [intOf]; omega
      · go_wp2_with fail
        go_ret
        exact ⟨rfl, BW.out⟩
set_option maxRecDepth 100000 in
set_option maxHeartbeats 2000000 in
theorem kept_core (S : Nat → Prop) (t : Tm) (y x : Ft) (w : World) (h : PairAt S w t y x) (CL : Hid (∀ W, Below w.heap.size w W → Calls Try.prog 39 #[y.v, x.v] W (KR W))) : Calls Try.prog 24 #[ftV y, ftV x] w (KR w) := by
  obtain ⟨e1, e2, pv⟩ := h.its
  obtain ⟨⟨sy, cy, vy⟩, sx, cx, vx⟩ := pv.form
  obtain ⟨yf, yv⟩ := y
  obtain ⟨xf, xv⟩ := x
  dsimp only at e1 e2 vy vx CL
  obtain rfl : yf = xf := e1.trans e2.symm
  subst vy vx
  obtain ⟨n, hn⟩ : ∃ n, n = t.l.length := ⟨_, rfl⟩
  rw [← hn] at CL ⊢
  clear hn pv e1 e2 h
  unfold ftV
  have CS := Lib.hid (fun (W : World) => same_any (.mk yf []) (.mk yf []) (fun _ => True) (fun _ => True) ⟨yf, .slice none 0 0⟩ ⟨yf, .slice none 0 0⟩ W (TmAt.of rfl (ItsAt.nil none 0)) (TmAt.of rfl (ItsAt.nil none 0)))
  rw [(eqT_iff _ _).2 rfl] at CS
  unfold ftV at CS
  dsimp only at CS
  have Y_0 := Lib.hid ((Blk.new w 25 #[.int .i64 yf.k, .int .i64 yf.n, .int .i64 yf.g, .string yf.nm, .string yf.fn, .int .i64 yf.ar, .slice sy n cy, .string yf.bs, .int .i64 yf.bt]).alloc (.cells #[.int .i64 yf.k, .int .i64 yf.n, .int .i64 yf.g, .string yf.nm, .string yf.fn, .int .i64 yf.ar, .slice sx n cx, .string yf.bs, .int .i64 yf.bt] 25))
  have x0 := Blk.new (w.alloc (.cells #[.int .i64 yf.k, .int .i64 yf.n, .int .i64 yf.g, .string yf.nm, .string yf.fn, .int .i64 yf.ar, .slice sy n cy, .string yf.bs, .int .i64 yf.bt] 25)) 25 #[.int .i64 yf.k, .int .i64 yf.n, .int .i64 yf.g, .string yf.nm, .string yf.fn, .int .i64 yf.ar, .slice sx n cx, .string yf.bs, .int .i64 yf.bt]
  have B_0 := Lib.hid (((Below.refl w.heap.size w).alloc (Nat.le_refl _) (.cells #[.int .i64 yf.k, .int .i64 yf.n, .int .i64 yf.g, .string yf.nm, .string yf.fn, .int .i64 yf.ar, .slice sy n cy, .string yf.bs, .int .i64 yf.bt] 25)).alloc (by simp) (.cells #[.int .i64 yf.k, .int .i64 yf.n, .int .i64 yf.g, .string yf.nm, .string yf.fn, .int .i64 yf.ar, .slice sx n cx, .string yf.bs, .int .i64 yf.bt] 25))
  simp only [World.size_alloc] at x0
  have X_0 := Lib.hid x0
  clear x0
  go_enter Try.func24, Try.ntmps24
  go_upto_region 1 with fail
  generalize (w.alloc (.cells #[.int .i64 yf.k, .int .i64 yf.n, .int .i64 yf.g, .string yf.nm, .string yf.fn, .int .i64 yf.ar, .slice sy n cy, .string yf.bs, .int .i64 yf.bt] 25)).alloc (.cells #[.int .i64 yf.k, .int .i64 yf.n, .int .i64 yf.g, .string yf.nm, .string yf.fn, .int .i64 yf.ar, .slice sx n cx, .string yf.bs, .int .i64 yf.bt] 25) = v0 at X_0 Y_0 B_0 ⊢
  refine wp_region_held_drew (S := (fun w' => w'.cell? ⟨w.heap.size, 6, none⟩ = some (.slice sy n cy) ∧ w'.cell? ⟨w.heap.size + 1, 6, none⟩ = some (.slice sx n cx))) (by kernel_rfl) (⟨Y_0.out.drew.cell 6, X_0.out.drew.cell 6⟩) (fun hS => ?_)
  have X_1 := Lib.hid X_0.out.drew
  have Y_1 := Lib.hid Y_0.out.drew
  have B_1 := Lib.hid (B_0.out.trans (show Below w.heap.size v0 v0.drew from (Below.refl _ _).drew))
  clear X_0 Y_0 B_0
  generalize v0.drew = v1 at *
  refine wpAnyH_take (i := 0) (v := ?_) rfl (by kernel_rfl) (by kernel_rfl) (by kernel_rfl) (fun _ _ _ h => h) (Or.inl ⟨by rfl, ?_⟩) (by assumption) ?_
  rotate_left
  · intro w hSw
    go_simp
    with_reducible rfl
  change wpAnyH _ _ _ _ _ _ _ (Act.put _ (some 7) _) _
  simp only [Act.put, List.setIfInBounds_toArray, List.set_cons_zero, List.set_cons_succ]
  refine wpAnyH_take (i := 1) (v := ?_) rfl (by kernel_rfl) (by kernel_rfl) (by kernel_rfl) (fun _ _ _ h => h) (Or.inl ⟨by rfl, ?_⟩) (by assumption) ?_
  rotate_left
  · intro w hSw
    go_simp
    with_reducible rfl
  change wpAnyH _ _ _ _ _ _ _ (Act.put _ (some 8) _) _
  simp only [Act.put, List.setIfInBounds_toArray, List.set_cons_zero, List.set_cons_succ]
  refine wpAnyH_take (i := 2) (v := ?_) rfl (by kernel_rfl) (by kernel_rfl) (by kernel_rfl) (fun _ _ _ h => h) (Or.inl ⟨by rfl, ?_⟩) (by assumption) ?_
  rotate_left
  · intro w hSw
    go_simp
    with_reducible rfl
  change wpAnyH _ _ _ _ _ _ _ (Act.put _ (some 9) _) _
  simp only [Act.put, List.setIfInBounds_toArray, List.set_cons_zero, List.set_cons_succ]
  refine wpAnyH_take (i := 3) (v := ?_) rfl (by kernel_rfl) (by kernel_rfl) (by kernel_rfl) (fun _ _ _ h => h) (Or.inl ⟨by rfl, ?_⟩) (by assumption) ?_
  rotate_left
  · intro w hSw
    go_simp
    with_reducible rfl
  change wpAnyH _ _ _ _ _ _ _ (Act.put _ (some 10) _) _
  simp only [Act.put, List.setIfInBounds_toArray, List.set_cons_zero, List.set_cons_succ]
  refine wpAnyH_take (i := 4) (v := ?_) rfl (by kernel_rfl) (by kernel_rfl) (by kernel_rfl) (fun _ _ _ h => h) (Or.inl ⟨by rfl, ?_⟩) (by assumption) ?_
  rotate_left
  · intro w hSw
    go_simp
    with_reducible rfl
  change wpAnyH _ _ _ _ _ _ _ (Act.put _ (some 5) _) _
  simp only [Act.put, List.setIfInBounds_toArray, List.set_cons_zero, List.set_cons_succ]
  refine wpAnyH_take (i := 5) (v := ?_) rfl (by kernel_rfl) (by kernel_rfl) (by kernel_rfl) (fun _ _ _ h => h) (Or.inl ⟨by rfl, ?_⟩) (by assumption) ?_
  rotate_left
  · intro w hSw
    go_simp
    with_reducible rfl
  change wpAnyH _ _ _ _ _ _ _ (Act.put _ (some 6) _) _
  simp only [Act.put, List.setIfInBounds_toArray, List.set_cons_zero, List.set_cons_succ]
  refine wpAnyH_done (by kernel_rfl) ?_ _
  clear hS
  go_wp2_with (refine wpList_store_fld rfl 23 _ _ rfl rfl w.heap.size 6 _ 25 (.slice none 0 0) rfl rfl Y_1.out (Nat.le_of_ble_eq_true rfl) (by kernel_rfl) rfl ?_)
  intro v2 ev
  have Y_2 := Lib.hid (show Blk v2 w.heap.size 25 #[.int .i64 yf.k, .int .i64 yf.n, .int .i64 yf.g, .string yf.nm, .string yf.fn, .int .i64 yf.ar, .slice none 0 0, .string yf.bs, .int .i64 yf.bt] by rw [ev]; exact Y_1.out.set_ 6 _)
  have X_2 := Lib.hid (show Blk v2 (w.heap.size + 1) 25 #[.int .i64 yf.k, .int .i64 yf.n, .int .i64 yf.g, .string yf.nm, .string yf.fn, .int .i64 yf.ar, .slice sx n cx, .string yf.bs, .int .i64 yf.bt] by rw [ev]; exact X_1.out.far (by simp) _)
  have B_2 := Lib.hid (B_1.out.trans (show Below w.heap.size v1 v2 by rw [ev]; exact (Below.refl w.heap.size v1).setCell (show w.heap.size ≤ (⟨w.heap.size, 6, none⟩ : Addr).block from Nat.le_refl _) _))
  clear ev Y_1 X_1 B_1
  go_wp2_with (refine wpList_store_fld rfl 23 _ _ rfl rfl (w.heap.size + 1) 6 _ 25 (.slice none 0 0) rfl rfl X_2.out (Nat.le_of_ble_eq_true rfl) (by kernel_rfl) rfl ?_)
  intro v3 ev
  have X_3 := Lib.hid (show Blk v3 (w.heap.size + 1) 25 #[.int .i64 yf.k, .int .i64 yf.n, .int .i64 yf.g, .string yf.nm, .string yf.fn, .int .i64 yf.ar, .slice none 0 0, .string yf.bs, .int .i64 yf.bt] by rw [ev]; exact X_2.out.set_ 6 _)
  have Y_3 := Lib.hid (show Blk v3 w.heap.size 25 #[.int .i64 yf.k, .int .i64 yf.n, .int .i64 yf.g, .string yf.nm, .string yf.fn, .int .i64 yf.ar, .slice none 0 0, .string yf.bs, .int .i64 yf.bt] by rw [ev]; exact Y_2.out.far (by simp) _)
  have B_3 := Lib.hid (B_2.out.trans (show Below w.heap.size v2 v3 by rw [ev]; exact (Below.refl w.heap.size v2).setCell (show w.heap.size ≤ (⟨w.heap.size + 1, 6, none⟩ : Addr).block from Nat.le_succ _) _))
  clear ev Y_2 X_2 B_2
  go_wp2_with (first
    | (refine wpList_load_blk rfl 25 _ rfl w.heap.size rfl _ 25 _ Y_3.out Try.underlying25 rfl info25 ?_)
    | (refine wpList_load_blk rfl 25 _ rfl (w.heap.size + 1) rfl _ 25 _ X_3.out Try.underlying25 rfl info25 ?_))
  refine (CS.out v3).mono ?_
  rintro e v4 ⟨rfl, bb⟩
  have B_4 := Lib.hid (B_3.out.trans (bb.mono B_3.out.size))
  clear bb B_3 X_3 Y_3 CS
  go_wp2_with fail
  refine (CL.out v4 B_4.out).mono ?_
  rintro e v5 ⟨rfl, bb⟩
  have B_5 := Lib.hid (B_4.out.trans (bb.mono B_4.out.size))
  clear bb B_4 CL
  go_wp2_with fail
  go_ret
  exact ⟨rfl, B_5.out⟩
theorem kept_any : ∀ (t : Tm) (S : Nat → Prop) (y x : Ft) (w : World), PairAt S w t y x → Calls Try.prog 24 #[ftV y, ftV x] w (KR w) := by
  intro t
  induction t using Tm.ind with
  | h f l ih =>
    intro S y x w h
    exact kept_core S _ y x w h (Lib.hid fun W bW => keptl_core S l y.v x.v W (h.its.2.2.below bW) (fun t ht y x W' h' => ih t ht S y x W' h'))
end Go.Proofs.Ytcpdmlnodhokmaa
