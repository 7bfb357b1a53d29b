/- Defs. -/
import Derived.Test.YtekfnonjhcfdmaaDoorPlace
import Derived.Deep.RegionWith
import Derived.Deep.DeepCutAuto
import Derived.Deep.RegionHeld
import Derived.StillTailTactics
import Derived.Deep.RegionHeld
namespace Go.Proofs.YtekfnonjhcfdmaaDoor
open Go.RowKit Go.Rt Go.Rw

/-- A list of operands that is returned. -/
def ArsR (L : List Ar) (w : World) (e : Ending) (w' : World) : Prop := Below w.heap.size w w' ∧ ∃ v, e = .returned v ∧ Sl w' w.heap.size 38 2 arC v L
theorem sl_push_ar {W : World} {B : Nat} {v : Value} {L : List Ar} (h : Sl W B 38 2 arC v L) (a : Ar) (b : Nat) (hb : Blk W b 38 (arC a).toArray) (hl : L.length + 1 ≤ 1000000000) (hbase : B ≤ W.heap.size) :
    ∃ (g cap : Nat) (W2 : World), (Builtin.append_ #[35, 35] 35 #[v, .slice (some ⟨b, 0, none⟩) 1 1]).run Tryd.prog W = .ok (.slice (some ⟨g, 0, none⟩) (L.length + 1) cap) W2 ∧ Sl W2 B 38 2 arC (.slice (some ⟨g, 0, none⟩) (L.length + 1) cap) (L ++ [a]) ∧ W.grownBy W2 v.ownBlock ∧ (v.ownBlock = some g ∨ W.heap.size ≤ g) :=
  h.push (t := 35) (ty := 35) (bytes := 16) (z := .agg #[.int .i64 0, .int .i64 0]) Tryd.underlying35 (by kernel_rfl) (by rfl) (by decide) (fun _ => rfl) (fun a u hu => by simp [arC] at hu; rcases hu with rfl | rfl <;> rfl) a hb (by omega) (by omega) hbase 1
set_option maxRecDepth 100000 in
set_option maxHeartbeats 2000000 in
theorem defs21 (f : Im) (w : World) (hf : ImAt w f) : Calls Tryd.prog 21 #[imV f] w (ArsR (defsF f.x) w) := by
  obtain ⟨_, s1, c1, e1⟩ := hf.src.len
  obtain ⟨_, s2, c2, e2⟩ := hf.cases.len
  obtain ⟨_, s3, c3, e3⟩ := hf.segs.len
  obtain ⟨⟨op, ⟨dk, dn⟩, src, goal, n, live, name, cas, segs⟩, sv, cv, gv⟩ := f
  dsimp only at e1 e2 e3
  obtain ⟨n1, hn1⟩ : ∃ n, n = src.length := ⟨_, rfl⟩
  obtain ⟨n2, hn2⟩ : ∃ n, n = cas.length := ⟨_, rfl⟩
  obtain ⟨n3, hn3⟩ : ∃ n, n = segs.length := ⟨_, rfl⟩
  rw [← hn1] at e1
  rw [← hn2] at e2
  rw [← hn3] at e3
  subst e1 e2 e3
  clear hn1 hn2 hn3 hf
  unfold imV
  dsimp only
  obtain ⟨R, hR⟩ : ∃ R, R = defsF ⟨op, ⟨dk, dn⟩, src, goal, n, live, name, cas, segs⟩ := ⟨_, rfl⟩
  rw [← hR]
  unfold defsF at hR
  dsimp only at hR
  have CP := Lib.hid (fun (W : World) => place42 ⟨dk, dn⟩ W)
  have CX := Lib.hid (fun (W : World) => x43 0 W)
  obtain ⟨p, hp⟩ : ∃ p, p = placeF ⟨dk, dn⟩ := ⟨_, rfl⟩
  rw [← hp] at CP hR
  have HR := Lib.hid hR
  unfold arV at CP CX
  dsimp only at CP CX
  clear hp hR
  have X := Lib.hid (Blk.new w 42 #[.int .i64 op, .int .i64 dk, .int .i64 dn, .slice s1 n1 c1, .int .i64 goal, .int .i64 n, .int .i64 live, .string name, .slice s2 n2 c2, .slice s3 n3 c3])
  have B := Lib.hid ((Below.refl w.heap.size w).alloc (Nat.le_refl _) (.cells #[.int .i64 op, .int .i64 dk, .int .i64 dn, .slice s1 n1 c1, .int .i64 goal, .int .i64 n, .int .i64 live, .string name, .slice s2 n2 c2, .slice s3 n3 c3] 42))
  go_enter Tryd.func21, Tryd.ntmps21
  go_upto_region 2 with fail
  generalize w.alloc (.cells #[.int .i64 op, .int .i64 dk, .int .i64 dn, .slice s1 n1 c1, .int .i64 goal, .int .i64 n, .int .i64 live, .string name, .slice s2 n2 c2, .slice s3 n3 c3] 42) = v0 at X B ⊢
  have HL : Hid (w.heap.size + 1 ≤ v0.heap.size) := Lib.hid X.out.lt
  have q1 : v0.cell? ⟨w.heap.size, 1, none⟩ = some (.int .i64 dk) := X.out.cell 1
  have q2 : v0.cell? ⟨w.heap.size, 2, none⟩ = some (.int .i64 dn) := X.out.cell 2
  go_wp2_with fail
  refine (CP.out _).mono ?_
  rintro e v1 ⟨rfl, b1⟩
  have X1 := Lib.hid (X.out.below b1 X.out.lt)
  have B1 := Lib.hid (B.out.trans (b1.mono B.out.size))
  have q1 : v1.cell? ⟨w.heap.size, 1, none⟩ = some (.int .i64 dk) := X1.out.cell 1
  have q2 : v1.cell? ⟨w.heap.size, 2, none⟩ = some (.int .i64 dn) := X1.out.cell 2
  clear q1 q2
  go_upto_if 6 with fail
  go_cut [3] (fun z3 wx => ∃ (L : List Ar) (so : Option Addr) (co : Nat), z3 = .slice so L.length co ∧ Hid (L = if p then [⟨dk, dn⟩] else []) ∧ Hid (Sl wx (w.heap.size + 1) 38 2 arC (.slice so L.length co) L) ∧ Hid (Blk wx w.heap.size 42 #[.int .i64 op, .int .i64 dk, .int .i64 dn, .slice s1 n1 c1, .int .i64 goal, .int .i64 n, .int .i64 live, .string name, .slice s2 n2 c2, .slice s3 n3 c3]) ∧ Hid (Below w.heap.size w wx))
  case first =>
    have q1 : v1.cell? ⟨w.heap.size, 1, none⟩ = some (.int .i64 dk) := X1.out.cell 1
    have q2 : v1.cell? ⟨w.heap.size, 2, none⟩ = some (.int .i64 dn) := X1.out.cell 2
    cases p with
    | false =>
      go_wp2_with fail
      go_meet
      exact ⟨[], none, 0, rfl, Lib.hid rfl, Lib.hid (Sl.nil _ _ _ _ _), X1, B1⟩
    | true =>
      have hsz : w.heap.size + 1 ≤ v1.heap.size := by have := HL.out; have := b1.size; omega
      obtain ⟨g, cap, W2, hrun, sl2, hgrow, _⟩ := sl_push_ar (Sl.nil (v1.alloc (.cells #[.int .i64 dk, .int .i64 dn] 38)) (w.heap.size + 1) 38 2 arC) ⟨dk, dn⟩ v1.heap.size (Blk.new v1 38 _) (by simp) (by simp; omega)
      have X2 := Lib.hid (show Blk W2 w.heap.size 42 #[.int .i64 op, .int .i64 dk, .int .i64 dn, .slice s1 n1 c1, .int .i64 goal, .int .i64 n, .int .i64 live, .string name, .slice s2 n2 c2, .slice s3 n3 c3] from (hgrow.block w.heap.size (by simp; omega) (by simp [Value.ownBlock])).trans (X1.out.alloc _))
      have B2 : Hid (Below w.heap.size w W2) := Lib.hid (B1.out.trans ⟨hgrow.os, hgrow.tape, hgrow.output, by have := hgrow.size; simp at this; omega, fun j hj => (hgrow.block j (by simp; omega) (by simp [Value.ownBlock])).trans (Below.heap_alloc _ _ _ (by omega))⟩)
      have HRN := Lib.hid hrun
      have SL2 := Lib.hid sl2
      clear hrun sl2 hgrow b1
      go_wp2_with (at_builtin; refine wpList_append_run rfl _ _ 35 35 rfl rfl rfl HRN.out ?_)
      go_wp2_with fail
      go_meet
      exact ⟨[⟨dk, dn⟩], _, _, rfl, Lib.hid rfl, SL2, X2, B2⟩
  case rest =>
    obtain ⟨L, so, co, rfl, HLL, HSL, HX, HBX⟩ := hcut
    have q0 : wc.cell? ⟨w.heap.size, 0, none⟩ = some (.int .i64 op) := HX.out.cell 0
    clear X1 B1 X B b1
    go_upto_if 14 with fail
    clear q0
    go_cut [14] (fun z14 wy => z14 = .bool (giveOp op) ∧ wc = wy)
    case first =>
      by_cases h15 : op = 15
      · subst h15
        go_wp2_with fail
        go_meet
        exact ⟨rfl, rfl⟩
      · have e15 : (op == 15) = false := by rw [beq_eq_false_iff_ne]; exact h15
        by_cases h16 : op = 16
        · subst h16
          go_wp2_with fail
          go_meet
          exact ⟨rfl, rfl⟩
        · have e16 : (op == 16) = false := by rw [beq_eq_false_iff_ne]; exact h16
          by_cases h18 : op = 18
          · subst h18
            go_wp2_with fail
            go_meet
            exact ⟨rfl, rfl⟩
          · have e18 : (op == 18) = false := by rw [beq_eq_false_iff_ne]; exact h18
            by_cases h20 : op = 20
            · subst h20
              go_wp2_with fail
              go_meet
              exact ⟨rfl, rfl⟩
            · have e20 : (op == 20) = false := by rw [beq_eq_false_iff_ne]; exact h20
              by_cases h22 : op = 22
              · subst h22
                go_wp2_with fail
                go_meet
                exact ⟨rfl, rfl⟩
              · have e22 : (op == 22) = false := by rw [beq_eq_false_iff_ne]; exact h22
                by_cases h37 : op = 37
                · subst h37
                  go_wp2_with fail
                  go_meet
                  exact ⟨rfl, rfl⟩
                · have e37 : (op == 37) = false := by rw [beq_eq_false_iff_ne]; exact h37
                  have hg : giveOp op = false := by unfold giveOp; simp [h15, h16, h18, h20, h22, h37]
                  clear h15 h16 h18 h20 h22 h37
                  go_wp2_with fail
                  go_meet
                  exact ⟨by rw [hg], rfl⟩
    case rest =>
      obtain ⟨rfl, rfl⟩ := hcut
      obtain ⟨g, hg⟩ : ∃ g, g = giveOp op := ⟨_, rfl⟩
      rw [← hg] at HR ⊢
      clear hg q1 q2 CP
      cases g with
      | false =>
        obtain rfl : R = L := by rw [HR.out, HLL.out]; simp
        clear HR HLL
        go_wp2_with fail
        go_ret
        exact ⟨HBX.out, _, rfl, HSL.out.mono (by omega)⟩
      | true =>
        go_upto_region 11 with fail
        refine wp_region_held_drew (S := (fun w' => w'.cell? ⟨w.heap.size, 1, none⟩ = some (.int .i64 dk) ∧ w'.cell? ⟨w.heap.size, 2, none⟩ = some (.int .i64 dn))) (by kernel_rfl) (⟨HX.out.drew.cell 1, HX.out.drew.cell 2⟩) (fun hS => ?_)
        have BD := Lib.hid HBX.out.drew
        have SD := Lib.hid (HSL.out.same (w' := wc.drew) (Nat.le_refl _) (fun _ _ => rfl))
        have XD := Lib.hid HX.out.drew
        clear HBX HSL HX
        generalize wc.drew = w3 at *
        refine wpAnyH_take (i := 0) (v := ?_) rfl (by kernel_rfl) (by kernel_rfl) (by kernel_rfl) (fun _ _ _ h => h) (Or.inl ⟨by rfl, ?_⟩) (by assumption) ?_
        rotate_left
        · intro w hSw
          go_simp
          with_reducible rfl
        change wpAnyH _ _ _ _ _ _ _ (Act.put _ (some 21) _) _
        simp only [Act.put, List.setIfInBounds_toArray, List.set_cons_zero, List.set_cons_succ]
        refine wpAnyH_take (i := 1) (v := ?_) rfl (by kernel_rfl) (by kernel_rfl) (by kernel_rfl) (fun _ _ _ h => h) (Or.inl ⟨by rfl, ?_⟩) (by assumption) ?_
        rotate_left
        · intro w hSw
          go_simp
          with_reducible rfl
        change wpAnyH _ _ _ _ _ _ _ (Act.put _ (some 22) _) _
        simp only [Act.put, List.setIfInBounds_toArray, List.set_cons_zero, List.set_cons_succ]
        refine wpAnyH_ready (rs := [2]) (by kernel_rfl) (by simp) ?_
        refine AllReadyH.cons rfl (fun K hK => ?_) AllReadyH.nil
        go_simp
        refine (CX.out w3).mono ?_
        rintro e w4 ⟨rfl, b4⟩
        have X4 := Lib.hid (XD.out.below b4 XD.out.lt)
        have B4 := Lib.hid (BD.out.trans (b4.mono BD.out.size))
        have S4 := Lib.hid (SD.out.below b4 (fun g hg => (SD.out.lt g hg).2))
        clear b4 XD BD SD
        go_wp2_with fail
        refine hK.out _ _ (⟨X4.out.cell 1, X4.out.cell 2⟩) (fun hS => ?_)
        clear hK K
        try simp only [Act.put, List.setIfInBounds_toArray, List.set_cons_zero, List.set_cons_succ]
        by_cases hk : dk = 1
        · subst hk
          by_cases hn : dn = 0
          · subst hn
            obtain rfl : R = L := by rw [HR.out, HLL.out]; simp
            clear HR HLL
            refine wpAnyH_take (i := 3) (v := ?_) rfl (by kernel_rfl) (by kernel_rfl) (by kernel_rfl) (fun _ _ _ h => h) (Or.inl ⟨by rfl, ?_⟩) (by assumption) ?_
            rotate_left
            · intro w hSw
              go_simp
              with_reducible rfl
            change wpAnyH _ _ _ _ _ _ _ (Act.put _ (some 24) _) _
            simp only [Act.put, List.setIfInBounds_toArray, List.set_cons_zero, List.set_cons_succ]
            refine wpAnyH_done (by kernel_rfl) ?_ _
            go_wp2_with fail
            go_ret
            exact ⟨B4.out, _, rfl, S4.out.mono (by omega)⟩
          · have dd : (dn == 0) = false := by rw [beq_eq_false_iff_ne]; exact hn
            obtain rfl : R = L ++ [⟨1, 0⟩] := by rw [HR.out, HLL.out]; simp [hn]
            clear HR hn
            refine wpAnyH_take (i := 3) (v := ?_) rfl (by kernel_rfl) (by kernel_rfl) (by kernel_rfl) (fun _ _ _ h => h) (Or.inl ⟨by rfl, ?_⟩) (by assumption) ?_
            rotate_left
            · intro w hSw
              go_simp
              with_reducible rfl
            change wpAnyH _ _ _ _ _ _ _ (Act.put _ (some 24) _) _
            simp only [Act.put, List.setIfInBounds_toArray, List.set_cons_zero, List.set_cons_succ]
            refine wpAnyH_done (by kernel_rfl) ?_ _
            go_wp2_with fail
            refine (CX.out w4).mono ?_
            rintro e w5 ⟨rfl, b5⟩
            have B5 := Lib.hid (B4.out.trans (b5.mono B4.out.size))
            have S5 := Lib.hid (S4.out.below b5 (fun g hg => (S4.out.lt g hg).2))
            have hsz : w.heap.size + 1 ≤ w5.heap.size := by have := X4.out.lt; have := b5.size; omega
            have hL1 : L.length ≤ 1 := by rw [HLL.out]; split <;> simp
            obtain ⟨g, cap, W6, hrun, sl6, hgrow, _⟩ := sl_push_ar (S5.out.only (bs := []) (Only.alloc [] w5 (.cells #[.int .i64 1, .int .i64 0] 38)) (fun g hg hm => by cases hm)) ⟨1, 0⟩ w5.heap.size (Blk.new w5 38 _) (by omega) (by simp; omega)
            have B6 : Hid (Below w.heap.size w W6) := Lib.hid (B5.out.trans ⟨hgrow.os, hgrow.tape, hgrow.output, by have := hgrow.size; simp at this; omega, fun j hj => (hgrow.block j (by simp; omega) (fun e => by have := (S5.out.lt j e.symm).1; omega)).trans (Below.heap_alloc _ _ _ (by omega))⟩)
            have SL6 := Lib.hid sl6
            have HRN := Lib.hid hrun
            clear hrun sl6 hgrow b5 B5 S5 hsz hL1 HLL
            go_wp2_with (at_builtin; refine wpList_append_run rfl _ _ 35 35 rfl rfl rfl HRN.out ?_)
            go_wp2_with fail
            go_ret
            exact ⟨B6.out, _, rfl, SL6.out.mono (by omega)⟩
        · have dd : (dk == 1) = false := by rw [beq_eq_false_iff_ne]; exact hk
          obtain rfl : R = L ++ [⟨1, 0⟩] := by rw [HR.out, HLL.out]; simp [hk]
          clear HR hk
          refine wpAnyH_take (i := 3) (v := ?_) rfl (by kernel_rfl) (by kernel_rfl) (by kernel_rfl) (fun _ _ _ h => h) (Or.inl ⟨by rfl, ?_⟩) (by assumption) ?_
          rotate_left
          · intro w hSw
            go_simp
            with_reducible rfl
          change wpAnyH _ _ _ _ _ _ _ (Act.put _ (some 24) _) _
          simp only [Act.put, List.setIfInBounds_toArray, List.set_cons_zero, List.set_cons_succ]
          refine wpAnyH_done (by kernel_rfl) ?_ _
          go_wp2_with fail
          refine (CX.out w4).mono ?_
          rintro e w5 ⟨rfl, b5⟩
          have B5 := Lib.hid (B4.out.trans (b5.mono B4.out.size))
          have S5 := Lib.hid (S4.out.below b5 (fun g hg => (S4.out.lt g hg).2))
          have hsz : w.heap.size + 1 ≤ w5.heap.size := by have := X4.out.lt; have := b5.size; omega
          have hL1 : L.length ≤ 1 := by rw [HLL.out]; split <;> simp
          obtain ⟨g, cap, W6, hrun, sl6, hgrow, _⟩ := sl_push_ar (S5.out.only (bs := []) (Only.alloc [] w5 (.cells #[.int .i64 1, .int .i64 0] 38)) (fun g hg hm => by cases hm)) ⟨1, 0⟩ w5.heap.size (Blk.new w5 38 _) (by omega) (by simp; omega)
          have B6 : Hid (Below w.heap.size w W6) := Lib.hid (B5.out.trans ⟨hgrow.os, hgrow.tape, hgrow.output, by have := hgrow.size; simp at this; omega, fun j hj => (hgrow.block j (by simp; omega) (fun e => by have := (S5.out.lt j e.symm).1; omega)).trans (Below.heap_alloc _ _ _ (by omega))⟩)
          have SL6 := Lib.hid sl6
          have HRN := Lib.hid hrun
          clear hrun sl6 hgrow b5 B5 S5 hsz hL1 HLL
          go_wp2_with (at_builtin; refine wpList_append_run rfl _ _ 35 35 rfl rfl rfl HRN.out ?_)
          go_wp2_with fail
          go_ret
          exact ⟨B6.out, _, rfl, SL6.out.mono (by omega)⟩
set_option maxRecDepth 100000 in
set_option maxHeartbeats 2000000 in
theorem defs22 (f : Im) (w : World) (hf : ImAt w f) : Calls Tryd.prog 22 #[imV f] w (ArsR (defsF f.x) w) := by
  obtain ⟨_, s1, c1, e1⟩ := hf.src.len
  obtain ⟨_, s2, c2, e2⟩ := hf.cases.len
  obtain ⟨_, s3, c3, e3⟩ := hf.segs.len
  obtain ⟨⟨op, ⟨dk, dn⟩, src, goal, n, live, name, cas, segs⟩, sv, cv, gv⟩ := f
  dsimp only at e1 e2 e3
  obtain ⟨n1, hn1⟩ : ∃ n, n = src.length := ⟨_, rfl⟩
  obtain ⟨n2, hn2⟩ : ∃ n, n = cas.length := ⟨_, rfl⟩
  obtain ⟨n3, hn3⟩ : ∃ n, n = segs.length := ⟨_, rfl⟩
  rw [← hn1] at e1
  rw [← hn2] at e2
  rw [← hn3] at e3
  subst e1 e2 e3
  clear hn1 hn2 hn3 hf
  unfold imV
  dsimp only
  obtain ⟨R, hR⟩ : ∃ R, R = defsF ⟨op, ⟨dk, dn⟩, src, goal, n, live, name, cas, segs⟩ := ⟨_, rfl⟩
  rw [← hR]
  unfold defsF at hR
  dsimp only at hR
  have CP := Lib.hid (fun (W : World) => place44 ⟨dk, dn⟩ W)
  have CX := Lib.hid (fun (W : World) => x45 0 W)
  obtain ⟨p, hp⟩ : ∃ p, p = placeF ⟨dk, dn⟩ := ⟨_, rfl⟩
  rw [← hp] at CP hR
  have HR := Lib.hid hR
  unfold arV at CP CX
  dsimp only at CP CX
  clear hp hR
  have X := Lib.hid (Blk.new w 42 #[.int .i64 op, .int .i64 dk, .int .i64 dn, .slice s1 n1 c1, .int .i64 goal, .int .i64 n, .int .i64 live, .string name, .slice s2 n2 c2, .slice s3 n3 c3])
  have B := Lib.hid ((Below.refl w.heap.size w).alloc (Nat.le_refl _) (.cells #[.int .i64 op, .int .i64 dk, .int .i64 dn, .slice s1 n1 c1, .int .i64 goal, .int .i64 n, .int .i64 live, .string name, .slice s2 n2 c2, .slice s3 n3 c3] 42))
  go_enter Tryd.func22, Tryd.ntmps22
  go_upto_region 2 with fail
  generalize w.alloc (.cells #[.int .i64 op, .int .i64 dk, .int .i64 dn, .slice s1 n1 c1, .int .i64 goal, .int .i64 n, .int .i64 live, .string name, .slice s2 n2 c2, .slice s3 n3 c3] 42) = v0 at X B ⊢
  have HL : Hid (w.heap.size + 1 ≤ v0.heap.size) := Lib.hid X.out.lt
  have q1 : v0.cell? ⟨w.heap.size, 1, none⟩ = some (.int .i64 dk) := X.out.cell 1
  have q2 : v0.cell? ⟨w.heap.size, 2, none⟩ = some (.int .i64 dn) := X.out.cell 2
  go_wp2_with fail
  refine (CP.out _).mono ?_
  rintro e v1 ⟨rfl, b1⟩
  have X1 := Lib.hid (X.out.below b1 X.out.lt)
  have B1 := Lib.hid (B.out.trans (b1.mono B.out.size))
  have q1 : v1.cell? ⟨w.heap.size, 1, none⟩ = some (.int .i64 dk) := X1.out.cell 1
  have q2 : v1.cell? ⟨w.heap.size, 2, none⟩ = some (.int .i64 dn) := X1.out.cell 2
  clear q1 q2
  go_upto_if 6 with fail
  go_cut [3] (fun z3 wx => ∃ (L : List Ar) (so : Option Addr) (co : Nat), z3 = .slice so L.length co ∧ Hid (L = if p then [⟨dk, dn⟩] else []) ∧ Hid (Sl wx (w.heap.size + 1) 38 2 arC (.slice so L.length co) L) ∧ Hid (Blk wx w.heap.size 42 #[.int .i64 op, .int .i64 dk, .int .i64 dn, .slice s1 n1 c1, .int .i64 goal, .int .i64 n, .int .i64 live, .string name, .slice s2 n2 c2, .slice s3 n3 c3]) ∧ Hid (Below w.heap.size w wx))
  case first =>
    have q1 : v1.cell? ⟨w.heap.size, 1, none⟩ = some (.int .i64 dk) := X1.out.cell 1
    have q2 : v1.cell? ⟨w.heap.size, 2, none⟩ = some (.int .i64 dn) := X1.out.cell 2
    cases p with
    | false =>
      go_wp2_with fail
      go_meet
      exact ⟨[], none, 0, rfl, Lib.hid rfl, Lib.hid (Sl.nil _ _ _ _ _), X1, B1⟩
    | true =>
      have hsz : w.heap.size + 1 ≤ v1.heap.size := by have := HL.out; have := b1.size; omega
      obtain ⟨g, cap, W2, hrun, sl2, hgrow, _⟩ := sl_push_ar (Sl.nil (v1.alloc (.cells #[.int .i64 dk, .int .i64 dn] 38)) (w.heap.size + 1) 38 2 arC) ⟨dk, dn⟩ v1.heap.size (Blk.new v1 38 _) (by simp) (by simp; omega)
      have X2 := Lib.hid (show Blk W2 w.heap.size 42 #[.int .i64 op, .int .i64 dk, .int .i64 dn, .slice s1 n1 c1, .int .i64 goal, .int .i64 n, .int .i64 live, .string name, .slice s2 n2 c2, .slice s3 n3 c3] from (hgrow.block w.heap.size (by simp; omega) (by simp [Value.ownBlock])).trans (X1.out.alloc _))
      have B2 : Hid (Below w.heap.size w W2) := Lib.hid (B1.out.trans ⟨hgrow.os, hgrow.tape, hgrow.output, by have := hgrow.size; simp at this; omega, fun j hj => (hgrow.block j (by simp; omega) (by simp [Value.ownBlock])).trans (Below.heap_alloc _ _ _ (by omega))⟩)
      have HRN := Lib.hid hrun
      have SL2 := Lib.hid sl2
      clear hrun sl2 hgrow b1
      go_wp2_with (at_builtin; refine wpList_append_run rfl _ _ 35 35 rfl rfl rfl HRN.out ?_)
      go_wp2_with fail
      go_meet
      exact ⟨[⟨dk, dn⟩], _, _, rfl, Lib.hid rfl, SL2, X2, B2⟩
  case rest =>
    obtain ⟨L, so, co, rfl, HLL, HSL, HX, HBX⟩ := hcut
    have q0 : wc.cell? ⟨w.heap.size, 0, none⟩ = some (.int .i64 op) := HX.out.cell 0
    clear X1 B1 X B b1
    go_upto_if 14 with fail
    clear q0
    go_cut [14] (fun z14 wy => z14 = .bool (giveOp op) ∧ wc = wy)
    case first =>
      by_cases h15 : op = 15
      · subst h15
        go_wp2_with fail
        go_meet
        exact ⟨rfl, rfl⟩
      · have e15 : (op == 15) = false := by rw [beq_eq_false_iff_ne]; exact h15
        by_cases h16 : op = 16
        · subst h16
          go_wp2_with fail
          go_meet
          exact ⟨rfl, rfl⟩
        · have e16 : (op == 16) = false := by rw [beq_eq_false_iff_ne]; exact h16
          by_cases h18 : op = 18
          · subst h18
            go_wp2_with fail
            go_meet
            exact ⟨rfl, rfl⟩
          · have e18 : (op == 18) = false := by rw [beq_eq_false_iff_ne]; exact h18
            by_cases h20 : op = 20
            · subst h20
              go_wp2_with fail
              go_meet
              exact ⟨rfl, rfl⟩
            · have e20 : (op == 20) = false := by rw [beq_eq_false_iff_ne]; exact h20
              by_cases h22 : op = 22
              · subst h22
                go_wp2_with fail
                go_meet
                exact ⟨rfl, rfl⟩
              · have e22 : (op == 22) = false := by rw [beq_eq_false_iff_ne]; exact h22
                by_cases h37 : op = 37
                · subst h37
                  go_wp2_with fail
                  go_meet
                  exact ⟨rfl, rfl⟩
                · have e37 : (op == 37) = false := by rw [beq_eq_false_iff_ne]; exact h37
                  have hg : giveOp op = false := by unfold giveOp; simp [h15, h16, h18, h20, h22, h37]
                  clear h15 h16 h18 h20 h22 h37
                  go_wp2_with fail
                  go_meet
                  exact ⟨by rw [hg], rfl⟩
    case rest =>
      obtain ⟨rfl, rfl⟩ := hcut
      obtain ⟨g, hg⟩ : ∃ g, g = giveOp op := ⟨_, rfl⟩
      rw [← hg] at HR ⊢
      clear hg q1 q2 CP
      cases g with
      | false =>
        obtain rfl : R = L := by rw [HR.out, HLL.out]; simp
        clear HR HLL
        go_wp2_with fail
        go_ret
        exact ⟨HBX.out, _, rfl, HSL.out.mono (by omega)⟩
      | true =>
        go_upto_region 11 with fail
        refine wp_region_held_drew (S := (fun w' => w'.cell? ⟨w.heap.size, 1, none⟩ = some (.int .i64 dk) ∧ w'.cell? ⟨w.heap.size, 2, none⟩ = some (.int .i64 dn))) (by kernel_rfl) (⟨HX.out.drew.cell 1, HX.out.drew.cell 2⟩) (fun hS => ?_)
        have BD := Lib.hid HBX.out.drew
        have SD := Lib.hid (HSL.out.same (w' := wc.drew) (Nat.le_refl _) (fun _ _ => rfl))
        have XD := Lib.hid HX.out.drew
        clear HBX HSL HX
        generalize wc.drew = w3 at *
        refine wpAnyH_take (i := 0) (v := ?_) rfl (by kernel_rfl) (by kernel_rfl) (by kernel_rfl) (fun _ _ _ h => h) (Or.inl ⟨by rfl, ?_⟩) (by assumption) ?_
        rotate_left
        · intro w hSw
          go_simp
          with_reducible rfl
        change wpAnyH _ _ _ _ _ _ _ (Act.put _ (some 21) _) _
        simp only [Act.put, List.setIfInBounds_toArray, List.set_cons_zero, List.set_cons_succ]
        refine wpAnyH_take (i := 1) (v := ?_) rfl (by kernel_rfl) (by kernel_rfl) (by kernel_rfl) (fun _ _ _ h => h) (Or.inl ⟨by rfl, ?_⟩) (by assumption) ?_
        rotate_left
        · intro w hSw
          go_simp
          with_reducible rfl
        change wpAnyH _ _ _ _ _ _ _ (Act.put _ (some 22) _) _
        simp only [Act.put, List.setIfInBounds_toArray, List.set_cons_zero, List.set_cons_succ]
        refine wpAnyH_ready (rs := [2]) (by kernel_rfl) (by simp) ?_
        refine AllReadyH.cons rfl (fun K hK => ?_) AllReadyH.nil
        go_simp
        refine (CX.out w3).mono ?_
        rintro e w4 ⟨rfl, b4⟩
        have X4 := Lib.hid (XD.out.below b4 XD.out.lt)
        have B4 := Lib.hid (BD.out.trans (b4.mono BD.out.size))
        have S4 := Lib.hid (SD.out.below b4 (fun g hg => (SD.out.lt g hg).2))
        clear b4 XD BD SD
        go_wp2_with fail
        refine hK.out _ _ (⟨X4.out.cell 1, X4.out.cell 2⟩) (fun hS => ?_)
        clear hK K
        try simp only [Act.put, List.setIfInBounds_toArray, List.set_cons_zero, List.set_cons_succ]
        by_cases hk : dk = 1
        · subst hk
          by_cases hn : dn = 0
          · subst hn
            obtain rfl : R = L := by rw [HR.out, HLL.out]; simp
            clear HR HLL
            refine wpAnyH_take (i := 3) (v := ?_) rfl (by kernel_rfl) (by kernel_rfl) (by kernel_rfl) (fun _ _ _ h => h) (Or.inl ⟨by rfl, ?_⟩) (by assumption) ?_
            rotate_left
            · intro w hSw
              go_simp
              with_reducible rfl
            change wpAnyH _ _ _ _ _ _ _ (Act.put _ (some 24) _) _
            simp only [Act.put, List.setIfInBounds_toArray, List.set_cons_zero, List.set_cons_succ]
            refine wpAnyH_done (by kernel_rfl) ?_ _
            go_wp2_with fail
            go_ret
            exact ⟨B4.out, _, rfl, S4.out.mono (by omega)⟩
          · have dd : (dn == 0) = false := by rw [beq_eq_false_iff_ne]; exact hn
            obtain rfl : R = L ++ [⟨1, 0⟩] := by rw [HR.out, HLL.out]; simp [hn]
            clear HR hn
            refine wpAnyH_take (i := 3) (v := ?_) rfl (by kernel_rfl) (by kernel_rfl) (by kernel_rfl) (fun _ _ _ h => h) (Or.inl ⟨by rfl, ?_⟩) (by assumption) ?_
            rotate_left
            · intro w hSw
              go_simp
              with_reducible rfl
            change wpAnyH _ _ _ _ _ _ _ (Act.put _ (some 24) _) _
            simp only [Act.put, List.setIfInBounds_toArray, List.set_cons_zero, List.set_cons_succ]
            refine wpAnyH_done (by kernel_rfl) ?_ _
            go_wp2_with fail
            refine (CX.out w4).mono ?_
            rintro e w5 ⟨rfl, b5⟩
            have B5 := Lib.hid (B4.out.trans (b5.mono B4.out.size))
            have S5 := Lib.hid (S4.out.below b5 (fun g hg => (S4.out.lt g hg).2))
            have hsz : w.heap.size + 1 ≤ w5.heap.size := by have := X4.out.lt; have := b5.size; omega
            have hL1 : L.length ≤ 1 := by rw [HLL.out]; split <;> simp
            obtain ⟨g, cap, W6, hrun, sl6, hgrow, _⟩ := sl_push_ar (S5.out.only (bs := []) (Only.alloc [] w5 (.cells #[.int .i64 1, .int .i64 0] 38)) (fun g hg hm => by cases hm)) ⟨1, 0⟩ w5.heap.size (Blk.new w5 38 _) (by omega) (by simp; omega)
            have B6 : Hid (Below w.heap.size w W6) := Lib.hid (B5.out.trans ⟨hgrow.os, hgrow.tape, hgrow.output, by have := hgrow.size; simp at this; omega, fun j hj => (hgrow.block j (by simp; omega) (fun e => by have := (S5.out.lt j e.symm).1; omega)).trans (Below.heap_alloc _ _ _ (by omega))⟩)
            have SL6 := Lib.hid sl6
            have HRN := Lib.hid hrun
            clear hrun sl6 hgrow b5 B5 S5 hsz hL1 HLL
            go_wp2_with (at_builtin; refine wpList_append_run rfl _ _ 35 35 rfl rfl rfl HRN.out ?_)
            go_wp2_with fail
            go_ret
            exact ⟨B6.out, _, rfl, SL6.out.mono (by omega)⟩
        · have dd : (dk == 1) = false := by rw [beq_eq_false_iff_ne]; exact hk
          obtain rfl : R = L ++ [⟨1, 0⟩] := by rw [HR.out, HLL.out]; simp [hk]
          clear HR hk
          refine wpAnyH_take (i := 3) (v := ?_) rfl (by kernel_rfl) (by kernel_rfl) (by kernel_rfl) (fun _ _ _ h => h) (Or.inl ⟨by rfl, ?_⟩) (by assumption) ?_
          rotate_left
          · intro w hSw
            go_simp
            with_reducible rfl
          change wpAnyH _ _ _ _ _ _ _ (Act.put _ (some 24) _) _
          simp only [Act.put, List.setIfInBounds_toArray, List.set_cons_zero, List.set_cons_succ]
          refine wpAnyH_done (by kernel_rfl) ?_ _
          go_wp2_with fail
          refine (CX.out w4).mono ?_
          rintro e w5 ⟨rfl, b5⟩
          have B5 := Lib.hid (B4.out.trans (b5.mono B4.out.size))
          have S5 := Lib.hid (S4.out.below b5 (fun g hg => (S4.out.lt g hg).2))
          have hsz : w.heap.size + 1 ≤ w5.heap.size := by have := X4.out.lt; have := b5.size; omega
          have hL1 : L.length ≤ 1 := by rw [HLL.out]; split <;> simp
          obtain ⟨g, cap, W6, hrun, sl6, hgrow, _⟩ := sl_push_ar (S5.out.only (bs := []) (Only.alloc [] w5 (.cells #[.int .i64 1, .int .i64 0] 38)) (fun g hg hm => by cases hm)) ⟨1, 0⟩ w5.heap.size (Blk.new w5 38 _) (by omega) (by simp; omega)
          have B6 : Hid (Below w.heap.size w W6) := Lib.hid (B5.out.trans ⟨hgrow.os, hgrow.tape, hgrow.output, by have := hgrow.size; simp at this; omega, fun j hj => (hgrow.block j (by simp; omega) (fun e => by have := (S5.out.lt j e.symm).1; omega)).trans (Below.heap_alloc _ _ _ (by omega))⟩)
          have SL6 := Lib.hid sl6
          have HRN := Lib.hid hrun
          clear hrun sl6 hgrow b5 B5 S5 hsz hL1 HLL
          go_wp2_with (at_builtin; refine wpList_append_run rfl _ _ 35 35 rfl rfl rfl HRN.out ?_)
          go_wp2_with fail
          go_ret
          exact ⟨B6.out, _, rfl, SL6.out.mono (by omega)⟩
end Go.Proofs.YtekfnonjhcfdmaaDoor
