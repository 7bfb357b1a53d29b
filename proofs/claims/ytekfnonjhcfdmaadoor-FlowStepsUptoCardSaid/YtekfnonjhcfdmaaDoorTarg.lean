/- flow.targets: the iterator hands over where an instruction may lead to. -/
import Derived.Test.YtekfnonjhcfdmaaDoorMem
import Derived.Shelf.Abstract
import Derived.Shelf.RegionOpen
import Derived.OwnWalkIn
import Derived.TacticsInMore
import Derived.LoopNIn
import Derived.LoopIn
import Derived.Sort.CutIn
import Derived.BigGuardIn
namespace Go.Proofs.YtekfnonjhcfdmaaDoor
open Go.RowKit Go.Shelf Go.Rt Go.Rw
attribute [local go_sem] Oper.semAt_some

/-- What the iterator needs. -/
structure TPre (B1 B2 b o : Nat) (f : Im) (i : Int) (W : World) : Prop where
  b1 : Boxed W B1 67 (.pointer (some ⟨b, o, none⟩))
  b2 : Boxed W B2 3 (.int .i64 i)
  cells : ∀ j, j < 10 → W.cell? ⟨b, o + j, none⟩ = (imC f)[j]?
  cases : SlAt W 2 csC f.cv f.x.cases
theorem TPre.later {B1 B2 b o : Nat} {f : Im} {i : Int} {w W W' : World} {bs : List Nat} (h : TPre B1 B2 b o f i W) (hc : SlAt w 2 csC f.cv f.x.cases) (hb : b < w.heap.size) (hle : w.heap.size ≤ W.heap.size) (ho : Only bs W W') (hbs : ∀ r ∈ bs, w.heap.size ≤ r) (n1 : B1 ∉ bs) (n2 : B2 ∉ bs) : TPre B1 B2 b o f i W' := by
  have hout : ∀ g, g < w.heap.size → g ∉ bs := fun g hg hm => by have := hbs g hm; omega
  refine ⟨(ho.block _ h.b1.lt n1).trans h.b1, (ho.block _ h.b2.lt n2).trans h.b2, fun j hj => ?_, ?_⟩
  · rw [← h.cells j hj]
    unfold World.cell?
    rw [ho.block b (by omega) (hout b hb)]
  · rcases h.cases with q | ⟨g, p, c, q, h1, h2, h3⟩
    · exact .inl q
    · rcases hc with r | ⟨g', p', c', r, _, r2, _⟩
      · exact .inl r
      · rw [q] at r
        cases r
        refine .inr ⟨g, p, c, q, h1, Nat.lt_of_lt_of_le h2 ho.size, fun k j hk hj => ?_⟩
        rw [← h3 k j hk hj]
        unfold World.cell?
        rw [ho.block g h2 (hout g r2)]
set_option maxRecDepth 100000 in
set_option maxHeartbeats 4000000 in
theorem targ_reads (F : Fence) (n : Nat) (h59 : F.fn 59) (hro : F.round = none) (hn : 1 ≤ n) (B1 B2 b o : Nat) (f : Im) (i : Int) (hi : 0 ≤ i) (hi2 : i ≤ 4611686018427387904) :
    SeqReads F n Tryd.prog 59 #[.pointer (some ⟨B1, 0, none⟩), .pointer (some ⟨B2, 0, none⟩)] (fun k : Int => #[.int .i64 k]) (targF f.x i) (TPre B1 B2 b o f i) := by
  intro l J Jx W hJ hJx hP hY h0
  obtain ⟨xs, hxs⟩ : ∃ q, q = targF f.x i := ⟨_, rfl⟩
  rw [← hxs] at hY ⊢
  have p0 := hP _ _ h0
  have HXS := Lib.hid hxs
  have HP := Lib.hid hP
  have HY := Lib.hid hY
  have HJ := Lib.hid hJ
  have HJx := Lib.hid hJx
  have H0 := Lib.hid h0
  have c1 := p0.b1.cell
  have c2 := p0.b2.cell
  obtain ⟨e0, _, _, _, e4, _, _, _, e8, _⟩ := cells10 p0.cells
  obtain ⟨_, s2, p2, ecv⟩ := p0.cases.len
  obtain ⟨nc, hnc⟩ : ∃ q, q = f.x.cases.length := ⟨_, rfl⟩
  rw [← hnc] at ecv
  rw [ecv] at e8
  have HNC := Lib.hid hnc
  have HCV := Lib.hid ecv
  obtain ⟨op, hop⟩ : ∃ q, q = f.x.op := ⟨_, rfl⟩
  obtain ⟨goal, hgo⟩ : ∃ q, q = f.x.to := ⟨_, rfl⟩
  rw [← hop] at e0
  rw [← hgo] at e4
  have HOP := Lib.hid hop
  have HGO := Lib.hid hgo
  clear hxs hP hY hJ hJx h0 hnc ecv p0 hop hgo
  refine callsIn_of_wp Tryd.func59 rfl h59 ?_ hro
  simp only [Tryd.ntmps59, List.size_toArray, List.length_cons, List.length_nil, Nat.reduceAdd, Nat.reduceSub, Array.replicate_succ, Array.replicate_zero, List.push_toArray, List.append_toArray, List.nil_append, List.cons_append]
  gi_upto_if 12 with fail
  gi_cut [12] from 999 (fun z12 wx => z12 = .bool (endOp op) ∧ W = wx)
  case first =>
    clear HY HJ HJx H0 HP HXS HCV HNC c1 c2 e0 e4 e8 HOP HGO
    by_cases h17 : op = 17
    · subst h17
      gi_wp2_with (with_reducible refine And.intro ?hnone ?_; case hnone => (intro _ hnn; cases hnn))
      gi_meet
      exact ⟨rfl, rfl⟩
    have e17 : (op == 17) = false := by rw [beq_eq_false_iff_ne]; exact h17
    by_cases h19 : op = 19
    · subst h19
      gi_wp2_with (with_reducible refine And.intro ?hnone ?_; case hnone => (intro _ hnn; cases hnn))
      gi_meet
      exact ⟨rfl, rfl⟩
    have e19 : (op == 19) = false := by rw [beq_eq_false_iff_ne]; exact h19
    by_cases h21 : op = 21
    · subst h21
      gi_wp2_with (with_reducible refine And.intro ?hnone ?_; case hnone => (intro _ hnn; cases hnn))
      gi_meet
      exact ⟨rfl, rfl⟩
    have e21 : (op == 21) = false := by rw [beq_eq_false_iff_ne]; exact h21
    by_cases h23 : op = 23
    · subst h23
      gi_wp2_with (with_reducible refine And.intro ?hnone ?_; case hnone => (intro _ hnn; cases hnn))
      gi_meet
      exact ⟨rfl, rfl⟩
    have e23 : (op == 23) = false := by rw [beq_eq_false_iff_ne]; exact h23
    by_cases h26 : op = 26
    · subst h26
      gi_wp2_with (with_reducible refine And.intro ?hnone ?_; case hnone => (intro _ hnn; cases hnn))
      gi_meet
      exact ⟨rfl, rfl⟩
    have e26 : (op == 26) = false := by rw [beq_eq_false_iff_ne]; exact h26
    by_cases h27 : op = 27
    · subst h27
      gi_wp2_with (with_reducible refine And.intro ?hnone ?_; case hnone => (intro _ hnn; cases hnn))
      gi_meet
      exact ⟨rfl, rfl⟩
    have e27 : (op == 27) = false := by rw [beq_eq_false_iff_ne]; exact h27
    have g1 : endOp op = false := by unfold endOp; simp [h17, h19, h21, h23, h26, h27]
    replace g1 := Lib.hid g1
    clear h17 h19 h21 h23 h26 h27
    gi_wp2_with (with_reducible refine And.intro ?hnone ?_; case hnone => (intro _ hnn; cases hnn))
    gi_meet
    exact ⟨by rw [g1.out], rfl⟩
  case rest =>
    obtain ⟨rfl, rfl⟩ := hcut
    obtain ⟨E, hE⟩ : ∃ q, endOp op = q := ⟨_, rfl⟩
    rw [hE]
    replace hE := Lib.hid hE
    cases E with
    | true =>
      have HN12 : Hid (op ≠ 12) := Lib.hid (by rintro rfl; exact absurd hE.out (by decide))
      obtain rfl : xs = [] := by rw [HXS.out]; unfold targF; rw [← HOP.out, hE.out]; rfl
      have d12 : (op != 12) = true := by rw [bne_iff_ne]; exact HN12.out
      gi_wp2_with (with_reducible refine And.intro ?hnone ?_; case hnone => (intro _ hnn; cases hnn))
      try simp only [Exit.inBlock, Exit.then]
      refine bodyPost_ret (results_none rfl _ _ _) rfl ?_
      exact ⟨⟨_, rfl⟩, .inl H0.out⟩
    | false =>
      gi_upto_if 19 with fail
      gi_cut [19] from 999 (fun z wx => z = .bool (jumpOp op || decide (op = 12)) ∧ W = wx)
      case first =>
        clear hE
        clear HY HJ HJx H0 HP HXS HCV HNC c1 c2 e0 e4 e8 HOP HGO
        by_cases h8 : op = 8
        · subst h8
          gi_wp2_with (with_reducible refine And.intro ?hnone ?_; case hnone => (intro _ hnn; cases hnn))
          gi_meet
          exact ⟨rfl, rfl⟩
        have e8 : (op == 8) = false := by rw [beq_eq_false_iff_ne]; exact h8
        by_cases h39 : op = 39
        · subst h39
          gi_wp2_with (with_reducible refine And.intro ?hnone ?_; case hnone => (intro _ hnn; cases hnn))
          gi_meet
          exact ⟨rfl, rfl⟩
        have e39 : (op == 39) = false := by rw [beq_eq_false_iff_ne]; exact h39
        by_cases h12 : op = 12
        · subst h12
          gi_wp2_with (with_reducible refine And.intro ?hnone ?_; case hnone => (intro _ hnn; cases hnn))
          gi_meet
          exact ⟨rfl, rfl⟩
        have e12 : (op == 12) = false := by rw [beq_eq_false_iff_ne]; exact h12
        have g1 : (jumpOp op || decide (op = 12)) = false := by unfold jumpOp; simp [h8, h39, h12]
        replace g1 := Lib.hid g1
        clear h8 h39 h12
        gi_wp2_with (with_reducible refine And.intro ?hnone ?_; case hnone => (intro _ hnn; cases hnn))
        gi_meet
        exact ⟨by rw [g1.out], rfl⟩
      case rest =>
        obtain ⟨rfl, rfl⟩ := hcut
        by_cases h12 : op = 12
        · subst h12
          try rw [show (jumpOp 12 || decide ((12 : Int) = 12)) = true from rfl]
          obtain rfl : xs = goal :: f.x.cases.map (·.to) := by rw [HXS.out]; unfold targF; rw [← HOP.out, ← HGO.out]; rfl
          have hq := HY.out 0 (by simp) W H0.out
          simp only [List.getElem_cons_zero] at hq
          obtain ⟨fn, tmps, assign, body, hy, hR⟩ := hq
          gi_wp2_with (with_reducible refine And.intro ?hnone ?_; case hnone => (intro _ hnn; cases hnn))
          refine hR.mono ?_
          clear hR hy
          rintro e W1 (⟨rfl, hJ1⟩ | ⟨rfl, hX1⟩)
          rotate_left
          · gi_wp2_with (with_reducible refine And.intro ?hnone ?_; case hnone => (intro _ hnn; cases hnn))
            all_goals try (rename_i hbad _ _ _ _ _ _ _; exact absurd hbad (by intro hb; cases hb))
            all_goals
              try simp only [Exit.inBlock, Exit.then]
              refine bodyPost_ret (results_none rfl _ _ _) rfl ?_
              exact ⟨⟨_, rfl⟩, .inr ⟨1, by simp, hX1⟩⟩
          have p1 := HP.out _ _ hJ1
          have c11 := p1.b1.cell
          have c21 := p1.b2.cell
          obtain ⟨e01, _, _, _, e41, _, _, _, e81, _⟩ := cells10 p1.cells
          rw [HCV.out] at e81
          rw [← HOP.out] at e01
          rw [← HGO.out] at e41
          have HJ1 := Lib.hid hJ1
          clear p1 hJ1
          gi_wp2_with (with_reducible refine And.intro ?hnone ?_; case hnone => (intro _ hnn; cases hnn))
          gi_loopw [67] (fun z wr => ∃ k : Nat, z = .int .i64 (k : Int) ∧ k ≤ nc ∧ J (k + 1) wr) (fun z _ => nc - (match z with | .int _ k => k.toNat | _ => 0))
          case atStart => exact ⟨0, rfl, Nat.zero_le _, HJ1.out⟩
          case round =>
            obtain ⟨k, rfl, hk, hjk⟩ := hrel
            have HJK := Lib.hid hjk
            clear hjk
            by_cases hlt : k < nc
            · have hlti : (k : Int) < (nc : Int) := by omega
              have pk := HP.out _ _ HJK.out
              have hca := pk.cases
              rw [HCV.out] at hca
              obtain ⟨b', o', es, hb', hc⟩ := hca.get (by rw [← HNC.out]; omega)
              have hkx : k < f.x.cases.length := by rw [← HNC.out]; exact hlt
              have k0 := hc k 0 hkx (by omega)
              have k1 := hc k 1 hkx (by omega)
              simp only [csC, List.getElem?_cons_zero, List.getElem?_cons_succ, Nat.add_zero] at k0 k1
              obtain ⟨q0, hq0⟩ : ∃ q, q = (f.x.cases[k]).lit := ⟨_, rfl⟩
              obtain ⟨q1, hq1⟩ : ∃ q, q = (f.x.cases[k]).to := ⟨_, rfl⟩
              rw [← hq0] at k0
              rw [← hq1] at k1
              have hgr := HJ.out (k + 1) wr (wr.alloc (.cells #[.int .i64 q0, .int .i64 q1] 75)) HJK.out (Only.alloc [] _ _)
              have hy0 := HY.out (k + 1) (by simp; exact hkx) _ hgr
              have hyv : (goal :: f.x.cases.map (·.to))[k + 1]'(by simp; exact hkx) = q1 := by rw [hq1]; simp
              rw [hyv] at hy0
              have hsl : Hid (k + 2 ≤ (goal :: f.x.cases.map (·.to)).length) := Lib.hid (by simp; omega)
              clear hq0 hq1 hc hca pk hgr hyv
              subst es
              obtain ⟨fn, tmps, assign, body, hy, hR⟩ := hy0
              gi_wp2_with (with_reducible refine And.intro ?hnone ?_; case hnone => (intro _ hnn; cases hnn))
              refine hR.mono ?_
              clear hR hy
              rintro e W3 (⟨rfl, hJ3⟩ | ⟨rfl, hX3⟩)
              · have HJ3 := Lib.hid hJ3
                clear hJ3
                gi_wp2_with (with_reducible refine And.intro ?hnone ?_; case hnone => (intro _ hnn; cases hnn))
                go_roundw
                case rel => exact ⟨k + 1, by simp, by omega, HJ3.out⟩
                case measure =>
                  show nc - ((k : Int) + 1).toNat < nc - (k : Int).toNat
                  omega
              · gi_wp2_with (with_reducible refine And.intro ?hnone ?_; case hnone => (intro _ hnn; cases hnn))
                (try simp only [Exit.inBlock, Exit.then])
                refine bodyPost_ret (results_none rfl _ _ _) rfl ?_
                exact ⟨⟨_, rfl⟩, .inr ⟨k + 2, hsl.out, hX3⟩⟩
            · have hlti : ¬ (k : Int) < (nc : Int) := by omega
              gi_wp2_with (with_reducible refine And.intro ?hnone ?_; case hnone => (intro _ hnn; cases hnn))
              go_end0
              refine ⟨⟨_, rfl⟩, .inl ?_⟩
              have hkn : k = f.x.cases.length := by rw [← HNC.out]; omega
              have hj := HJK.out
              rw [hkn] at hj
              simpa using hj
        · have HN12 : Hid (op ≠ 12) := Lib.hid h12
          rw [show decide (op = 12) = false from decide_eq_false h12, Bool.or_false]
          clear h12
          obtain ⟨Jm, hJmp⟩ : ∃ q, jumpOp op = q := ⟨_, rfl⟩
          rw [hJmp]
          replace hJmp := Lib.hid hJmp
          cases Jm with
          | true =>
            obtain rfl : xs = [goal] := by rw [HXS.out]; unfold targF; rw [← HOP.out, hE.out, hJmp.out, ← HGO.out]; rfl
            have d12 : (op != 12) = true := by rw [bne_iff_ne]; exact HN12.out
            have hq := HY.out 0 (by simp) W H0.out
            simp only [List.getElem_cons_zero] at hq
            obtain ⟨fn, tmps, assign, body, hy, hR⟩ := hq
            gi_wp2_with (with_reducible refine And.intro ?hnone ?_; case hnone => (intro _ hnn; cases hnn))
            refine hR.mono ?_
            clear hR hy
            rintro e W1 (⟨rfl, hJ1⟩ | ⟨rfl, hX1⟩)
            rotate_left
            · gi_wp2_with (with_reducible refine And.intro ?hnone ?_; case hnone => (intro _ hnn; cases hnn))
              all_goals try (rename_i hbad _ _ _ _ _ _ _; exact absurd hbad (by intro hb; cases hb))
              all_goals
                try simp only [Exit.inBlock, Exit.then]
                refine bodyPost_ret (results_none rfl _ _ _) rfl ?_
                exact ⟨⟨_, rfl⟩, .inr ⟨1, by simp, hX1⟩⟩
            have p1 := HP.out _ _ hJ1
            have c11 := p1.b1.cell
            have c21 := p1.b2.cell
            obtain ⟨e01, _, _, _, e41, _, _, _, e81, _⟩ := cells10 p1.cells
            rw [HCV.out] at e81
            rw [← HOP.out] at e01
            rw [← HGO.out] at e41
            have HJ1 := Lib.hid hJ1
            clear p1 hJ1
            gi_wp2_with (with_reducible refine And.intro ?hnone ?_; case hnone => (intro _ hnn; cases hnn))
            try simp only [Exit.inBlock, Exit.then]
            refine bodyPost_ret (results_none rfl _ _ _) rfl ?_
            exact ⟨⟨_, rfl⟩, .inl HJ1.out⟩
          | false =>
            gi_upto_if 23 with fail
            gi_cut [23] from 999 (fun z wx => z = .bool (forkOp op) ∧ W = wx)
            case first =>
              clear hE hJmp HN12
              clear HY HJ HJx H0 HP HXS HCV HNC c1 c2 e0 e4 e8 HOP HGO
              by_cases h9 : op = 9
              · subst h9
                gi_wp2_with (with_reducible refine And.intro ?hnone ?_; case hnone => (intro _ hnn; cases hnn))
                gi_meet
                exact ⟨rfl, rfl⟩
              have e9 : (op == 9) = false := by rw [beq_eq_false_iff_ne]; exact h9
              by_cases h10 : op = 10
              · subst h10
                gi_wp2_with (with_reducible refine And.intro ?hnone ?_; case hnone => (intro _ hnn; cases hnn))
                gi_meet
                exact ⟨rfl, rfl⟩
              have e10 : (op == 10) = false := by rw [beq_eq_false_iff_ne]; exact h10
              by_cases h11 : op = 11
              · subst h11
                gi_wp2_with (with_reducible refine And.intro ?hnone ?_; case hnone => (intro _ hnn; cases hnn))
                gi_meet
                exact ⟨rfl, rfl⟩
              have e11 : (op == 11) = false := by rw [beq_eq_false_iff_ne]; exact h11
              by_cases h13 : op = 13
              · subst h13
                gi_wp2_with (with_reducible refine And.intro ?hnone ?_; case hnone => (intro _ hnn; cases hnn))
                gi_meet
                exact ⟨rfl, rfl⟩
              have e13 : (op == 13) = false := by rw [beq_eq_false_iff_ne]; exact h13
              by_cases h30 : op = 30
              · subst h30
                gi_wp2_with (with_reducible refine And.intro ?hnone ?_; case hnone => (intro _ hnn; cases hnn))
                gi_meet
                exact ⟨rfl, rfl⟩
              have e30 : (op == 30) = false := by rw [beq_eq_false_iff_ne]; exact h30
              by_cases h31 : op = 31
              · subst h31
                gi_wp2_with (with_reducible refine And.intro ?hnone ?_; case hnone => (intro _ hnn; cases hnn))
                gi_meet
                exact ⟨rfl, rfl⟩
              have e31 : (op == 31) = false := by rw [beq_eq_false_iff_ne]; exact h31
              by_cases h32 : op = 32
              · subst h32
                gi_wp2_with (with_reducible refine And.intro ?hnone ?_; case hnone => (intro _ hnn; cases hnn))
                gi_meet
                exact ⟨rfl, rfl⟩
              have e32 : (op == 32) = false := by rw [beq_eq_false_iff_ne]; exact h32
              by_cases h33 : op = 33
              · subst h33
                gi_wp2_with (with_reducible refine And.intro ?hnone ?_; case hnone => (intro _ hnn; cases hnn))
                gi_meet
                exact ⟨rfl, rfl⟩
              have e33 : (op == 33) = false := by rw [beq_eq_false_iff_ne]; exact h33
              by_cases h34 : op = 34
              · subst h34
                gi_wp2_with (with_reducible refine And.intro ?hnone ?_; case hnone => (intro _ hnn; cases hnn))
                gi_meet
                exact ⟨rfl, rfl⟩
              have e34 : (op == 34) = false := by rw [beq_eq_false_iff_ne]; exact h34
              by_cases h37 : op = 37
              · subst h37
                gi_wp2_with (with_reducible refine And.intro ?hnone ?_; case hnone => (intro _ hnn; cases hnn))
                gi_meet
                exact ⟨rfl, rfl⟩
              have e37 : (op == 37) = false := by rw [beq_eq_false_iff_ne]; exact h37
              by_cases h40 : op = 40
              · subst h40
                gi_wp2_with (with_reducible refine And.intro ?hnone ?_; case hnone => (intro _ hnn; cases hnn))
                gi_meet
                exact ⟨rfl, rfl⟩
              have e40 : (op == 40) = false := by rw [beq_eq_false_iff_ne]; exact h40
              have g1 : forkOp op = false := by unfold forkOp; simp [h9, h10, h11, h13, h30, h31, h32, h33, h34, h37, h40]
              replace g1 := Lib.hid g1
              clear h9 h10 h11 h13 h30 h31 h32 h33 h34 h37 h40
              gi_wp2_with (with_reducible refine And.intro ?hnone ?_; case hnone => (intro _ hnn; cases hnn))
              gi_meet
              exact ⟨by rw [g1.out], rfl⟩
            case rest =>
              obtain ⟨rfl, rfl⟩ := hcut
              obtain ⟨Fk, hFk⟩ : ∃ q, forkOp op = q := ⟨_, rfl⟩
              rw [hFk]
              replace hFk := Lib.hid hFk
              cases Fk with
              | true =>
                obtain rfl : xs = [i + 1, goal] := by rw [HXS.out]; unfold targF; rw [← HOP.out, hE.out, hJmp.out, if_neg (by simp), if_neg (by simp), if_neg HN12.out, hFk.out, ← HGO.out]; rfl
                have d12 : (op != 12) = true := by rw [bne_iff_ne]; exact HN12.out
                have hq := HY.out 0 (by simp) W H0.out
                simp only [List.getElem_cons_zero] at hq
                obtain ⟨fn, tmps, assign, body, hy, hR⟩ := hq
                gi_wp2_with (with_reducible refine And.intro ?hnone ?_; case hnone => (intro _ hnn; cases hnn))
                refine hR.mono ?_
                clear hR hy
                rintro e W1 (⟨rfl, hJ1⟩ | ⟨rfl, hX1⟩)
                rotate_left
                · gi_wp2_with (with_reducible refine And.intro ?hnone ?_; case hnone => (intro _ hnn; cases hnn))
                  all_goals try (rename_i hbad _ _ _ _ _ _ _; exact absurd hbad (by intro hb; cases hb))
                  all_goals
                    try simp only [Exit.inBlock, Exit.then]
                    refine bodyPost_ret (results_none rfl _ _ _) rfl ?_
                    exact ⟨⟨_, rfl⟩, .inr ⟨1, by simp, hX1⟩⟩
                have p1 := HP.out _ _ hJ1
                have c11 := p1.b1.cell
                have c21 := p1.b2.cell
                obtain ⟨e01, _, _, _, e41, _, _, _, e81, _⟩ := cells10 p1.cells
                rw [HCV.out] at e81
                rw [← HOP.out] at e01
                rw [← HGO.out] at e41
                have HJ1 := Lib.hid hJ1
                clear p1 hJ1
                have hq := HY.out 1 (by simp) W1 HJ1.out
                simp only [List.getElem_cons_zero, List.getElem_cons_succ] at hq
                obtain ⟨fn, tmps, assign, body, hy, hR⟩ := hq
                gi_wp2_with (with_reducible refine And.intro ?hnone ?_; case hnone => (intro _ hnn; cases hnn))
                refine hR.mono ?_
                clear hR hy
                rintro e W2 (⟨rfl, hJ2⟩ | ⟨rfl, hX2⟩)
                rotate_left
                · gi_wp2_with (with_reducible refine And.intro ?hnone ?_; case hnone => (intro _ hnn; cases hnn))
                  all_goals try (rename_i hbad _ _ _ _ _ _ _; exact absurd hbad (by intro hb; cases hb))
                  all_goals
                    try simp only [Exit.inBlock, Exit.then]
                    refine bodyPost_ret (results_none rfl _ _ _) rfl ?_
                    exact ⟨⟨_, rfl⟩, .inr ⟨2, by simp, hX2⟩⟩
                have p2 := HP.out _ _ hJ2
                have c12 := p2.b1.cell
                have c22 := p2.b2.cell
                obtain ⟨e02, _, _, _, e42, _, _, _, e82, _⟩ := cells10 p2.cells
                rw [HCV.out] at e82
                rw [← HOP.out] at e02
                rw [← HGO.out] at e42
                have HJ2 := Lib.hid hJ2
                clear p2 hJ2
                gi_wp2_with (with_reducible refine And.intro ?hnone ?_; case hnone => (intro _ hnn; cases hnn))
                try simp only [Exit.inBlock, Exit.then]
                refine bodyPost_ret (results_none rfl _ _ _) rfl ?_
                exact ⟨⟨_, rfl⟩, .inl HJ2.out⟩
              | false =>
                obtain rfl : xs = [i + 1] := by rw [HXS.out]; unfold targF; rw [← HOP.out, hE.out, hJmp.out, if_neg (by simp), if_neg (by simp), if_neg HN12.out, hFk.out]; rfl
                have d12 : (op != 12) = true := by rw [bne_iff_ne]; exact HN12.out
                have hq := HY.out 0 (by simp) W H0.out
                simp only [List.getElem_cons_zero] at hq
                obtain ⟨fn, tmps, assign, body, hy, hR⟩ := hq
                gi_wp2_with (with_reducible refine And.intro ?hnone ?_; case hnone => (intro _ hnn; cases hnn))
                refine hR.mono ?_
                clear hR hy
                rintro e W1 (⟨rfl, hJ1⟩ | ⟨rfl, hX1⟩)
                rotate_left
                · gi_wp2_with (with_reducible refine And.intro ?hnone ?_; case hnone => (intro _ hnn; cases hnn))
                  all_goals try (rename_i hbad _ _ _ _ _ _ _; exact absurd hbad (by intro hb; cases hb))
                  all_goals
                    try simp only [Exit.inBlock, Exit.then]
                    refine bodyPost_ret (results_none rfl _ _ _) rfl ?_
                    exact ⟨⟨_, rfl⟩, .inr ⟨1, by simp, hX1⟩⟩
                have p1 := HP.out _ _ hJ1
                have c11 := p1.b1.cell
                have c21 := p1.b2.cell
                obtain ⟨e01, _, _, _, e41, _, _, _, e81, _⟩ := cells10 p1.cells
                rw [HCV.out] at e81
                rw [← HOP.out] at e01
                rw [← HGO.out] at e41
                have HJ1 := Lib.hid hJ1
                clear p1 hJ1
                gi_wp2_with (with_reducible refine And.intro ?hnone ?_; case hnone => (intro _ hnn; cases hnn))
                try simp only [Exit.inBlock, Exit.then]
                refine bodyPost_ret (results_none rfl _ _ _) rfl ?_
                exact ⟨⟨_, rfl⟩, .inl HJ1.out⟩

/-- targets(in, i). -/
theorem targ36 (F : Fence) (n : Nat) (h36 : F.fn 36) (hro : F.round = none) (b o : Nat) (i : Int) (w : World) :
    CallsIn F n Tryd.prog 36 #[.pointer (some ⟨b, o, none⟩), .int .i64 i] w fun e w' => e = .returned (.func (.func 59) #[] #[.pointer (some ⟨w.heap.size, 0, none⟩), .pointer (some ⟨w.heap.size + 1, 0, none⟩)]) ∧ w' = (w.alloc (.cells #[.pointer (some ⟨b, o, none⟩)] 67)).alloc (.cells #[.int .i64 i] 3) := by
  refine callsIn_of_wp Tryd.func36 rfl h36 ?_ hro
  simp only [Tryd.ntmps36, List.size_toArray, List.length_cons, List.length_nil, Nat.reduceAdd, Nat.reduceSub, Array.replicate_succ, Array.replicate_zero, List.push_toArray, List.append_toArray, List.nil_append, List.cons_append]
  gi_wp2
  go_ret
  exact ⟨rfl, rfl⟩
end Go.Proofs.YtekfnonjhcfdmaaDoor
