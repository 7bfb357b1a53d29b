/- The reference's Next. -/
import Derived.Test.YtekfnonjhcfdmaaDoorRefi
import Derived.Test.YtekfnonjhcfdmaaDoorFam
import Derived.Deep.CutBlock
namespace Go.Proofs.YtekfnonjhcfdmaaDoor
open Go.RowKit Go.Rt Go.Rw

theorem asc_snoc (L : List Int) (x : Int) : asc (L ++ [x]) = insF (asc L) x := by unfold asc; rw [List.foldl_append]; rfl
/-- The entries in range, put in order, the first k. -/
def nxK (l : List In) (to_ : List Int) (k : Nat) : List Int := asc ((to_.take k).filter (inR l))
theorem nxK_step (l : List In) (to_ : List Int) (k : Nat) (hk : k < to_.length) : nxK l to_ (k + 1) = if inR l to_[k] = true then insF (nxK l to_ k) to_[k] else nxK l to_ k := by
  unfold nxK
  rw [List.take_succ_eq_append_getElem hk, List.filter_append]
  by_cases h : inR l to_[k] = true
  · rw [if_pos h, List.filter_cons_of_pos (by exact h), List.filter_nil, asc_snoc]
  · rw [if_neg h, List.filter_cons_of_neg (by exact h), List.filter_nil, List.append_nil]
theorem nxK_len (l : List In) (to_ : List Int) (k : Nat) : (nxK l to_ k).length ≤ to_.length := by
  have h1 := asc_len ((to_.take k).filter (inR l))
  have h2 := List.length_filter_le (inR l) (to_.take k)
  have h3 := List.length_take_le' k to_
  unfold nxK
  omega
/-- A literal list is appended. -/
theorem lit23 {W : World} {B : Nat} {v : Value} {L : List Int} (h : Sl W B 3 1 inC v L) (M : List Int) (hl : L.length + M.length ≤ 1000000000000) (hb : B ≤ W.heap.size) :
    ∃ (sa : Option Addr) (co : Nat) (W2 : World), (Builtin.append_ #[23, 23] 23 #[v, .slice (some ⟨W.heap.size, 0, none⟩) M.length M.length]).run Tryd.prog (W.alloc (.cells (M.flatMap inC).toArray 3)) = .ok (.slice sa (L ++ M).length co) W2 ∧ Sl W2 B 3 1 inC (.slice sa (L ++ M).length co) (L ++ M) ∧ Below B W W2 := by
  have h1 := h.only (bs := []) (Only.alloc [] W (.cells (M.flatMap inC).toArray 3)) (fun g hg hm => by cases hm)
  have k1 : SlAt (W.alloc (.cells (M.flatMap inC).toArray 3)) 1 inC (.slice (some ⟨W.heap.size, 0, none⟩) M.length M.length) M := (Sl.lit (base := W.heap.size) W M in_len (Nat.le_refl _) (by unfold maxLen; omega)).at in_len
  obtain ⟨sa, co, W2, r, s, g⟩ := apps23 h1 k1 (by omega) (by simp; omega)
  exact ⟨sa, co, W2, r, s, ((Below.refl B W).alloc hb _).trans ((grown_only g).below (fun r hr => by rw [Option.mem_toList] at hr; exact (h.lt r hr).1) (by simp; omega))⟩
set_option maxRecDepth 100000 in
set_option maxHeartbeats 8000000 in
theorem rnext17 (l : List In) (v : Value) (i : Int) (w : World) (h : InsAt w l v) (hb1 : l.length ≤ 1048576) (hb2 : ∀ x ∈ l, x.cases.length ≤ 1048576) : Calls Tryd.prog 17 #[v, .int .i64 i] w (RdR (nextF l i) w) := by
  obtain ⟨_, sa, cap, rfl⟩ := h.form
  obtain ⟨n, hn⟩ : ∃ q, q = l.length := ⟨_, rfl⟩
  have hbn := hb1
  clear hb1
  rw [← hn] at h hbn ⊢
  have HN := Lib.hid hn
  have HH := Lib.hid h
  have HB2 := Lib.hid hb2
  clear h hn hb2
  by_cases hi : 0 ≤ i ∧ i < n
  · obtain ⟨j, rfl⟩ : ∃ j : Nat, i = j := ⟨i.toNat, by omega⟩
    have hjn : j < n := by omega
    have hjni : (j : Int) < (n : Int) := hi.2
    have hjl : j < l.length := by rw [← HN.out]; exact hjn
    have hnj : ¬ n ≤ j := by omega
    have hj0 : ¬ (j : Int) < 0 := by omega
    have dj0 : decide ((j : Int) < 0) = false := decide_eq_false hj0
    have dnj : decide (n ≤ j) = false := decide_eq_false hnj
    obtain ⟨b, o, rfl, hb, hc⟩ := HH.out.get (by omega)
    obtain ⟨f, hf, hfa, hcell⟩ := hc j hjl
    have HTG : Hid (nextF l j = asc ((targF f.x j).filter (inR l))) := Lib.hid (by
      unfold nextF
      rw [dif_pos ⟨by omega, by simpa using hjl⟩]
      rw [hf]
      rfl)
    have hcl : f.x.cases.length ≤ 1048576 := by rw [hf]; exact HB2.out _ (List.getElem_mem _)
    obtain ⟨⟨op, ⟨dk, dn⟩, src, goal, nn, live, name, cas, segs⟩, sv, cv, gv⟩ := f
    obtain ⟨_, s1, p1, esv⟩ := hfa.src.len
    obtain ⟨_, s2, p2, ecv⟩ := hfa.cases.len
    obtain ⟨_, s3, p3, egv⟩ := hfa.segs.len
    dsimp only at esv ecv egv hcl HTG
    obtain ⟨n1, hn1⟩ : ∃ q, q = src.length := ⟨_, rfl⟩
    obtain ⟨n2, hn2⟩ : ∃ q, q = cas.length := ⟨_, rfl⟩
    obtain ⟨n3, hn3⟩ : ∃ q, q = segs.length := ⟨_, rfl⟩
    rw [← hn1] at esv
    rw [← hn2] at ecv hcl
    rw [← hn3] at egv
    subst esv ecv egv
    have HN2 := Lib.hid hn2
    clear hn1 hn2 hn3
    obtain ⟨e0, e1, e2, e3, e4, e5, e6, e7, e8, e9⟩ := cells10 hcell
    dsimp only at e0 e1 e2 e3 e4 e5 e6 e7 e8 e9
    have HFC := Lib.hid hfa.cases
    have X := Lib.hid (Blk.new w 42 #[.int .i64 op, .int .i64 dk, .int .i64 dn, .slice s1 n1 p1, .int .i64 goal, .int .i64 nn, .int .i64 live, .string name, .slice s2 n2 p2, .slice s3 n3 p3])
    have B := Lib.hid ((Below.refl w.heap.size w).alloc (Nat.le_refl _) (.cells #[.int .i64 op, .int .i64 dk, .int .i64 dn, .slice s1 n1 p1, .int .i64 goal, .int .i64 nn, .int .i64 live, .string name, .slice s2 n2 p2, .slice s3 n3 p3] 42))
    obtain ⟨m, hm⟩ : ∃ q, q = w.heap.size := ⟨_, rfl⟩
    have HZ1 : Hid ((w.alloc (.cells #[.int .i64 op, .int .i64 dk, .int .i64 dn, .slice s1 n1 p1, .int .i64 goal, .int .i64 nn, .int .i64 live, .string name, .slice s2 n2 p2, .slice s3 n3 p3] 42)).heap.size = m + 1) := Lib.hid (by rw [World.size_alloc, hm])
    have HM := Lib.hid hm
    rw [← hm] at X B
    clear hc hf hcell hi
    go_enter Tryd.func17, Tryd.ntmps17
    go_upto_region 5 with fail
    rw [← hm]
    generalize w.alloc (.cells #[.int .i64 op, .int .i64 dk, .int .i64 dn, .slice s1 n1 p1, .int .i64 goal, .int .i64 nn, .int .i64 live, .string name, .slice s2 n2 p2, .slice s3 n3 p3] 42) = w1 at X B HZ1 ⊢
    clear hm e0 e1 e2 e3 e4 e5 e6 e7 e8 e9
    have q0 : w1.cell? ⟨m, 0, none⟩ = some (.int .i64 op) := X.out.cell 0
    have q4 : w1.cell? ⟨m, 4, none⟩ = some (.int .i64 goal) := X.out.cell 4
    go_upto_block 0 with fail
    go_cut [7] from 25 (fun z7 wx => ∃ (S : Option Addr) (N C : Nat) (toL : List Int), z7 = .slice S N C ∧ N ≤ 1048577 ∧ Hid (targF ⟨op, ⟨dk, dn⟩, src, goal, nn, live, name, cas, segs⟩ j = toL) ∧ Hid (N = toL.length) ∧ Hid (Sl wx m 3 1 inC (.slice S N C) toL) ∧ Hid (Below m w wx))
    case first =>
      go_upto_if 30 with fail
      go_cut [30, 31] from 999 (fun z30 _ wx => z30 = .bool (endOp op) ∧ w1 = wx)
      case first =>
        by_cases h17 : op = 17
        · subst h17
          go_wp2_with fail
          go_meet
          exact ⟨rfl, rfl⟩
        have e17 : (op == 17) = false := by rw [beq_eq_false_iff_ne]; exact h17
        by_cases h19 : op = 19
        · subst h19
          go_wp2_with fail
          go_meet
          exact ⟨rfl, rfl⟩
        have e19 : (op == 19) = false := by rw [beq_eq_false_iff_ne]; exact h19
        by_cases h21 : op = 21
        · subst h21
          go_wp2_with fail
          go_meet
          exact ⟨rfl, rfl⟩
        have e21 : (op == 21) = false := by rw [beq_eq_false_iff_ne]; exact h21
        by_cases h23 : op = 23
        · subst h23
          go_wp2_with fail
          go_meet
          exact ⟨rfl, rfl⟩
        have e23 : (op == 23) = false := by rw [beq_eq_false_iff_ne]; exact h23
        by_cases h26 : op = 26
        · subst h26
          go_wp2_with fail
          go_meet
          exact ⟨rfl, rfl⟩
        have e26 : (op == 26) = false := by rw [beq_eq_false_iff_ne]; exact h26
        by_cases h27 : op = 27
        · subst h27
          go_wp2_with fail
          go_meet
          exact ⟨rfl, rfl⟩
        have e27 : (op == 27) = false := by rw [beq_eq_false_iff_ne]; exact h27
        have g1 : endOp op = false := by unfold endOp; simp [h17, h19, h21, h23, h26, h27]
        replace g1 := Lib.hid g1
        clear h17 h19 h21 h23 h26 h27
        go_wp2_with fail
        go_meet
        exact ⟨by rw [g1.out], rfl⟩
      case rest =>
        obtain ⟨rfl, rfl⟩ := hcut
        obtain ⟨E, hE⟩ : ∃ q, endOp op = q := ⟨_, rfl⟩
        rw [hE]
        replace hE := Lib.hid hE
        cases E with
        | true =>
          have HTO : Hid (targF ⟨op, ⟨dk, dn⟩, src, goal, nn, live, name, cas, segs⟩ j = []) := Lib.hid (by unfold targF; rw [hE.out]; rfl)
          go_wp2_with fail
          go_meet
          exact ⟨none, 0, 0, [], rfl, by omega, HTO, Lib.hid rfl, Lib.hid (Sl.nil _ _ _ _ _), B⟩
        | false =>
          go_upto_if 37 with fail
          go_cut [37, 38] from 999 (fun z _ wx => z = .bool (jumpOp op) ∧ w1 = wx)
          case first =>
            by_cases h8 : op = 8
            · subst h8
              go_wp2_with fail
              go_meet
              exact ⟨rfl, rfl⟩
            have e8 : (op == 8) = false := by rw [beq_eq_false_iff_ne]; exact h8
            by_cases h39 : op = 39
            · subst h39
              go_wp2_with fail
              go_meet
              exact ⟨rfl, rfl⟩
            have e39 : (op == 39) = false := by rw [beq_eq_false_iff_ne]; exact h39
            have g1 : jumpOp op = false := by unfold jumpOp; simp [h8, h39]
            replace g1 := Lib.hid g1
            clear h8 h39
            go_wp2_with fail
            go_meet
            exact ⟨by rw [g1.out], rfl⟩
          case rest =>
            obtain ⟨rfl, rfl⟩ := hcut
            obtain ⟨J, hJ⟩ : ∃ q, jumpOp op = q := ⟨_, rfl⟩
            rw [hJ]
            replace hJ := Lib.hid hJ
            cases J with
            | true =>
              have HTO : Hid (targF ⟨op, ⟨dk, dn⟩, src, goal, nn, live, name, cas, segs⟩ j = [goal]) := Lib.hid (by unfold targF; rw [hE.out, hJ.out]; rfl)
              obtain ⟨sx, cx, w3, hr1, s3, b3⟩ := lit23 (Sl.nil w1 m 3 1 inC) [goal] (by simp) (by have := B.out.size; have := HM.out; omega)
              rw [List.nil_append] at hr1 s3
              have HR1 := Lib.hid hr1
              have HS3 := Lib.hid s3
              have HB3 := Lib.hid (B.out.trans (b3.mono (by have := HM.out; omega)))
              clear hr1 s3 b3 B
              go_wp2_with (at_builtin; refine wpList_append_run rfl _ _ 23 23 rfl rfl rfl HR1.out ?_)
              go_meet
              exact ⟨_, 1, _, _, rfl, by omega, HTO, Lib.hid rfl, HS3, HB3⟩
            | false =>
              by_cases h12 : op = 12
              · subst h12
                have HTO : Hid (targF ⟨(12 : Int), ⟨dk, dn⟩, src, goal, nn, live, name, cas, segs⟩ j = goal :: cas.map (·.to)) := Lib.hid (by rfl)
                have X12 : Hid (Blk w1 m 42 #[.int .i64 12, .int .i64 dk, .int .i64 dn, .slice s1 n1 p1, .int .i64 goal, .int .i64 nn, .int .i64 live, .string name, .slice s2 n2 p2, .slice s3 n3 p3]) := X
                clear X
                obtain ⟨sx, cx, w3, hr1, s4, b3⟩ := lit23 (Sl.nil w1 (m + 1) 3 1 inC) [goal] (by simp) (by have := HZ1.out; omega)
                rw [List.nil_append] at hr1 s4
                have HR1 := Lib.hid hr1
                have HS3 : Hid (Sl w3 (m + 1) 3 1 inC (.slice sx (0 + 1) cx) (goal :: (cas.take 0).map (·.to))) := Lib.hid (by simpa using s4)
                have HB3 := Lib.hid (B.out.trans (b3.mono (by omega)))
                have HX3 := Lib.hid (show Blk w3 m 42 #[.int .i64 12, .int .i64 dk, .int .i64 dn, .slice s1 n1 p1, .int .i64 goal, .int .i64 nn, .int .i64 live, .string name, .slice s2 n2 p2, .slice s3 n3 p3] from (b3.block m (by omega)).trans X12.out)
                clear hr1 s4 b3 B X12
                go_wp2_with (at_builtin; refine wpList_append_run rfl _ _ 23 23 rfl rfl rfl HR1.out ?_)
                go_loopw [7, 8] (fun z7 z8 wr => ∃ (k : Nat) (S : Option Addr) (C : Nat), k ≤ n2 ∧ z8 = .int .i64 (k : Int) ∧ z7 = .slice S (k + 1) C ∧ Hid (Sl wr (m + 1) 3 1 inC (.slice S (k + 1) C) (goal :: (cas.take k).map (·.to))) ∧ Hid (Blk wr m 42 #[.int .i64 12, .int .i64 dk, .int .i64 dn, .slice s1 n1 p1, .int .i64 goal, .int .i64 nn, .int .i64 live, .string name, .slice s2 n2 p2, .slice s3 n3 p3]) ∧ Hid (Below m w wr)) (fun _ z _ => n2 - (intOf z).toNat)
                case atStart => exact ⟨0, _, _, Nat.zero_le _, rfl, rfl, HS3, HX3, HB3⟩
                case round =>
                  obtain ⟨k, S, C, hk, rfl, rfl, HS, HX, HB⟩ := hrel
                  clear HS3 HX3 HB3
                  have q7 : wr.cell? ⟨m, 8, none⟩ = some (.slice s2 n2 p2) := HX.out.cell 8
                  by_cases hkn : k < n2
                  · have hkni : (k : Int) < (n2 : Int) := by omega
                    have hkl : k < cas.length := by rw [← HN2.out]; exact hkn
                    have HF2 := Lib.hid (HFC.out.keep (by rw [← HM.out]; exact HB.out))
                    obtain ⟨b', o', es, hb', hc'⟩ := HF2.out.get (by omega)
                    have k1 := hc' k 1 hkl (by omega)
                    obtain ⟨x, hx⟩ : ∃ x, x = (cas[k]).to := ⟨_, rfl⟩
                    simp only [csC, List.getElem?_cons_zero, List.getElem?_cons_succ] at k1
                    rw [← hx] at k1
                    have htk : goal :: (cas.take (k + 1)).map (·.to) = (goal :: (cas.take k).map (·.to)) ++ [x] := by rw [List.take_succ_eq_append_getElem hkl, List.map_append, hx]; rfl
                    have hlk : (goal :: (cas.take k).map (·.to)).length = k + 1 := by rw [List.length_cons, List.length_map, List.length_take]; omega
                    obtain ⟨sx2, cx2, w4, hr2, s5, b4⟩ := lit23 HS.out [x] (by rw [hlk]; simp; omega) (by have := HX.out.lt; omega)
                    rw [← htk] at hr2 s5
                    rw [show (goal :: (cas.take (k + 1)).map (·.to)).length = k + 1 + 1 by rw [htk, List.length_append, hlk]; rfl] at hr2 s5
                    have HR2 := Lib.hid hr2
                    have HS2 := Lib.hid s5
                    have HB2 := Lib.hid (HB.out.trans (b4.mono (by omega)))
                    have HX2 := Lib.hid (show Blk w4 m 42 #[.int .i64 12, .int .i64 dk, .int .i64 dn, .slice s1 n1 p1, .int .i64 goal, .int .i64 nn, .int .i64 live, .string name, .slice s2 n2 p2, .slice s3 n3 p3] from (b4.block m (by omega)).trans HX.out)
                    clear hx hkl hr2 s5 b4 htk hlk hc' hb' HF2 HS HB
                    subst es
                    go_wp2_with (at_builtin; refine wpList_append_run rfl _ _ 23 23 rfl rfl rfl HR2.out ?_)
                    go_roundw
                    case rel => exact ⟨k + 1, _, _, by omega, by go_num, rfl, HS2, HX2, HB2⟩
                    case measure => simp [intOf]; omega
                  · have hkni : ¬ (k : Int) < (n2 : Int) := by omega
                    have hke : k = cas.length := by rw [← HN2.out]; omega
                    have HS2 := Lib.hid (HS.out.mono (Nat.le_succ m))
                    have HNT : Hid (k + 1 = (goal :: (cas.take k).map (·.to)).length) := Lib.hid (by rw [List.length_cons, List.length_map, List.length_take]; omega)
                    have HTO2 : Hid (targF ⟨(12 : Int), ⟨dk, dn⟩, src, goal, nn, live, name, cas, segs⟩ j = goal :: (cas.take k).map (·.to)) := Lib.hid (by rw [hke, List.take_length]; exact HTO.out)
                    clear hke HTO
                    go_wp2_with fail
                    go_meet
                    exact ⟨S, k + 1, C, _, rfl, by omega, HTO2, HNT, HS2, HB⟩
              · have e12 : (op == 12) = false := by rw [beq_eq_false_iff_ne]; exact h12
                have H12 := Lib.hid h12
                clear h12
                go_upto_if 68 with fail
                go_cut [68, 69] from 999 (fun z _ wx => z = .bool (forkOp op) ∧ w1 = wx)
                case first =>
                  by_cases h9 : op = 9
                  · subst h9
                    go_wp2_with fail
                    go_meet
                    exact ⟨rfl, rfl⟩
                  have e9 : (op == 9) = false := by rw [beq_eq_false_iff_ne]; exact h9
                  by_cases h10 : op = 10
                  · subst h10
                    go_wp2_with fail
                    go_meet
                    exact ⟨rfl, rfl⟩
                  have e10 : (op == 10) = false := by rw [beq_eq_false_iff_ne]; exact h10
                  by_cases h11 : op = 11
                  · subst h11
                    go_wp2_with fail
                    go_meet
                    exact ⟨rfl, rfl⟩
                  have e11 : (op == 11) = false := by rw [beq_eq_false_iff_ne]; exact h11
                  by_cases h13 : op = 13
                  · subst h13
                    go_wp2_with fail
                    go_meet
                    exact ⟨rfl, rfl⟩
                  have e13 : (op == 13) = false := by rw [beq_eq_false_iff_ne]; exact h13
                  by_cases h30 : op = 30
                  · subst h30
                    go_wp2_with fail
                    go_meet
                    exact ⟨rfl, rfl⟩
                  have e30 : (op == 30) = false := by rw [beq_eq_false_iff_ne]; exact h30
                  by_cases h31 : op = 31
                  · subst h31
                    go_wp2_with fail
                    go_meet
                    exact ⟨rfl, rfl⟩
                  have e31 : (op == 31) = false := by rw [beq_eq_false_iff_ne]; exact h31
                  by_cases h32 : op = 32
                  · subst h32
                    go_wp2_with fail
                    go_meet
                    exact ⟨rfl, rfl⟩
                  have e32 : (op == 32) = false := by rw [beq_eq_false_iff_ne]; exact h32
                  by_cases h33 : op = 33
                  · subst h33
                    go_wp2_with fail
                    go_meet
                    exact ⟨rfl, rfl⟩
                  have e33 : (op == 33) = false := by rw [beq_eq_false_iff_ne]; exact h33
                  by_cases h34 : op = 34
                  · subst h34
                    go_wp2_with fail
                    go_meet
                    exact ⟨rfl, rfl⟩
                  have e34 : (op == 34) = false := by rw [beq_eq_false_iff_ne]; exact h34
                  by_cases h37 : op = 37
                  · subst h37
                    go_wp2_with fail
                    go_meet
                    exact ⟨rfl, rfl⟩
                  have e37 : (op == 37) = false := by rw [beq_eq_false_iff_ne]; exact h37
                  by_cases h40 : op = 40
                  · subst h40
                    go_wp2_with fail
                    go_meet
                    exact ⟨rfl, rfl⟩
                  have e40 : (op == 40) = false := by rw [beq_eq_false_iff_ne]; exact h40
                  have g1 : forkOp op = false := by unfold forkOp; simp [h9, h10, h11, h13, h30, h31, h32, h33, h34, h37, h40]
                  replace g1 := Lib.hid g1
                  clear h9 h10 h11 h13 h30 h31 h32 h33 h34 h37 h40
                  go_wp2_with fail
                  go_meet
                  exact ⟨by rw [g1.out], rfl⟩
                case rest =>
                  obtain ⟨rfl, rfl⟩ := hcut
                  obtain ⟨F, hF⟩ : ∃ q, forkOp op = q := ⟨_, rfl⟩
                  rw [hF]
                  replace hF := Lib.hid hF
                  cases F with
                  | true =>
                    have HTO : Hid (targF ⟨op, ⟨dk, dn⟩, src, goal, nn, live, name, cas, segs⟩ j = [(j : Int) + 1, goal]) := Lib.hid (by unfold targF; rw [hE.out, hJ.out, if_neg (by simp), if_neg (by simp), if_neg H12.out, hF.out]; rfl)
                    obtain ⟨sx, cx, w3, hr1, s3, b3⟩ := lit23 (Sl.nil w1 m 3 1 inC) [(j : Int) + 1, goal] (by simp) (by have := B.out.size; have := HM.out; omega)
                    rw [List.nil_append] at hr1 s3
                    have HR1 := Lib.hid hr1
                    have HS3 := Lib.hid s3
                    have HB3 := Lib.hid (B.out.trans (b3.mono (by have := HM.out; omega)))
                    clear hr1 s3 b3 B
                    go_wp2_with (at_builtin; refine wpList_append_run rfl _ _ 23 23 rfl rfl rfl HR1.out ?_)
                    go_meet
                    exact ⟨_, 2, _, _, rfl, by omega, HTO, Lib.hid rfl, HS3, HB3⟩
                  | false =>
                    have HTO : Hid (targF ⟨op, ⟨dk, dn⟩, src, goal, nn, live, name, cas, segs⟩ j = [(j : Int) + 1]) := Lib.hid (by unfold targF; rw [hE.out, hJ.out, if_neg (by simp), if_neg (by simp), if_neg H12.out, hF.out]; rfl)
                    obtain ⟨sx, cx, w3, hr1, s3, b3⟩ := lit23 (Sl.nil w1 m 3 1 inC) [(j : Int) + 1] (by simp) (by have := B.out.size; have := HM.out; omega)
                    rw [List.nil_append] at hr1 s3
                    have HR1 := Lib.hid hr1
                    have HS3 := Lib.hid s3
                    have HB3 := Lib.hid (B.out.trans (b3.mono (by have := HM.out; omega)))
                    clear hr1 s3 b3 B
                    go_wp2_with (at_builtin; refine wpList_append_run rfl _ _ 23 23 rfl rfl rfl HR1.out ?_)
                    go_meet
                    exact ⟨_, 1, _, _, rfl, by omega, HTO, Lib.hid rfl, HS3, HB3⟩
    case rest =>
      obtain ⟨S, N, C, toL, rfl, hN, HTO, HNT, HS7, HBW⟩ := hcut
      have HC0 : Hid (SlC wc (.slice none 0 0) (nxK l toL 0)) := Lib.hid (nil_slc _)
      go_wp2_with fail
      go_loopw [5, 9] (fun z5 z9 wr => ∃ (k : Nat), k ≤ N ∧ z9 = .int .i64 (k : Int) ∧ Hid (SlC wr z5 (nxK l toL k)) ∧ Hid (Sl wr m 3 1 inC (.slice S N C) toL) ∧ Hid (Below m w wr)) (fun _ z _ => N - (intOf z).toNat)
      case atStart => exact ⟨0, Nat.zero_le _, rfl, HC0, HS7, HBW⟩
      case round =>
        obtain ⟨k, hk, rfl, HC, HS, HB⟩ := hrel
        clear HC0 HS7 HBW
        by_cases hkn : k < N
        · have hkni : (k : Int) < (N : Int) := by omega
          have hkl : k < toL.length := by rw [← HNT.out]; exact hkn
          obtain ⟨g7, hg7⟩ : ∃ g : Nat, S = some ⟨g, 0, none⟩ := by
            rcases HS.out.form with ⟨e, e2⟩ | ⟨g, cap, e, _⟩
            · rw [e2] at hkl
              simp at hkl
            · simp only [Value.slice.injEq] at e
              exact ⟨g, e.1⟩
          subst hg7
          have ck := HS.out.cell in_len k 0 hkl (by omega)
          obtain ⟨x, hx⟩ : ∃ x, x = toL[k] := ⟨_, rfl⟩
          rw [← hx] at ck
          simp only [inC, List.getElem?_cons_zero, Nat.add_zero, Nat.mul_one] at ck
          have HST := Lib.hid (nxK_step l toL k hkl)
          rw [← hx] at HST
          clear hx hkl
          by_cases hr0 : 0 ≤ x
          · by_cases hrn : x < (n : Int)
            · have CI := Lib.hid (insert40 (nxK l toL k) x _ wr HC.out (up_asc _) (by have := nxK_len l toL k; have := HNT.out; omega))
              have HST2 : Hid (nxK l toL (k + 1) = insF (nxK l toL k) x) := Lib.hid (by
                have := HST.out
                rwa [if_pos (by unfold inR; rw [← HN.out, decide_eq_true hr0, decide_eq_true hrn]; rfl)] at this)
              clear HST HC
              go_wp2_with fail
              refine CI.out.mono ?_
              rintro e w2 ⟨b2, u, rfl, s2⟩
              rw [← HST2.out] at s2
              have HC2 := Lib.hid s2
              have HS2 := Lib.hid (HS.out.below b2 (fun g hg => (HS.out.lt g hg).2))
              have HB2 := Lib.hid (HB.out.trans (b2.mono (by have := HB.out.size; have := HM.out; omega)))
              clear b2 s2 CI ck HS HB
              go_wp2_with fail
              go_roundw
              case rel => exact ⟨k + 1, by omega, by go_num, HC2, HS2, HB2⟩
              case measure => simp [intOf]; omega
            · have HC2 := Lib.hid HC.out
              rw [← show nxK l toL (k + 1) = nxK l toL k by rw [HST.out, if_neg (by unfold inR; rw [← HN.out, decide_eq_false hrn, Bool.and_false]; simp)]] at HC2
              clear HST HC
              go_wp2_with fail
              go_roundw
              case rel => exact ⟨k + 1, by omega, by go_num, HC2, HS, HB⟩
              case measure => simp [intOf]; omega
          · have HC2 := Lib.hid HC.out
            rw [← show nxK l toL (k + 1) = nxK l toL k by rw [HST.out, if_neg (by unfold inR; rw [decide_eq_false hr0, Bool.false_and]; simp)]] at HC2
            clear HST HC
            go_wp2_with fail
            go_roundw
            case rel => exact ⟨k + 1, by omega, by go_num, HC2, HS, HB⟩
            case measure => simp [intOf]; omega
        · have hkni : ¬ (k : Int) < (N : Int) := by omega
          have hke : k = N := by omega
          have HC2 := Lib.hid HC.out
          rw [show nxK l toL k = nextF l j by
            rw [HTG.out, HTO.out]
            unfold nxK
            rw [List.take_of_length_le (by rw [hke, HNT.out]; exact Nat.le_refl _)]] at HC2
          clear hke HC
          go_wp2_with fail
          go_ret
          exact ⟨by rw [← HM.out]; exact HB.out, _, rfl, HC2.out⟩
  · have HNX : Hid (nextF l i = []) := Lib.hid (by
      unfold nextF
      rw [dif_neg (fun h => hi ⟨h.1, by have := h.2; have := HN.out; omega⟩)])
    by_cases h0 : 0 ≤ i
    · have h1 : ¬ i < (n : Int) := fun h => hi ⟨h0, h⟩
      clear hi
      go_enter Tryd.func17, Tryd.ntmps17
      go_wp2_with fail
      go_ret
      exact ⟨Below.refl _ _, _, rfl, by rw [HNX.out]; exact nil_slc _⟩
    · clear hi
      go_enter Tryd.func17, Tryd.ntmps17
      go_wp2_with fail
      go_ret
      exact ⟨Below.refl _ _, _, rfl, by rw [HNX.out]; exact nil_slc _⟩
end Go.Proofs.YtekfnonjhcfdmaaDoor
