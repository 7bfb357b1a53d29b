/- The reference's Of, term, name; validity, field by field. -/
import Derived.Test.YtemlogadbopffaaGreatPv
import Derived.Test.YtemlogadbopffaaGreatRsame
import Derived.Test.YtemlogadbopffaaGreatRform
import Derived.Test.YtemlogadbopffaaGreatRoundz
namespace Go.Proofs.YtemlogadbopffaaGreat
open Go.RowKit Go.Rt Go.Rw

theorem results_c1t {P : Program} {fn : Func} {a b : Tmp} {ty t : TypeId} (h : fn.results = #[.cell a ty, .tmp b]) (tmps : Array Value) (w : World) (g : Nat) (cs : Array Value) (d : TypeDesc) (v : Value) (hx : tmps.getD a undef = .pointer (some ⟨g, 0, none⟩))
  (hv : tmps.getD b undef = v) (hc : Blk w g t cs) (hu : P.underlying ty = some d) (hd : d.isRow = true) (hi : (P.info? ty).map (·.size) = some cs.size) : (results fn tmps).run P w = .ok (.tuple #[.agg cs, v]) w := by
 have q1 := run_loadVar_mid (P := P) w g 0 ty cs.toList d hc.range hu hd (by simpa using hi)
 rw [Array.getD_eq_getD_getElem?] at hx hv
 simp [results, h, hx, hv, asAddr, q1]
theorem info58 : (Tryz.prog.info? 58).map (·.size) = some 7 := by kernel_rfl
set_option maxRecDepth 100000 in
set_option maxHeartbeats 4000000 in
theorem of24 (k : Int) (w : World) : Calls Tryz.prog 24 #[.int .i64 k] w fun e w' => e = .returned (.tuple #[.agg #[.bool (hasU (usesF k) 0), .bool (hasU (usesF k) 1), .bool (hasU (usesF k) 2), .bool (hasU (usesF k) 3), .bool (hasU (usesF k) 4), .bool (hasU (usesF k) 5), .bool (hasU (usesF k) 6)], .bool (decide (usesF k ≠ 0))]) ∧ Below w.heap.size w w' := by
 obtain ⟨u, hu⟩ : ∃ u, u = usesF k := ⟨_, rfl⟩
 rw [← hu]
 obtain ⟨p0, hp0⟩ : ∃ q, q = hasU u 0 := ⟨_, rfl⟩
 obtain ⟨p1, hp1⟩ : ∃ q, q = hasU u 1 := ⟨_, rfl⟩
 obtain ⟨p2, hp2⟩ : ∃ q, q = hasU u 2 := ⟨_, rfl⟩
 obtain ⟨p3, hp3⟩ : ∃ q, q = hasU u 3 := ⟨_, rfl⟩
 obtain ⟨p4, hp4⟩ : ∃ q, q = hasU u 4 := ⟨_, rfl⟩
 obtain ⟨p5, hp5⟩ : ∃ q, q = hasU u 5 := ⟨_, rfl⟩
 obtain ⟨p6, hp6⟩ : ∃ q, q = hasU u 6 := ⟨_, rfl⟩
 obtain ⟨p7, hp7⟩ : ∃ q, q = decide (u ≠ 0) := ⟨_, rfl⟩
 rw [← hp0, ← hp1, ← hp2, ← hp3, ← hp4, ← hp5, ← hp6, ← hp7]
 have X0 := Lib.hid (Blk.new w 58 #[.bool false, .bool false, .bool false, .bool false, .bool false, .bool false, .bool false])
 have B0 := Lib.hid ((Below.refl w.heap.size w).alloc (Nat.le_refl _) (.cells #[.bool false, .bool false, .bool false, .bool false, .bool false, .bool false, .bool false] 58))
 by_cases h1 : k = 1
 ·
  subst h1
  obtain rfl : u = 67 := hu
  obtain rfl : p0 = true := by rw [hp0]; decide
  obtain rfl : p1 = true := by rw [hp1]; decide
  obtain rfl : p2 = false := by rw [hp2]; decide
  obtain rfl : p3 = false := by rw [hp3]; decide
  obtain rfl : p4 = false := by rw [hp4]; decide
  obtain rfl : p5 = false := by rw [hp5]; decide
  obtain rfl : p6 = true := by rw [hp6]; decide
  obtain rfl : p7 = true := by rw [hp7]; decide
  clear hp0 hp1 hp2 hp3 hp4 hp5 hp6 hp7
  go_enter Tryz.func24, Tryz.ntmps24
  go_wp2_with (refine wpList_store_blk rfl 58 _ _ rfl rfl w.heap.size #[.bool true, .bool true, .bool false, .bool false, .bool false, .bool false, .bool true] _ 58 rfl rfl X0.out rfl info58 (by simp [Value.oneCell']) ?_; intro v1 b1 o1)
  exact bodyPost_ret (results_c1t rfl _ _ w.heap.size _ _ _ rfl rfl b1 Tryz.underlying58 rfl info58) rfl ⟨rfl, B0.out.trans (o1.below (by simp) B0.out.size)⟩
 by_cases h6 : k = 6
 ·
  subst h6
  obtain rfl : u = 67 := hu
  obtain rfl : p0 = true := by rw [hp0]; decide
  obtain rfl : p1 = true := by rw [hp1]; decide
  obtain rfl : p2 = false := by rw [hp2]; decide
  obtain rfl : p3 = false := by rw [hp3]; decide
  obtain rfl : p4 = false := by rw [hp4]; decide
  obtain rfl : p5 = false := by rw [hp5]; decide
  obtain rfl : p6 = true := by rw [hp6]; decide
  obtain rfl : p7 = true := by rw [hp7]; decide
  clear hp0 hp1 hp2 hp3 hp4 hp5 hp6 hp7
  go_enter Tryz.func24, Tryz.ntmps24
  go_wp2_with (refine wpList_store_blk rfl 58 _ _ rfl rfl w.heap.size #[.bool true, .bool true, .bool false, .bool false, .bool false, .bool false, .bool true] _ 58 rfl rfl X0.out rfl info58 (by simp [Value.oneCell']) ?_; intro v1 b1 o1)
  exact bodyPost_ret (results_c1t rfl _ _ w.heap.size _ _ _ rfl rfl b1 Tryz.underlying58 rfl info58) rfl ⟨rfl, B0.out.trans (o1.below (by simp) B0.out.size)⟩
 by_cases h7 : k = 7
 ·
  subst h7
  obtain rfl : u = 67 := hu
  obtain rfl : p0 = true := by rw [hp0]; decide
  obtain rfl : p1 = true := by rw [hp1]; decide
  obtain rfl : p2 = false := by rw [hp2]; decide
  obtain rfl : p3 = false := by rw [hp3]; decide
  obtain rfl : p4 = false := by rw [hp4]; decide
  obtain rfl : p5 = false := by rw [hp5]; decide
  obtain rfl : p6 = true := by rw [hp6]; decide
  obtain rfl : p7 = true := by rw [hp7]; decide
  clear hp0 hp1 hp2 hp3 hp4 hp5 hp6 hp7
  go_enter Tryz.func24, Tryz.ntmps24
  go_wp2_with (refine wpList_store_blk rfl 58 _ _ rfl rfl w.heap.size #[.bool true, .bool true, .bool false, .bool false, .bool false, .bool false, .bool true] _ 58 rfl rfl X0.out rfl info58 (by simp [Value.oneCell']) ?_; intro v1 b1 o1)
  exact bodyPost_ret (results_c1t rfl _ _ w.heap.size _ _ _ rfl rfl b1 Tryz.underlying58 rfl info58) rfl ⟨rfl, B0.out.trans (o1.below (by simp) B0.out.size)⟩
 by_cases h2 : k = 2
 ·
  subst h2
  obtain rfl : u = 77 := hu
  obtain rfl : p0 = true := by rw [hp0]; decide
  obtain rfl : p1 = false := by rw [hp1]; decide
  obtain rfl : p2 = true := by rw [hp2]; decide
  obtain rfl : p3 = true := by rw [hp3]; decide
  obtain rfl : p4 = false := by rw [hp4]; decide
  obtain rfl : p5 = false := by rw [hp5]; decide
  obtain rfl : p6 = true := by rw [hp6]; decide
  obtain rfl : p7 = true := by rw [hp7]; decide
  clear hp0 hp1 hp2 hp3 hp4 hp5 hp6 hp7
  go_enter Tryz.func24, Tryz.ntmps24
  go_wp2_with (refine wpList_store_blk rfl 58 _ _ rfl rfl w.heap.size #[.bool true, .bool false, .bool true, .bool true, .bool false, .bool false, .bool true] _ 58 rfl rfl X0.out rfl info58 (by simp [Value.oneCell']) ?_; intro v1 b1 o1)
  exact bodyPost_ret (results_c1t rfl _ _ w.heap.size _ _ _ rfl rfl b1 Tryz.underlying58 rfl info58) rfl ⟨rfl, B0.out.trans (o1.below (by simp) B0.out.size)⟩
 by_cases h3 : k = 3
 ·
  subst h3
  obtain rfl : u = 3 := hu
  obtain rfl : p0 = true := by rw [hp0]; decide
  obtain rfl : p1 = true := by rw [hp1]; decide
  obtain rfl : p2 = false := by rw [hp2]; decide
  obtain rfl : p3 = false := by rw [hp3]; decide
  obtain rfl : p4 = false := by rw [hp4]; decide
  obtain rfl : p5 = false := by rw [hp5]; decide
  obtain rfl : p6 = false := by rw [hp6]; decide
  obtain rfl : p7 = true := by rw [hp7]; decide
  clear hp0 hp1 hp2 hp3 hp4 hp5 hp6 hp7
  go_enter Tryz.func24, Tryz.ntmps24
  go_wp2_with (refine wpList_store_blk rfl 58 _ _ rfl rfl w.heap.size #[.bool true, .bool true, .bool false, .bool false, .bool false, .bool false, .bool false] _ 58 rfl rfl X0.out rfl info58 (by simp [Value.oneCell']) ?_; intro v1 b1 o1)
  exact bodyPost_ret (results_c1t rfl _ _ w.heap.size _ _ _ rfl rfl b1 Tryz.underlying58 rfl info58) rfl ⟨rfl, B0.out.trans (o1.below (by simp) B0.out.size)⟩
 by_cases h4 : k = 4
 ·
  subst h4
  obtain rfl : u = 35 := hu
  obtain rfl : p0 = true := by rw [hp0]; decide
  obtain rfl : p1 = true := by rw [hp1]; decide
  obtain rfl : p2 = false := by rw [hp2]; decide
  obtain rfl : p3 = false := by rw [hp3]; decide
  obtain rfl : p4 = false := by rw [hp4]; decide
  obtain rfl : p5 = true := by rw [hp5]; decide
  obtain rfl : p6 = false := by rw [hp6]; decide
  obtain rfl : p7 = true := by rw [hp7]; decide
  clear hp0 hp1 hp2 hp3 hp4 hp5 hp6 hp7
  go_enter Tryz.func24, Tryz.ntmps24
  go_wp2_with (refine wpList_store_blk rfl 58 _ _ rfl rfl w.heap.size #[.bool true, .bool true, .bool false, .bool false, .bool false, .bool true, .bool false] _ 58 rfl rfl X0.out rfl info58 (by simp [Value.oneCell']) ?_; intro v1 b1 o1)
  exact bodyPost_ret (results_c1t rfl _ _ w.heap.size _ _ _ rfl rfl b1 Tryz.underlying58 rfl info58) rfl ⟨rfl, B0.out.trans (o1.below (by simp) B0.out.size)⟩
 by_cases h5 : k = 5
 ·
  subst h5
  obtain rfl : u = 35 := hu
  obtain rfl : p0 = true := by rw [hp0]; decide
  obtain rfl : p1 = true := by rw [hp1]; decide
  obtain rfl : p2 = false := by rw [hp2]; decide
  obtain rfl : p3 = false := by rw [hp3]; decide
  obtain rfl : p4 = false := by rw [hp4]; decide
  obtain rfl : p5 = true := by rw [hp5]; decide
  obtain rfl : p6 = false := by rw [hp6]; decide
  obtain rfl : p7 = true := by rw [hp7]; decide
  clear hp0 hp1 hp2 hp3 hp4 hp5 hp6 hp7
  go_enter Tryz.func24, Tryz.ntmps24
  go_wp2_with (refine wpList_store_blk rfl 58 _ _ rfl rfl w.heap.size #[.bool true, .bool true, .bool false, .bool false, .bool false, .bool true, .bool false] _ 58 rfl rfl X0.out rfl info58 (by simp [Value.oneCell']) ?_; intro v1 b1 o1)
  exact bodyPost_ret (results_c1t rfl _ _ w.heap.size _ _ _ rfl rfl b1 Tryz.underlying58 rfl info58) rfl ⟨rfl, B0.out.trans (o1.below (by simp) B0.out.size)⟩
 by_cases h8 : k = 8
 ·
  subst h8
  obtain rfl : u = 19 := hu
  obtain rfl : p0 = true := by rw [hp0]; decide
  obtain rfl : p1 = true := by rw [hp1]; decide
  obtain rfl : p2 = false := by rw [hp2]; decide
  obtain rfl : p3 = false := by rw [hp3]; decide
  obtain rfl : p4 = true := by rw [hp4]; decide
  obtain rfl : p5 = false := by rw [hp5]; decide
  obtain rfl : p6 = false := by rw [hp6]; decide
  obtain rfl : p7 = true := by rw [hp7]; decide
  clear hp0 hp1 hp2 hp3 hp4 hp5 hp6 hp7
  go_enter Tryz.func24, Tryz.ntmps24
  go_wp2_with (refine wpList_store_blk rfl 58 _ _ rfl rfl w.heap.size #[.bool true, .bool true, .bool false, .bool false, .bool true, .bool false, .bool false] _ 58 rfl rfl X0.out rfl info58 (by simp [Value.oneCell']) ?_; intro v1 b1 o1)
  exact bodyPost_ret (results_c1t rfl _ _ w.heap.size _ _ _ rfl rfl b1 Tryz.underlying58 rfl info58) rfl ⟨rfl, B0.out.trans (o1.below (by simp) B0.out.size)⟩
 by_cases h9 : k = 9
 ·
  subst h9
  obtain rfl : u = 19 := hu
  obtain rfl : p0 = true := by rw [hp0]; decide
  obtain rfl : p1 = true := by rw [hp1]; decide
  obtain rfl : p2 = false := by rw [hp2]; decide
  obtain rfl : p3 = false := by rw [hp3]; decide
  obtain rfl : p4 = true := by rw [hp4]; decide
  obtain rfl : p5 = false := by rw [hp5]; decide
  obtain rfl : p6 = false := by rw [hp6]; decide
  obtain rfl : p7 = true := by rw [hp7]; decide
  clear hp0 hp1 hp2 hp3 hp4 hp5 hp6 hp7
  go_enter Tryz.func24, Tryz.ntmps24
  go_wp2_with (refine wpList_store_blk rfl 58 _ _ rfl rfl w.heap.size #[.bool true, .bool true, .bool false, .bool false, .bool true, .bool false, .bool false] _ 58 rfl rfl X0.out rfl info58 (by simp [Value.oneCell']) ?_; intro v1 b1 o1)
  exact bodyPost_ret (results_c1t rfl _ _ w.heap.size _ _ _ rfl rfl b1 Tryz.underlying58 rfl info58) rfl ⟨rfl, B0.out.trans (o1.below (by simp) B0.out.size)⟩
 by_cases h10 : k = 10
 ·
  subst h10
  obtain rfl : u = 83 := hu
  obtain rfl : p0 = true := by rw [hp0]; decide
  obtain rfl : p1 = true := by rw [hp1]; decide
  obtain rfl : p2 = false := by rw [hp2]; decide
  obtain rfl : p3 = false := by rw [hp3]; decide
  obtain rfl : p4 = true := by rw [hp4]; decide
  obtain rfl : p5 = false := by rw [hp5]; decide
  obtain rfl : p6 = true := by rw [hp6]; decide
  obtain rfl : p7 = true := by rw [hp7]; decide
  clear hp0 hp1 hp2 hp3 hp4 hp5 hp6 hp7
  go_enter Tryz.func24, Tryz.ntmps24
  go_wp2_with (refine wpList_store_blk rfl 58 _ _ rfl rfl w.heap.size #[.bool true, .bool true, .bool false, .bool false, .bool true, .bool false, .bool true] _ 58 rfl rfl X0.out rfl info58 (by simp [Value.oneCell']) ?_; intro v1 b1 o1)
  exact bodyPost_ret (results_c1t rfl _ _ w.heap.size _ _ _ rfl rfl b1 Tryz.underlying58 rfl info58) rfl ⟨rfl, B0.out.trans (o1.below (by simp) B0.out.size)⟩
 by_cases h11 : k = 11
 ·
  subst h11
  obtain rfl : u = 85 := hu
  obtain rfl : p0 = true := by rw [hp0]; decide
  obtain rfl : p1 = false := by rw [hp1]; decide
  obtain rfl : p2 = true := by rw [hp2]; decide
  obtain rfl : p3 = false := by rw [hp3]; decide
  obtain rfl : p4 = true := by rw [hp4]; decide
  obtain rfl : p5 = false := by rw [hp5]; decide
  obtain rfl : p6 = true := by rw [hp6]; decide
  obtain rfl : p7 = true := by rw [hp7]; decide
  clear hp0 hp1 hp2 hp3 hp4 hp5 hp6 hp7
  go_enter Tryz.func24, Tryz.ntmps24
  go_wp2_with (refine wpList_store_blk rfl 58 _ _ rfl rfl w.heap.size #[.bool true, .bool false, .bool true, .bool false, .bool true, .bool false, .bool true] _ 58 rfl rfl X0.out rfl info58 (by simp [Value.oneCell']) ?_; intro v1 b1 o1)
  exact bodyPost_ret (results_c1t rfl _ _ w.heap.size _ _ _ rfl rfl b1 Tryz.underlying58 rfl info58) rfl ⟨rfl, B0.out.trans (o1.below (by simp) B0.out.size)⟩
 by_cases h12 : k = 12
 ·
  subst h12
  obtain rfl : u = 86 := hu
  obtain rfl : p0 = false := by rw [hp0]; decide
  obtain rfl : p1 = true := by rw [hp1]; decide
  obtain rfl : p2 = true := by rw [hp2]; decide
  obtain rfl : p3 = false := by rw [hp3]; decide
  obtain rfl : p4 = true := by rw [hp4]; decide
  obtain rfl : p5 = false := by rw [hp5]; decide
  obtain rfl : p6 = true := by rw [hp6]; decide
  obtain rfl : p7 = true := by rw [hp7]; decide
  clear hp0 hp1 hp2 hp3 hp4 hp5 hp6 hp7
  go_enter Tryz.func24, Tryz.ntmps24
  go_wp2_with (refine wpList_store_blk rfl 58 _ _ rfl rfl w.heap.size #[.bool false, .bool true, .bool true, .bool false, .bool true, .bool false, .bool true] _ 58 rfl rfl X0.out rfl info58 (by simp [Value.oneCell']) ?_; intro v1 b1 o1)
  exact bodyPost_ret (results_c1t rfl _ _ w.heap.size _ _ _ rfl rfl b1 Tryz.underlying58 rfl info58) rfl ⟨rfl, B0.out.trans (o1.below (by simp) B0.out.size)⟩
 obtain rfl : u = 0 := by rw [hu]; unfold usesF; simp [h1, h6, h7, h2, h3, h4, h5, h8, h9, h10, h11, h12]
 have e1 : (k == 1) = false := by rw [beq_eq_false_iff_ne]; exact h1
 have e6 : (k == 6) = false := by rw [beq_eq_false_iff_ne]; exact h6
 have e7 : (k == 7) = false := by rw [beq_eq_false_iff_ne]; exact h7
 have e2 : (k == 2) = false := by rw [beq_eq_false_iff_ne]; exact h2
 have e3 : (k == 3) = false := by rw [beq_eq_false_iff_ne]; exact h3
 have e4 : (k == 4) = false := by rw [beq_eq_false_iff_ne]; exact h4
 have e5 : (k == 5) = false := by rw [beq_eq_false_iff_ne]; exact h5
 have e8 : (k == 8) = false := by rw [beq_eq_false_iff_ne]; exact h8
 have e9 : (k == 9) = false := by rw [beq_eq_false_iff_ne]; exact h9
 have e10 : (k == 10) = false := by rw [beq_eq_false_iff_ne]; exact h10
 have e11 : (k == 11) = false := by rw [beq_eq_false_iff_ne]; exact h11
 have e12 : (k == 12) = false := by rw [beq_eq_false_iff_ne]; exact h12
 obtain rfl : p0 = false := by rw [hp0]; decide
 obtain rfl : p1 = false := by rw [hp1]; decide
 obtain rfl : p2 = false := by rw [hp2]; decide
 obtain rfl : p3 = false := by rw [hp3]; decide
 obtain rfl : p4 = false := by rw [hp4]; decide
 obtain rfl : p5 = false := by rw [hp5]; decide
 obtain rfl : p6 = false := by rw [hp6]; decide
 obtain rfl : p7 = false := by rw [hp7]; decide
 clear hp0 hp1 hp2 hp3 hp4 hp5 hp6 hp7
 clear hu h1 h6 h7 h2 h3 h4 h5 h8 h9 h10 h11 h12
 go_enter Tryz.func24, Tryz.ntmps24
 go_wp2_with (refine wpList_store_blk rfl 58 _ _ rfl rfl w.heap.size #[.bool false, .bool false, .bool false, .bool false, .bool false, .bool false, .bool false] _ 58 rfl rfl X0.out rfl info58 (by simp [Value.oneCell']) ?_; intro v1 b1 o1)
 exact bodyPost_ret (results_c1t rfl _ _ w.heap.size _ _ _ rfl rfl b1 Tryz.underlying58 rfl info58) rfl ⟨rfl, B0.out.trans (o1.below (by simp) B0.out.size)⟩
def termB (has : Bool) (t : Tm) (kd : Int) : Bool := if has then validB t && (decide (kd = 0) || decide (t.f.k = kd)) else eqT t zerT
set_option maxRecDepth 100000 in
set_option maxHeartbeats 4000000 in
theorem term64 (S : Nat → Prop) (has : Bool) (t : Tm) (x : Ft) (kd : Int) (w : World) (h : TmAt S w t x) (hf : fitW t) (hz : bulk t ≤ 4611686018427387904) : Calls Tryz.prog 64 #[.bool has, ftV x, .int .i64 kd] w fun e w' => e = .returned (.bool (termB has t kd)) ∧ Below w.heap.size w w' := by
 obtain ⟨R, hR⟩ : ∃ q, q = termB has t kd := ⟨_, rfl⟩
 rw [← hR]
 have HR := Lib.hid hR
 have hk := h.its.1
 obtain ⟨_, sx, cx, vx⟩ := h.its.2.form
 obtain ⟨xf, xv⟩ := x
 dsimp only at vx hk
 subst vx
 obtain ⟨lx, hlx⟩ : ∃ l, l = t.l.length := ⟨_, rfl⟩
 rw [← hlx] at h ⊢
 have HKK : Hid (xf.k = t.f.k) := Lib.hid (by rw [hk])
 have X := Lib.hid (Blk.new w 24 #[.int .i64 xf.k, .int .i64 xf.n, .int .i64 xf.g, .string xf.nm, .string xf.fn, .int .i64 xf.ar, .slice sx lx cx, .string xf.bs, .int .i64 xf.bt])
 have B := Lib.hid ((Below.refl w.heap.size w).alloc (Nat.le_refl _) (.cells #[.int .i64 xf.k, .int .i64 xf.n, .int .i64 xf.g, .string xf.nm, .string xf.fn, .int .i64 xf.ar, .slice sx lx cx, .string xf.bs, .int .i64 xf.bt] 24))
 have H1 := h.below B.out (fun b _ h => h)
 have CV := Lib.hid (rvalid_anyW S t ⟨xf, .slice sx lx cx⟩ _ H1 hf hz)
 have CS := Lib.hid (rsame_any t zerT S S ⟨xf, .slice sx lx cx⟩ zerX _ H1 (zer_at S _))
 unfold ftV at CV CS ⊢
 dsimp only [zerX, zeroFl] at CS
 clear hR hk hlx h hf hz H1
 cases has with
 | false =>
  have HRR : Hid (R = eqT t zerT) := Lib.hid (by rw [HR.out]; rfl)
  rw [← HRR.out] at CS
  go_enter Tryz.func64, Tryz.ntmps64
  go_wp2_with (refine wpList_load_blk rfl 24 _ rfl (w.heap.size) rfl _ 24 _ X.out Tryz.underlying24 rfl info25 ?_)
  refine CS.out.mono ?_
  rintro e w2 ⟨rfl, b2⟩
  have B2 := Lib.hid (B.out.trans (b2.mono B.out.size))
  clear b2
  go_wp2_with fail
  go_ret
  exact ⟨rfl, B2.out⟩
 | true =>
  have HRR : Hid (R = (validB t && (decide (kd = 0) || decide (t.f.k = kd)))) := Lib.hid (by rw [HR.out]; rfl)
  obtain ⟨vb, hvb⟩ : ∃ q, q = validB t := ⟨_, rfl⟩
  rw [← hvb] at CV HRR
  clear hvb HR
  go_enter Tryz.func64, Tryz.ntmps64
  go_wp2_with (refine wpList_load_blk rfl 24 _ rfl (w.heap.size) rfl _ 24 _ X.out Tryz.underlying24 rfl info25 ?_)
  refine CV.out.mono ?_
  rintro e w2 ⟨rfl, b2⟩
  have B2 := Lib.hid (B.out.trans (b2.mono B.out.size))
  have X2 := Lib.hid (X.out.below b2 X.out.lt)
  have c0 : w2.cell? ⟨w.heap.size, 0, none⟩ = some (.int .i64 xf.k) := X2.out.cell 0
  clear b2
  cases vb with
  | false =>
   obtain rfl : R = false := by rw [HRR.out]; rfl
   go_wp2_with fail
   go_ret
   exact ⟨rfl, B2.out⟩
  | true =>
   by_cases h0 : kd = 0
   ·
    subst h0
    obtain rfl : R = true := by rw [HRR.out]; simp
    go_wp2_with fail
    go_ret
    exact ⟨rfl, B2.out⟩
   ·
    have e0 : (kd == 0) = false := by rw [beq_eq_false_iff_ne]; exact h0
    by_cases h1 : xf.k = kd
    ·
     obtain rfl : R = true := by rw [HRR.out, ← HKK.out]; simp [h1]
     have e1 : (xf.k == kd) = true := by rw [h1]; simp
     clear h0 h1
     go_wp2_with fail
     go_ret
     exact ⟨rfl, B2.out⟩
    ·
     obtain rfl : R = false := by rw [HRR.out, ← HKK.out]; simp [h0, h1]
     have e1 : (xf.k == kd) = false := by rw [beq_eq_false_iff_ne]; exact h1
     clear h0 h1
     go_wp2_with fail
     go_ret
     exact ⟨rfl, B2.out⟩
def nameB (has : Bool) (s : ByteArray) : Bool := if has then nameF s else decide (s = noB)
set_option maxRecDepth 100000 in
set_option maxHeartbeats 4000000 in
theorem name65 (has : Bool) (s : ByteArray) (w : World) : Calls Tryz.prog 65 #[.bool has, .string s] w fun e w' => e = .returned (.bool (nameB has s)) ∧ Below w.heap.size w w' := by
 obtain ⟨R, hR⟩ : ∃ q, q = nameB has s := ⟨_, rfl⟩
 rw [← hR]
 have HR := Lib.hid hR
 clear hR
 have CN := Lib.hid (nameR_any s w)
 cases has with
 | false =>
  by_cases h : s = noB
  ·
   subst h
   obtain rfl : R = true := by rw [HR.out]; rfl
   unfold noB
   go_enter Tryz.func65, Tryz.ntmps65
   go_wp2_with fail
   go_ret
   exact ⟨rfl, Below.refl _ _⟩
  ·
   obtain rfl : R = false := by rw [HR.out]; simp [nameB, h]
   have e0 : (s.toList == []) = false := by rw [beq_eq_false_iff_ne]; exact fun q => h (bytes_ext (q.trans (by simp [noB])))
   clear h
   go_enter Tryz.func65, Tryz.ntmps65
   go_wp2_with fail
   go_ret
   exact ⟨rfl, Below.refl _ _⟩
 | true =>
  obtain rfl : R = nameF s := by rw [HR.out]; rfl
  obtain ⟨nb, hnb⟩ : ∃ q, q = nameF s := ⟨_, rfl⟩
  rw [← hnb] at CN ⊢
  clear hnb HR
  go_enter Tryz.func65, Tryz.ntmps65
  go_wp2_with fail
  refine CN.out.mono ?_
  rintro e w2 ⟨rfl, rfl⟩
  cases nb
  all_goals
   go_wp2_with fail
   go_ret
   exact ⟨rfl, Below.refl _ _⟩
end Go.Proofs.YtemlogadbopffaaGreat
