/- PeersX: a part of the proof. No condition beyond the premises of each theorem. -/
import Derived.Test.YtoaimoemaoinhaaGreatDoorQd05
namespace Go.Proofs.YtoaimoemaoinhaaGreatDoor
open Go.RowKit Go.Rt Go.Rw
theorem heap_setMid (b : Nat) (t : TypeId) (suf : List Value) : ∀ (L old pre : List Value) (w : World), L.length = old.length → Blk w b t (pre ++ old ++ suf).toArray → Blk (w.setCells b pre.length L) b t (pre ++ L ++ suf).toArray
 | [], [], pre, w, _, h => by simpa [World.setCells] using h
 | [], _ :: _, _, _, h, _ => by simp at h
 | _ :: _, [], _, _, h, _ => by simp at h
 | v :: r, o :: old, pre, w, hl, h => by
  have h1 := h.set_ pre.length v
  have e : ((pre ++ o :: old ++ suf).toArray).setIfInBounds pre.length v = ((pre ++ [v]) ++ old ++ suf).toArray := by
   simp
  rw [e] at h1
  have := heap_setMid b t suf r old (pre ++ [v]) _ (by simpa using hl) h1
  simpa [World.setCells] using this
def atmT (s : ByteArray) : Tm := .mk ⟨2, 0, 0, s, noB, 0, noB, 0⟩ []
def atmX (s : ByteArray) : Ft := ⟨⟨2, 0, 0, s, noB, 0, noB, 0⟩, .slice none 0 0⟩
def nmbT (n : Int) : Tm := .mk ⟨1, n, 0, noB, noB, 0, noB, 0⟩ []
def nmbX (n : Int) : Ft := ⟨⟨1, n, 0, noB, noB, 0, noB, 0⟩, .slice none 0 0⟩
theorem atom_at (S : Nat → Prop) (w : World) (s : ByteArray) : TmAt S w (atmT s) (atmX s) := TmAt.of rfl (ItsAt.nil none 0)
theorem int_at (S : Nat → Prop) (w : World) (n : Int) : TmAt S w (nmbT n) (nmbX n) := TmAt.of rfl (ItsAt.nil none 0)
set_option maxRecDepth 100000 in
set_option maxHeartbeats 4000000 in
theorem mk50 (s : ByteArray) (w : World) : Calls Tryz.prog 108 #[.string s] w fun e w' => e = .returned (ftV (atmX s)) ∧ Below w.heap.size w w' := by
 have X := Lib.hid (Blk.new w 48 #[.int .i64 0, .int .i64 0, .int .i64 0, .string ⟨#[]⟩, .string ⟨#[]⟩, .int .i64 0, .slice none 0 0, .string ⟨#[]⟩, .int .i64 0])
 have B := Lib.hid ((Below.refl w.heap.size w).alloc (Nat.le_refl _) (.cells #[.int .i64 0, .int .i64 0, .int .i64 0, .string ⟨#[]⟩, .string ⟨#[]⟩, .int .i64 0, .slice none 0 0, .string ⟨#[]⟩, .int .i64 0] 48))
 go_enter Tryz.func108, Tryz.ntmps108
 go_wp2_with (refine wpList_store_blk rfl 48 _ _ rfl rfl w.heap.size #[.int .i64 2, .int .i64 0, .int .i64 0, .string s, .string ⟨#[]⟩, .int .i64 0, .slice none 0 0, .string ⟨#[]⟩, .int .i64 0] _ 48 rfl rfl X.out rfl info25 (by simp [Value.oneCell']) ?_; intro vF bF oF)
 have BF := Lib.hid (B.out.trans (oF.below (by simp) B.out.size))
 exact bodyPost_ret (results_blk rfl _ _ w.heap.size _ _ rfl bF Tryz.underlying48 rfl info25) rfl ⟨rfl, BF.out⟩
set_option maxRecDepth 100000 in
set_option maxHeartbeats 4000000 in
theorem mk57 (n : Int) (w : World) : Calls Tryz.prog 115 #[.int .i64 n] w fun e w' => e = .returned (ftV (nmbX n)) ∧ Below w.heap.size w w' := by
 have X := Lib.hid (Blk.new w 48 #[.int .i64 0, .int .i64 0, .int .i64 0, .string ⟨#[]⟩, .string ⟨#[]⟩, .int .i64 0, .slice none 0 0, .string ⟨#[]⟩, .int .i64 0])
 have B := Lib.hid ((Below.refl w.heap.size w).alloc (Nat.le_refl _) (.cells #[.int .i64 0, .int .i64 0, .int .i64 0, .string ⟨#[]⟩, .string ⟨#[]⟩, .int .i64 0, .slice none 0 0, .string ⟨#[]⟩, .int .i64 0] 48))
 go_enter Tryz.func115, Tryz.ntmps115
 go_wp2_with (refine wpList_store_blk rfl 48 _ _ rfl rfl w.heap.size #[.int .i64 1, .int .i64 n, .int .i64 0, .string ⟨#[]⟩, .string ⟨#[]⟩, .int .i64 0, .slice none 0 0, .string ⟨#[]⟩, .int .i64 0] _ 48 rfl rfl X.out rfl info25 (by simp [Value.oneCell']) ?_; intro vF bF oF)
 have BF := Lib.hid (B.out.trans (oF.below (by simp) B.out.size))
 exact bodyPost_ret (results_blk rfl _ _ w.heap.size _ _ rfl bF Tryz.underlying48 rfl info25) rfl ⟨rfl, BF.out⟩
set_option maxRecDepth 100000 in
set_option maxHeartbeats 4000000 in
theorem get45 (S : Nat → Prop) (s : Sg) (x : Sf) (w : World) (h : SgAt S w s x) : Calls Tryz.prog 103 #[sgV s x] w fun e w' => e = .returned (ftV x.a) ∧ Below w.heap.size w w' := by
 obtain ⟨_, sy, cy, ey⟩ := h.fr.its.2.form
 obtain ⟨ly, hly⟩ : ∃ q, q = s.fr.l.length := ⟨_, rfl⟩
 rw [← hly] at ey
 clear hly
 obtain ⟨yf, hyf⟩ : ∃ q, q = (x.a).f := ⟨_, rfl⟩
 obtain ⟨CS, hCS⟩ : ∃ q, q = (sgC s x).toArray := ⟨_, rfl⟩
 have HSV : Hid (sgV s x = .agg CS) := Lib.hid (by rw [hCS]; rfl)
 have HC : Hid (∀ j, j < 9 → CS[1 + j]? = #[.int .i64 yf.k, .int .i64 yf.n, .int .i64 yf.g, .string yf.nm, .string yf.fn, .int .i64 yf.ar, .slice sy ly cy, .string yf.bs, .int .i64 yf.bt][j]?) := Lib.hid (fun j hj => by
  rw [hCS, hyf, ← ey]
  rcases (show j = 0 ∨ j = 1 ∨ j = 2 ∨ j = 3 ∨ j = 4 ∨ j = 5 ∨ j = 6 ∨ j = 7 ∨ j = 8 by omega) with rfl | rfl | rfl | rfl | rfl | rfl | rfl | rfl | rfl <;> rfl)
 have HRV : Hid (ftV x.a = .agg #[.int .i64 yf.k, .int .i64 yf.n, .int .i64 yf.g, .string yf.nm, .string yf.fn, .int .i64 yf.ar, .slice sy ly cy, .string yf.bs, .int .i64 yf.bt]) := Lib.hid (by unfold ftV; rw [ey, hyf])
 rw [HRV.out]
 clear ey hyf
 rw [HSV.out]
 clear hCS h
 obtain ⟨m, hm⟩ : ∃ q, q = w.heap.size := ⟨_, rfl⟩
 have HM := Lib.hid hm
 have X := Lib.hid ((Blk.new w 50 CS).alloc (.cells #[.int .i64 0, .int .i64 0, .int .i64 0, .string ⟨#[]⟩, .string ⟨#[]⟩, .int .i64 0, .slice none 0 0, .string ⟨#[]⟩, .int .i64 0] 48))
 have Y := Lib.hid (Blk.new (w.alloc (.cells CS 50)) 48 #[.int .i64 0, .int .i64 0, .int .i64 0, .string ⟨#[]⟩, .string ⟨#[]⟩, .int .i64 0, .slice none 0 0, .string ⟨#[]⟩, .int .i64 0])
 have B := Lib.hid (((Below.refl w.heap.size w).alloc (Nat.le_refl _) (.cells CS 50)).alloc (by simp) (.cells #[.int .i64 0, .int .i64 0, .int .i64 0, .string ⟨#[]⟩, .string ⟨#[]⟩, .int .i64 0, .slice none 0 0, .string ⟨#[]⟩, .int .i64 0] 48))
 rw [World.size_alloc] at Y
 rw [← hm] at X Y
 go_enter Tryz.func103, Tryz.ntmps103
 go_upto_region 1 with fail
 rw [← hm]
 generalize (w.alloc (.cells CS 50)).alloc (.cells #[.int .i64 0, .int .i64 0, .int .i64 0, .string ⟨#[]⟩, .string ⟨#[]⟩, .int .i64 0, .slice none 0 0, .string ⟨#[]⟩, .int .i64 0] 48) = w1 at X Y B ⊢
 clear hm
 have q0 := (X.out.cell (1 + 0)).trans (HC.out 0 (by decide))
 have q1 := (X.out.cell (1 + 1)).trans (HC.out 1 (by decide))
 have q2 := (X.out.cell (1 + 2)).trans (HC.out 2 (by decide))
 have q3 := (X.out.cell (1 + 3)).trans (HC.out 3 (by decide))
 have q4 := (X.out.cell (1 + 4)).trans (HC.out 4 (by decide))
 have q5 := (X.out.cell (1 + 5)).trans (HC.out 5 (by decide))
 have q6 := (X.out.cell (1 + 6)).trans (HC.out 6 (by decide))
 have q7 := (X.out.cell (1 + 7)).trans (HC.out 7 (by decide))
 have q8 := (X.out.cell (1 + 8)).trans (HC.out 8 (by decide))
 simp only [List.getElem?_toArray, List.getElem?_cons_zero, List.getElem?_cons_succ, Nat.reduceAdd] at q0 q1 q2 q3 q4 q5 q6 q7 q8
 go_wp2_with (refine wpList_store_blk rfl 48 _ _ rfl rfl (m + 1) #[.int .i64 yf.k, .int .i64 yf.n, .int .i64 yf.g, .string yf.nm, .string yf.fn, .int .i64 yf.ar, .slice sy ly cy, .string yf.bs, .int .i64 yf.bt] _ 48 rfl rfl Y.out rfl info25 (by simp [Value.oneCell']) ?_; intro wF bF oF)
 have BF := Lib.hid (B.out.trans (oF.below (by simp; have := HM.out; omega) B.out.size))
 exact bodyPost_ret (results_blk rfl _ _ (m + 1) _ _ rfl bF Tryz.underlying48 rfl info25) rfl ⟨rfl, BF.out⟩
set_option maxRecDepth 100000 in
set_option maxHeartbeats 4000000 in
theorem get47 (S : Nat → Prop) (s : Sg) (x : Sf) (w : World) (h : SgAt S w s x) : Calls Tryz.prog 105 #[sgV s x] w fun e w' => e = .returned (ftV x.b) ∧ Below w.heap.size w w' := by
 obtain ⟨_, sy, cy, ey⟩ := h.tt.its.2.form
 obtain ⟨ly, hly⟩ : ∃ q, q = s.tt.l.length := ⟨_, rfl⟩
 rw [← hly] at ey
 clear hly
 obtain ⟨yf, hyf⟩ : ∃ q, q = (x.b).f := ⟨_, rfl⟩
 obtain ⟨CS, hCS⟩ : ∃ q, q = (sgC s x).toArray := ⟨_, rfl⟩
 have HSV : Hid (sgV s x = .agg CS) := Lib.hid (by rw [hCS]; rfl)
 have HC : Hid (∀ j, j < 9 → CS[10 + j]? = #[.int .i64 yf.k, .int .i64 yf.n, .int .i64 yf.g, .string yf.nm, .string yf.fn, .int .i64 yf.ar, .slice sy ly cy, .string yf.bs, .int .i64 yf.bt][j]?) := Lib.hid (fun j hj => by
  rw [hCS, hyf, ← ey]
  rcases (show j = 0 ∨ j = 1 ∨ j = 2 ∨ j = 3 ∨ j = 4 ∨ j = 5 ∨ j = 6 ∨ j = 7 ∨ j = 8 by omega) with rfl | rfl | rfl | rfl | rfl | rfl | rfl | rfl | rfl <;> rfl)
 have HRV : Hid (ftV x.b = .agg #[.int .i64 yf.k, .int .i64 yf.n, .int .i64 yf.g, .string yf.nm, .string yf.fn, .int .i64 yf.ar, .slice sy ly cy, .string yf.bs, .int .i64 yf.bt]) := Lib.hid (by unfold ftV; rw [ey, hyf])
 rw [HRV.out]
 clear ey hyf
 rw [HSV.out]
 clear hCS h
 obtain ⟨m, hm⟩ : ∃ q, q = w.heap.size := ⟨_, rfl⟩
 have HM := Lib.hid hm
 have X := Lib.hid ((Blk.new w 50 CS).alloc (.cells #[.int .i64 0, .int .i64 0, .int .i64 0, .string ⟨#[]⟩, .string ⟨#[]⟩, .int .i64 0, .slice none 0 0, .string ⟨#[]⟩, .int .i64 0] 48))
 have Y := Lib.hid (Blk.new (w.alloc (.cells CS 50)) 48 #[.int .i64 0, .int .i64 0, .int .i64 0, .string ⟨#[]⟩, .string ⟨#[]⟩, .int .i64 0, .slice none 0 0, .string ⟨#[]⟩, .int .i64 0])
 have B := Lib.hid (((Below.refl w.heap.size w).alloc (Nat.le_refl _) (.cells CS 50)).alloc (by simp) (.cells #[.int .i64 0, .int .i64 0, .int .i64 0, .string ⟨#[]⟩, .string ⟨#[]⟩, .int .i64 0, .slice none 0 0, .string ⟨#[]⟩, .int .i64 0] 48))
 rw [World.size_alloc] at Y
 rw [← hm] at X Y
 go_enter Tryz.func105, Tryz.ntmps105
 go_upto_region 1 with fail
 rw [← hm]
 generalize (w.alloc (.cells CS 50)).alloc (.cells #[.int .i64 0, .int .i64 0, .int .i64 0, .string ⟨#[]⟩, .string ⟨#[]⟩, .int .i64 0, .slice none 0 0, .string ⟨#[]⟩, .int .i64 0] 48) = w1 at X Y B ⊢
 clear hm
 have q0 := (X.out.cell (10 + 0)).trans (HC.out 0 (by decide))
 have q1 := (X.out.cell (10 + 1)).trans (HC.out 1 (by decide))
 have q2 := (X.out.cell (10 + 2)).trans (HC.out 2 (by decide))
 have q3 := (X.out.cell (10 + 3)).trans (HC.out 3 (by decide))
 have q4 := (X.out.cell (10 + 4)).trans (HC.out 4 (by decide))
 have q5 := (X.out.cell (10 + 5)).trans (HC.out 5 (by decide))
 have q6 := (X.out.cell (10 + 6)).trans (HC.out 6 (by decide))
 have q7 := (X.out.cell (10 + 7)).trans (HC.out 7 (by decide))
 have q8 := (X.out.cell (10 + 8)).trans (HC.out 8 (by decide))
 simp only [List.getElem?_toArray, List.getElem?_cons_zero, List.getElem?_cons_succ, Nat.reduceAdd] at q0 q1 q2 q3 q4 q5 q6 q7 q8
 go_wp2_with (refine wpList_store_blk rfl 48 _ _ rfl rfl (m + 1) #[.int .i64 yf.k, .int .i64 yf.n, .int .i64 yf.g, .string yf.nm, .string yf.fn, .int .i64 yf.ar, .slice sy ly cy, .string yf.bs, .int .i64 yf.bt] _ 48 rfl rfl Y.out rfl info25 (by simp [Value.oneCell']) ?_; intro wF bF oF)
 have BF := Lib.hid (B.out.trans (oF.below (by simp; have := HM.out; omega) B.out.size))
 exact bodyPost_ret (results_blk rfl _ _ (m + 1) _ _ rfl bF Tryz.underlying48 rfl info25) rfl ⟨rfl, BF.out⟩
set_option maxRecDepth 100000 in
set_option maxHeartbeats 4000000 in
theorem get54 (S : Nat → Prop) (s : Sg) (x : Sf) (w : World) (h : SgAt S w s x) : Calls Tryz.prog 112 #[sgV s x] w fun e w' => e = .returned (ftV x.c) ∧ Below w.heap.size w w' := by
 obtain ⟨_, sy, cy, ey⟩ := h.ref.its.2.form
 obtain ⟨ly, hly⟩ : ∃ q, q = s.ref.l.length := ⟨_, rfl⟩
 rw [← hly] at ey
 clear hly
 obtain ⟨yf, hyf⟩ : ∃ q, q = (x.c).f := ⟨_, rfl⟩
 obtain ⟨CS, hCS⟩ : ∃ q, q = (sgC s x).toArray := ⟨_, rfl⟩
 have HSV : Hid (sgV s x = .agg CS) := Lib.hid (by rw [hCS]; rfl)
 have HC : Hid (∀ j, j < 9 → CS[21 + j]? = #[.int .i64 yf.k, .int .i64 yf.n, .int .i64 yf.g, .string yf.nm, .string yf.fn, .int .i64 yf.ar, .slice sy ly cy, .string yf.bs, .int .i64 yf.bt][j]?) := Lib.hid (fun j hj => by
  rw [hCS, hyf, ← ey]
  rcases (show j = 0 ∨ j = 1 ∨ j = 2 ∨ j = 3 ∨ j = 4 ∨ j = 5 ∨ j = 6 ∨ j = 7 ∨ j = 8 by omega) with rfl | rfl | rfl | rfl | rfl | rfl | rfl | rfl | rfl <;> rfl)
 have HRV : Hid (ftV x.c = .agg #[.int .i64 yf.k, .int .i64 yf.n, .int .i64 yf.g, .string yf.nm, .string yf.fn, .int .i64 yf.ar, .slice sy ly cy, .string yf.bs, .int .i64 yf.bt]) := Lib.hid (by unfold ftV; rw [ey, hyf])
 rw [HRV.out]
 clear ey hyf
 rw [HSV.out]
 clear hCS h
 obtain ⟨m, hm⟩ : ∃ q, q = w.heap.size := ⟨_, rfl⟩
 have HM := Lib.hid hm
 have X := Lib.hid ((Blk.new w 50 CS).alloc (.cells #[.int .i64 0, .int .i64 0, .int .i64 0, .string ⟨#[]⟩, .string ⟨#[]⟩, .int .i64 0, .slice none 0 0, .string ⟨#[]⟩, .int .i64 0] 48))
 have Y := Lib.hid (Blk.new (w.alloc (.cells CS 50)) 48 #[.int .i64 0, .int .i64 0, .int .i64 0, .string ⟨#[]⟩, .string ⟨#[]⟩, .int .i64 0, .slice none 0 0, .string ⟨#[]⟩, .int .i64 0])
 have B := Lib.hid (((Below.refl w.heap.size w).alloc (Nat.le_refl _) (.cells CS 50)).alloc (by simp) (.cells #[.int .i64 0, .int .i64 0, .int .i64 0, .string ⟨#[]⟩, .string ⟨#[]⟩, .int .i64 0, .slice none 0 0, .string ⟨#[]⟩, .int .i64 0] 48))
 rw [World.size_alloc] at Y
 rw [← hm] at X Y
 go_enter Tryz.func112, Tryz.ntmps112
 go_upto_region 1 with fail
 rw [← hm]
 generalize (w.alloc (.cells CS 50)).alloc (.cells #[.int .i64 0, .int .i64 0, .int .i64 0, .string ⟨#[]⟩, .string ⟨#[]⟩, .int .i64 0, .slice none 0 0, .string ⟨#[]⟩, .int .i64 0] 48) = w1 at X Y B ⊢
 clear hm
 have q0 := (X.out.cell (21 + 0)).trans (HC.out 0 (by decide))
 have q1 := (X.out.cell (21 + 1)).trans (HC.out 1 (by decide))
 have q2 := (X.out.cell (21 + 2)).trans (HC.out 2 (by decide))
 have q3 := (X.out.cell (21 + 3)).trans (HC.out 3 (by decide))
 have q4 := (X.out.cell (21 + 4)).trans (HC.out 4 (by decide))
 have q5 := (X.out.cell (21 + 5)).trans (HC.out 5 (by decide))
 have q6 := (X.out.cell (21 + 6)).trans (HC.out 6 (by decide))
 have q7 := (X.out.cell (21 + 7)).trans (HC.out 7 (by decide))
 have q8 := (X.out.cell (21 + 8)).trans (HC.out 8 (by decide))
 simp only [List.getElem?_toArray, List.getElem?_cons_zero, List.getElem?_cons_succ, Nat.reduceAdd] at q0 q1 q2 q3 q4 q5 q6 q7 q8
 go_wp2_with (refine wpList_store_blk rfl 48 _ _ rfl rfl (m + 1) #[.int .i64 yf.k, .int .i64 yf.n, .int .i64 yf.g, .string yf.nm, .string yf.fn, .int .i64 yf.ar, .slice sy ly cy, .string yf.bs, .int .i64 yf.bt] _ 48 rfl rfl Y.out rfl info25 (by simp [Value.oneCell']) ?_; intro wF bF oF)
 have BF := Lib.hid (B.out.trans (oF.below (by simp; have := HM.out; omega) B.out.size))
 exact bodyPost_ret (results_blk rfl _ _ (m + 1) _ _ rfl bF Tryz.underlying48 rfl info25) rfl ⟨rfl, BF.out⟩
set_option maxRecDepth 100000 in
set_option maxHeartbeats 4000000 in
theorem get59 (S : Nat → Prop) (s : Sg) (x : Sf) (w : World) (h : SgAt S w s x) : Calls Tryz.prog 117 #[sgV s x] w fun e w' => e = .returned (ftV x.d) ∧ Below w.heap.size w w' := by
 obtain ⟨_, sy, cy, ey⟩ := h.val.its.2.form
 obtain ⟨ly, hly⟩ : ∃ q, q = s.val.l.length := ⟨_, rfl⟩
 rw [← hly] at ey
 clear hly
 obtain ⟨yf, hyf⟩ : ∃ q, q = (x.d).f := ⟨_, rfl⟩
 obtain ⟨CS, hCS⟩ : ∃ q, q = (sgC s x).toArray := ⟨_, rfl⟩
 have HSV : Hid (sgV s x = .agg CS) := Lib.hid (by rw [hCS]; rfl)
 have HC : Hid (∀ j, j < 9 → CS[31 + j]? = #[.int .i64 yf.k, .int .i64 yf.n, .int .i64 yf.g, .string yf.nm, .string yf.fn, .int .i64 yf.ar, .slice sy ly cy, .string yf.bs, .int .i64 yf.bt][j]?) := Lib.hid (fun j hj => by
  rw [hCS, hyf, ← ey]
  rcases (show j = 0 ∨ j = 1 ∨ j = 2 ∨ j = 3 ∨ j = 4 ∨ j = 5 ∨ j = 6 ∨ j = 7 ∨ j = 8 by omega) with rfl | rfl | rfl | rfl | rfl | rfl | rfl | rfl | rfl <;> rfl)
 have HRV : Hid (ftV x.d = .agg #[.int .i64 yf.k, .int .i64 yf.n, .int .i64 yf.g, .string yf.nm, .string yf.fn, .int .i64 yf.ar, .slice sy ly cy, .string yf.bs, .int .i64 yf.bt]) := Lib.hid (by unfold ftV; rw [ey, hyf])
 rw [HRV.out]
 clear ey hyf
 rw [HSV.out]
 clear hCS h
 obtain ⟨m, hm⟩ : ∃ q, q = w.heap.size := ⟨_, rfl⟩
 have HM := Lib.hid hm
 have X := Lib.hid ((Blk.new w 50 CS).alloc (.cells #[.int .i64 0, .int .i64 0, .int .i64 0, .string ⟨#[]⟩, .string ⟨#[]⟩, .int .i64 0, .slice none 0 0, .string ⟨#[]⟩, .int .i64 0] 48))
 have Y := Lib.hid (Blk.new (w.alloc (.cells CS 50)) 48 #[.int .i64 0, .int .i64 0, .int .i64 0, .string ⟨#[]⟩, .string ⟨#[]⟩, .int .i64 0, .slice none 0 0, .string ⟨#[]⟩, .int .i64 0])
 have B := Lib.hid (((Below.refl w.heap.size w).alloc (Nat.le_refl _) (.cells CS 50)).alloc (by simp) (.cells #[.int .i64 0, .int .i64 0, .int .i64 0, .string ⟨#[]⟩, .string ⟨#[]⟩, .int .i64 0, .slice none 0 0, .string ⟨#[]⟩, .int .i64 0] 48))
 rw [World.size_alloc] at Y
 rw [← hm] at X Y
 go_enter Tryz.func117, Tryz.ntmps117
 go_upto_region 1 with fail
 rw [← hm]
 generalize (w.alloc (.cells CS 50)).alloc (.cells #[.int .i64 0, .int .i64 0, .int .i64 0, .string ⟨#[]⟩, .string ⟨#[]⟩, .int .i64 0, .slice none 0 0, .string ⟨#[]⟩, .int .i64 0] 48) = w1 at X Y B ⊢
 clear hm
 have q0 := (X.out.cell (31 + 0)).trans (HC.out 0 (by decide))
 have q1 := (X.out.cell (31 + 1)).trans (HC.out 1 (by decide))
 have q2 := (X.out.cell (31 + 2)).trans (HC.out 2 (by decide))
 have q3 := (X.out.cell (31 + 3)).trans (HC.out 3 (by decide))
 have q4 := (X.out.cell (31 + 4)).trans (HC.out 4 (by decide))
 have q5 := (X.out.cell (31 + 5)).trans (HC.out 5 (by decide))
 have q6 := (X.out.cell (31 + 6)).trans (HC.out 6 (by decide))
 have q7 := (X.out.cell (31 + 7)).trans (HC.out 7 (by decide))
 have q8 := (X.out.cell (31 + 8)).trans (HC.out 8 (by decide))
 simp only [List.getElem?_toArray, List.getElem?_cons_zero, List.getElem?_cons_succ, Nat.reduceAdd] at q0 q1 q2 q3 q4 q5 q6 q7 q8
 go_wp2_with (refine wpList_store_blk rfl 48 _ _ rfl rfl (m + 1) #[.int .i64 yf.k, .int .i64 yf.n, .int .i64 yf.g, .string yf.nm, .string yf.fn, .int .i64 yf.ar, .slice sy ly cy, .string yf.bs, .int .i64 yf.bt] _ 48 rfl rfl Y.out rfl info25 (by simp [Value.oneCell']) ?_; intro wF bF oF)
 have BF := Lib.hid (B.out.trans (oF.below (by simp; have := HM.out; omega) B.out.size))
 exact bodyPost_ret (results_blk rfl _ _ (m + 1) _ _ rfl bF Tryz.underlying48 rfl info25) rfl ⟨rfl, BF.out⟩
set_option maxRecDepth 100000 in
set_option maxHeartbeats 4000000 in
theorem get49 (S : Nat → Prop) (s : Sg) (x : Sf) (w : World) (_ : SgAt S w s x) : Calls Tryz.prog 107 #[sgV s x] w fun e w' => e = .returned (ftV (atmX s.node)) ∧ Below w.heap.size w w' := by
 obtain ⟨CS, hCS⟩ : ∃ q, q = (sgC s x).toArray := ⟨_, rfl⟩
 have HSV : Hid (sgV s x = .agg CS) := Lib.hid (by rw [hCS]; rfl)
 have HC : Hid (CS[19]? = some (.string s.node)) := Lib.hid (by rw [hCS]; rfl)
 rw [HSV.out]
 clear hCS
 obtain ⟨m, hm⟩ : ∃ q, q = w.heap.size := ⟨_, rfl⟩
 have HM := Lib.hid hm
 have X := Lib.hid ((Blk.new w 50 CS).alloc (.cells #[.int .i64 0, .int .i64 0, .int .i64 0, .string ⟨#[]⟩, .string ⟨#[]⟩, .int .i64 0, .slice none 0 0, .string ⟨#[]⟩, .int .i64 0] 48))
 have Y := Lib.hid (Blk.new (w.alloc (.cells CS 50)) 48 #[.int .i64 0, .int .i64 0, .int .i64 0, .string ⟨#[]⟩, .string ⟨#[]⟩, .int .i64 0, .slice none 0 0, .string ⟨#[]⟩, .int .i64 0])
 have B := Lib.hid (((Below.refl w.heap.size w).alloc (Nat.le_refl _) (.cells CS 50)).alloc (by simp) (.cells #[.int .i64 0, .int .i64 0, .int .i64 0, .string ⟨#[]⟩, .string ⟨#[]⟩, .int .i64 0, .slice none 0 0, .string ⟨#[]⟩, .int .i64 0] 48))
 rw [World.size_alloc] at Y
 rw [← hm] at X Y
 have CC := Lib.hid (fun (W : World) => mk50 s.node W)
 unfold atmX ftV at CC
 dsimp only [noB] at CC
 go_enter Tryz.func107, Tryz.ntmps107
 go_upto_region 1 with fail
 rw [← hm]
 generalize (w.alloc (.cells CS 50)).alloc (.cells #[.int .i64 0, .int .i64 0, .int .i64 0, .string ⟨#[]⟩, .string ⟨#[]⟩, .int .i64 0, .slice none 0 0, .string ⟨#[]⟩, .int .i64 0] 48) = w1 at X Y B ⊢
 clear hm
 have q0 := (X.out.cell 19).trans HC.out
 go_wp2_with fail
 refine (CC.out _).mono ?_
 rintro e w2 ⟨rfl, b1⟩
 replace Y := Lib.hid (Y.out.below b1 Y.out.lt)
 replace B := Lib.hid (B.out.trans (b1.mono B.out.size))
 clear b1 q0 X
 go_wp2_with (refine wpList_store_blk rfl 48 _ _ rfl rfl (m + 1) #[.int .i64 2, .int .i64 0, .int .i64 0, .string s.node, .string ⟨#[]⟩, .int .i64 0, .slice none 0 0, .string ⟨#[]⟩, .int .i64 0] _ 48 rfl rfl Y.out rfl info25 (by simp [Value.oneCell']) ?_; intro wF bF oF)
 have BF := Lib.hid (B.out.trans (oF.below (by simp; have := HM.out; omega) B.out.size))
 exact bodyPost_ret (results_blk rfl _ _ (m + 1) _ _ rfl bF Tryz.underlying48 rfl info25) rfl ⟨rfl, BF.out⟩
set_option maxRecDepth 100000 in
set_option maxHeartbeats 4000000 in
theorem get52 (S : Nat → Prop) (s : Sg) (x : Sf) (w : World) (_ : SgAt S w s x) : Calls Tryz.prog 110 #[sgV s x] w fun e w' => e = .returned (ftV (atmX s.name)) ∧ Below w.heap.size w w' := by
 obtain ⟨CS, hCS⟩ : ∃ q, q = (sgC s x).toArray := ⟨_, rfl⟩
 have HSV : Hid (sgV s x = .agg CS) := Lib.hid (by rw [hCS]; rfl)
 have HC : Hid (CS[20]? = some (.string s.name)) := Lib.hid (by rw [hCS]; rfl)
 rw [HSV.out]
 clear hCS
 obtain ⟨m, hm⟩ : ∃ q, q = w.heap.size := ⟨_, rfl⟩
 have HM := Lib.hid hm
 have X := Lib.hid ((Blk.new w 50 CS).alloc (.cells #[.int .i64 0, .int .i64 0, .int .i64 0, .string ⟨#[]⟩, .string ⟨#[]⟩, .int .i64 0, .slice none 0 0, .string ⟨#[]⟩, .int .i64 0] 48))
 have Y := Lib.hid (Blk.new (w.alloc (.cells CS 50)) 48 #[.int .i64 0, .int .i64 0, .int .i64 0, .string ⟨#[]⟩, .string ⟨#[]⟩, .int .i64 0, .slice none 0 0, .string ⟨#[]⟩, .int .i64 0])
 have B := Lib.hid (((Below.refl w.heap.size w).alloc (Nat.le_refl _) (.cells CS 50)).alloc (by simp) (.cells #[.int .i64 0, .int .i64 0, .int .i64 0, .string ⟨#[]⟩, .string ⟨#[]⟩, .int .i64 0, .slice none 0 0, .string ⟨#[]⟩, .int .i64 0] 48))
 rw [World.size_alloc] at Y
 rw [← hm] at X Y
 have CC := Lib.hid (fun (W : World) => mk50 s.name W)
 unfold atmX ftV at CC
 dsimp only [noB] at CC
 go_enter Tryz.func110, Tryz.ntmps110
 go_upto_region 1 with fail
 rw [← hm]
 generalize (w.alloc (.cells CS 50)).alloc (.cells #[.int .i64 0, .int .i64 0, .int .i64 0, .string ⟨#[]⟩, .string ⟨#[]⟩, .int .i64 0, .slice none 0 0, .string ⟨#[]⟩, .int .i64 0] 48) = w1 at X Y B ⊢
 clear hm
 have q0 := (X.out.cell 20).trans HC.out
 go_wp2_with fail
 refine (CC.out _).mono ?_
 rintro e w2 ⟨rfl, b1⟩
 replace Y := Lib.hid (Y.out.below b1 Y.out.lt)
 replace B := Lib.hid (B.out.trans (b1.mono B.out.size))
 clear b1 q0 X
 go_wp2_with (refine wpList_store_blk rfl 48 _ _ rfl rfl (m + 1) #[.int .i64 2, .int .i64 0, .int .i64 0, .string s.name, .string ⟨#[]⟩, .int .i64 0, .slice none 0 0, .string ⟨#[]⟩, .int .i64 0] _ 48 rfl rfl Y.out rfl info25 (by simp [Value.oneCell']) ?_; intro wF bF oF)
 have BF := Lib.hid (B.out.trans (oF.below (by simp; have := HM.out; omega) B.out.size))
 exact bodyPost_ret (results_blk rfl _ _ (m + 1) _ _ rfl bF Tryz.underlying48 rfl info25) rfl ⟨rfl, BF.out⟩
set_option maxRecDepth 100000 in
set_option maxHeartbeats 4000000 in
theorem get56 (S : Nat → Prop) (s : Sg) (x : Sf) (w : World) (_ : SgAt S w s x) : Calls Tryz.prog 114 #[sgV s x] w fun e w' => e = .returned (ftV (nmbX s.num)) ∧ Below w.heap.size w w' := by
 obtain ⟨CS, hCS⟩ : ∃ q, q = (sgC s x).toArray := ⟨_, rfl⟩
 have HSV : Hid (sgV s x = .agg CS) := Lib.hid (by rw [hCS]; rfl)
 have HC : Hid (CS[30]? = some (.int .i64 s.num)) := Lib.hid (by rw [hCS]; rfl)
 rw [HSV.out]
 clear hCS
 obtain ⟨m, hm⟩ : ∃ q, q = w.heap.size := ⟨_, rfl⟩
 have HM := Lib.hid hm
 have X := Lib.hid ((Blk.new w 50 CS).alloc (.cells #[.int .i64 0, .int .i64 0, .int .i64 0, .string ⟨#[]⟩, .string ⟨#[]⟩, .int .i64 0, .slice none 0 0, .string ⟨#[]⟩, .int .i64 0] 48))
 have Y := Lib.hid (Blk.new (w.alloc (.cells CS 50)) 48 #[.int .i64 0, .int .i64 0, .int .i64 0, .string ⟨#[]⟩, .string ⟨#[]⟩, .int .i64 0, .slice none 0 0, .string ⟨#[]⟩, .int .i64 0])
 have B := Lib.hid (((Below.refl w.heap.size w).alloc (Nat.le_refl _) (.cells CS 50)).alloc (by simp) (.cells #[.int .i64 0, .int .i64 0, .int .i64 0, .string ⟨#[]⟩, .string ⟨#[]⟩, .int .i64 0, .slice none 0 0, .string ⟨#[]⟩, .int .i64 0] 48))
 rw [World.size_alloc] at Y
 rw [← hm] at X Y
 have CC := Lib.hid (fun (W : World) => mk57 s.num W)
 unfold nmbX ftV at CC
 dsimp only [noB] at CC
 go_enter Tryz.func114, Tryz.ntmps114
 go_upto_region 1 with fail
 rw [← hm]
 generalize (w.alloc (.cells CS 50)).alloc (.cells #[.int .i64 0, .int .i64 0, .int .i64 0, .string ⟨#[]⟩, .string ⟨#[]⟩, .int .i64 0, .slice none 0 0, .string ⟨#[]⟩, .int .i64 0] 48) = w1 at X Y B ⊢
 clear hm
 have q0 := (X.out.cell 30).trans HC.out
 go_wp2_with fail
 refine (CC.out _).mono ?_
 rintro e w2 ⟨rfl, b1⟩
 replace Y := Lib.hid (Y.out.below b1 Y.out.lt)
 replace B := Lib.hid (B.out.trans (b1.mono B.out.size))
 clear b1 q0 X
 go_wp2_with (refine wpList_store_blk rfl 48 _ _ rfl rfl (m + 1) #[.int .i64 1, .int .i64 s.num, .int .i64 0, .string ⟨#[]⟩, .string ⟨#[]⟩, .int .i64 0, .slice none 0 0, .string ⟨#[]⟩, .int .i64 0] _ 48 rfl rfl Y.out rfl info25 (by simp [Value.oneCell']) ?_; intro wF bF oF)
 have BF := Lib.hid (B.out.trans (oF.below (by simp; have := HM.out; omega) B.out.size))
 exact bodyPost_ret (results_blk rfl _ _ (m + 1) _ _ rfl bF Tryz.underlying48 rfl info25) rfl ⟨rfl, BF.out⟩
set_option maxRecDepth 100000 in
set_option maxHeartbeats 4000000 in
theorem set46 (s : Sg) (x : Sf) (y : Ft) (B : Nat) (w : World) (hb : Blk w B 50 (sgC s x).toArray) (hy : ∃ sy ny cy, y.v = .slice sy ny cy) :
  Calls Tryz.prog 104 #[.pointer (some ⟨B, 0, none⟩), ftV y] w fun e w' => e = .returned (.tuple #[]) ∧ Blk w' B 50 (sgC s { x with a := y }).toArray ∧ Only [B] w w' := by
 obtain ⟨k, fr, tt, node, name, ref, num, val⟩ := s
 obtain ⟨⟨fa, va⟩, ⟨fb, vb⟩, ⟨fc, vc⟩, ⟨fd, vd⟩⟩ := x
 obtain ⟨fy, vy⟩ := y
 obtain ⟨sy, ny, cy, ey⟩ := hy
 dsimp only at ey
 subst ey
 simp only [sgC, ftC, ftV, List.cons_append, List.nil_append] at hb ⊢
 have X := Lib.hid (Blk.new w 48 #[.int .i64 fy.k, .int .i64 fy.n, .int .i64 fy.g, .string fy.nm, .string fy.fn, .int .i64 fy.ar, .slice sy ny cy, .string fy.bs, .int .i64 fy.bt])
 have Y := Lib.hid (hb.alloc (.cells #[.int .i64 fy.k, .int .i64 fy.n, .int .i64 fy.g, .string fy.nm, .string fy.fn, .int .i64 fy.ar, .slice sy ny cy, .string fy.bs, .int .i64 fy.bt] 48))
 have O := Lib.hid (Only.alloc [B] w (.cells #[.int .i64 fy.k, .int .i64 fy.n, .int .i64 fy.g, .string fy.nm, .string fy.fn, .int .i64 fy.ar, .slice sy ny cy, .string fy.bs, .int .i64 fy.bt] 48))
 have HR : Hid (∀ W, Blk W B 50 #[.int .i64 k, .int .i64 fa.k, .int .i64 fa.n, .int .i64 fa.g, .string fa.nm, .string fa.fn, .int .i64 fa.ar, va, .string fa.bs, .int .i64 fa.bt, .int .i64 fb.k, .int .i64 fb.n, .int .i64 fb.g, .string fb.nm, .string fb.fn, .int .i64 fb.ar, vb, .string fb.bs, .int .i64 fb.bt, .string node, .string name, .int .i64 fc.k, .int .i64 fc.n, .int .i64 fc.g, .string fc.nm, .string fc.fn, .int .i64 fc.ar, vc, .string fc.bs, .int .i64 fc.bt, .int .i64 num, .int .i64 fd.k, .int .i64 fd.n, .int .i64 fd.g, .string fd.nm, .string fd.fn, .int .i64 fd.ar, vd, .string fd.bs, .int .i64 fd.bt] → Blk (W.setCells B 1 [.int .i64 fy.k, .int .i64 fy.n, .int .i64 fy.g, .string fy.nm, .string fy.fn, .int .i64 fy.ar, .slice sy ny cy, .string fy.bs, .int .i64 fy.bt]) B 50 #[.int .i64 k, .int .i64 fy.k, .int .i64 fy.n, .int .i64 fy.g, .string fy.nm, .string fy.fn, .int .i64 fy.ar, .slice sy ny cy, .string fy.bs, .int .i64 fy.bt, .int .i64 fb.k, .int .i64 fb.n, .int .i64 fb.g, .string fb.nm, .string fb.fn, .int .i64 fb.ar, vb, .string fb.bs, .int .i64 fb.bt, .string node, .string name, .int .i64 fc.k, .int .i64 fc.n, .int .i64 fc.g, .string fc.nm, .string fc.fn, .int .i64 fc.ar, vc, .string fc.bs, .int .i64 fc.bt, .int .i64 num, .int .i64 fd.k, .int .i64 fd.n, .int .i64 fd.g, .string fd.nm, .string fd.fn, .int .i64 fd.ar, vd, .string fd.bs, .int .i64 fd.bt]) := Lib.hid (fun W hW => heap_setMid B 50 [.int .i64 fb.k, .int .i64 fb.n, .int .i64 fb.g, .string fb.nm, .string fb.fn, .int .i64 fb.ar, vb, .string fb.bs, .int .i64 fb.bt, .string node, .string name, .int .i64 fc.k, .int .i64 fc.n, .int .i64 fc.g, .string fc.nm, .string fc.fn, .int .i64 fc.ar, vc, .string fc.bs, .int .i64 fc.bt, .int .i64 num, .int .i64 fd.k, .int .i64 fd.n, .int .i64 fd.g, .string fd.nm, .string fd.fn, .int .i64 fd.ar, vd, .string fd.bs, .int .i64 fd.bt] [.int .i64 fy.k, .int .i64 fy.n, .int .i64 fy.g, .string fy.nm, .string fy.fn, .int .i64 fy.ar, .slice sy ny cy, .string fy.bs, .int .i64 fy.bt] [.int .i64 fa.k, .int .i64 fa.n, .int .i64 fa.g, .string fa.nm, .string fa.fn, .int .i64 fa.ar, va, .string fa.bs, .int .i64 fa.bt] [.int .i64 k] W rfl hW)
 have HT : Hid ((w.alloc (.cells #[.int .i64 fy.k, .int .i64 fy.n, .int .i64 fy.g, .string fy.nm, .string fy.fn, .int .i64 fy.ar, .slice sy ny cy, .string fy.bs, .int .i64 fy.bt] 48)).there B 1 9) := Lib.hid (fun j hj => Y.out.there (1 + j) (by simp; omega) |> fun h => by simpa [Nat.add_comm, Nat.add_left_comm] using h)
 clear hb
 go_enter Tryz.func104, Tryz.ntmps104
 go_wp2_with (first | refine wpList_load_blk rfl 48 _ rfl w.heap.size rfl _ 48 _ X.out Tryz.underlying48 rfl info25 ?_ | refine wpList_store_mid rfl 48 _ _ rfl B 1 #[.int .i64 fy.k, .int .i64 fy.n, .int .i64 fy.g, .string fy.nm, .string fy.fn, .int .i64 fy.ar, .slice sy ny cy, .string fy.bs, .int .i64 fy.bt] rfl rfl HT.out info25 (by simp [Value.oneCell']) ?_)
 go_end0
 exact ⟨rfl, HR.out _ Y.out, O.out.trans (only_setCells B _ 1 _)⟩
set_option maxRecDepth 100000 in
set_option maxHeartbeats 4000000 in
theorem set48 (s : Sg) (x : Sf) (y : Ft) (B : Nat) (w : World) (hb : Blk w B 50 (sgC s x).toArray) (hy : ∃ sy ny cy, y.v = .slice sy ny cy) :
  Calls Tryz.prog 106 #[.pointer (some ⟨B, 0, none⟩), ftV y] w fun e w' => e = .returned (.tuple #[]) ∧ Blk w' B 50 (sgC s { x with b := y }).toArray ∧ Only [B] w w' := by
 obtain ⟨k, fr, tt, node, name, ref, num, val⟩ := s
 obtain ⟨⟨fa, va⟩, ⟨fb, vb⟩, ⟨fc, vc⟩, ⟨fd, vd⟩⟩ := x
 obtain ⟨fy, vy⟩ := y
 obtain ⟨sy, ny, cy, ey⟩ := hy
 dsimp only at ey
 subst ey
 simp only [sgC, ftC, ftV, List.cons_append, List.nil_append] at hb ⊢
 have X := Lib.hid (Blk.new w 48 #[.int .i64 fy.k, .int .i64 fy.n, .int .i64 fy.g, .string fy.nm, .string fy.fn, .int .i64 fy.ar, .slice sy ny cy, .string fy.bs, .int .i64 fy.bt])
 have Y := Lib.hid (hb.alloc (.cells #[.int .i64 fy.k, .int .i64 fy.n, .int .i64 fy.g, .string fy.nm, .string fy.fn, .int .i64 fy.ar, .slice sy ny cy, .string fy.bs, .int .i64 fy.bt] 48))
 have O := Lib.hid (Only.alloc [B] w (.cells #[.int .i64 fy.k, .int .i64 fy.n, .int .i64 fy.g, .string fy.nm, .string fy.fn, .int .i64 fy.ar, .slice sy ny cy, .string fy.bs, .int .i64 fy.bt] 48))
 have HR : Hid (∀ W, Blk W B 50 #[.int .i64 k, .int .i64 fa.k, .int .i64 fa.n, .int .i64 fa.g, .string fa.nm, .string fa.fn, .int .i64 fa.ar, va, .string fa.bs, .int .i64 fa.bt, .int .i64 fb.k, .int .i64 fb.n, .int .i64 fb.g, .string fb.nm, .string fb.fn, .int .i64 fb.ar, vb, .string fb.bs, .int .i64 fb.bt, .string node, .string name, .int .i64 fc.k, .int .i64 fc.n, .int .i64 fc.g, .string fc.nm, .string fc.fn, .int .i64 fc.ar, vc, .string fc.bs, .int .i64 fc.bt, .int .i64 num, .int .i64 fd.k, .int .i64 fd.n, .int .i64 fd.g, .string fd.nm, .string fd.fn, .int .i64 fd.ar, vd, .string fd.bs, .int .i64 fd.bt] → Blk (W.setCells B 10 [.int .i64 fy.k, .int .i64 fy.n, .int .i64 fy.g, .string fy.nm, .string fy.fn, .int .i64 fy.ar, .slice sy ny cy, .string fy.bs, .int .i64 fy.bt]) B 50 #[.int .i64 k, .int .i64 fa.k, .int .i64 fa.n, .int .i64 fa.g, .string fa.nm, .string fa.fn, .int .i64 fa.ar, va, .string fa.bs, .int .i64 fa.bt, .int .i64 fy.k, .int .i64 fy.n, .int .i64 fy.g, .string fy.nm, .string fy.fn, .int .i64 fy.ar, .slice sy ny cy, .string fy.bs, .int .i64 fy.bt, .string node, .string name, .int .i64 fc.k, .int .i64 fc.n, .int .i64 fc.g, .string fc.nm, .string fc.fn, .int .i64 fc.ar, vc, .string fc.bs, .int .i64 fc.bt, .int .i64 num, .int .i64 fd.k, .int .i64 fd.n, .int .i64 fd.g, .string fd.nm, .string fd.fn, .int .i64 fd.ar, vd, .string fd.bs, .int .i64 fd.bt]) := Lib.hid (fun W hW => heap_setMid B 50 [.string node, .string name, .int .i64 fc.k, .int .i64 fc.n, .int .i64 fc.g, .string fc.nm, .string fc.fn, .int .i64 fc.ar, vc, .string fc.bs, .int .i64 fc.bt, .int .i64 num, .int .i64 fd.k, .int .i64 fd.n, .int .i64 fd.g, .string fd.nm, .string fd.fn, .int .i64 fd.ar, vd, .string fd.bs, .int .i64 fd.bt] [.int .i64 fy.k, .int .i64 fy.n, .int .i64 fy.g, .string fy.nm, .string fy.fn, .int .i64 fy.ar, .slice sy ny cy, .string fy.bs, .int .i64 fy.bt] [.int .i64 fb.k, .int .i64 fb.n, .int .i64 fb.g, .string fb.nm, .string fb.fn, .int .i64 fb.ar, vb, .string fb.bs, .int .i64 fb.bt] [.int .i64 k, .int .i64 fa.k, .int .i64 fa.n, .int .i64 fa.g, .string fa.nm, .string fa.fn, .int .i64 fa.ar, va, .string fa.bs, .int .i64 fa.bt] W rfl hW)
 have HT : Hid ((w.alloc (.cells #[.int .i64 fy.k, .int .i64 fy.n, .int .i64 fy.g, .string fy.nm, .string fy.fn, .int .i64 fy.ar, .slice sy ny cy, .string fy.bs, .int .i64 fy.bt] 48)).there B 10 9) := Lib.hid (fun j hj => Y.out.there (10 + j) (by simp; omega) |> fun h => by simpa [Nat.add_comm, Nat.add_left_comm] using h)
 clear hb
 go_enter Tryz.func106, Tryz.ntmps106
 go_wp2_with (first | refine wpList_load_blk rfl 48 _ rfl w.heap.size rfl _ 48 _ X.out Tryz.underlying48 rfl info25 ?_ | refine wpList_store_mid rfl 48 _ _ rfl B 10 #[.int .i64 fy.k, .int .i64 fy.n, .int .i64 fy.g, .string fy.nm, .string fy.fn, .int .i64 fy.ar, .slice sy ny cy, .string fy.bs, .int .i64 fy.bt] rfl rfl HT.out info25 (by simp [Value.oneCell']) ?_)
 go_end0
 exact ⟨rfl, HR.out _ Y.out, O.out.trans (only_setCells B _ 10 _)⟩
set_option maxRecDepth 100000 in
set_option maxHeartbeats 4000000 in
theorem set55 (s : Sg) (x : Sf) (y : Ft) (B : Nat) (w : World) (hb : Blk w B 50 (sgC s x).toArray) (hy : ∃ sy ny cy, y.v = .slice sy ny cy) :
  Calls Tryz.prog 113 #[.pointer (some ⟨B, 0, none⟩), ftV y] w fun e w' => e = .returned (.tuple #[]) ∧ Blk w' B 50 (sgC s { x with c := y }).toArray ∧ Only [B] w w' := by
 obtain ⟨k, fr, tt, node, name, ref, num, val⟩ := s
 obtain ⟨⟨fa, va⟩, ⟨fb, vb⟩, ⟨fc, vc⟩, ⟨fd, vd⟩⟩ := x
 obtain ⟨fy, vy⟩ := y
 obtain ⟨sy, ny, cy, ey⟩ := hy
 dsimp only at ey
 subst ey
 simp only [sgC, ftC, ftV, List.cons_append, List.nil_append] at hb ⊢
 have X := Lib.hid (Blk.new w 48 #[.int .i64 fy.k, .int .i64 fy.n, .int .i64 fy.g, .string fy.nm, .string fy.fn, .int .i64 fy.ar, .slice sy ny cy, .string fy.bs, .int .i64 fy.bt])
 have Y := Lib.hid (hb.alloc (.cells #[.int .i64 fy.k, .int .i64 fy.n, .int .i64 fy.g, .string fy.nm, .string fy.fn, .int .i64 fy.ar, .slice sy ny cy, .string fy.bs, .int .i64 fy.bt] 48))
 have O := Lib.hid (Only.alloc [B] w (.cells #[.int .i64 fy.k, .int .i64 fy.n, .int .i64 fy.g, .string fy.nm, .string fy.fn, .int .i64 fy.ar, .slice sy ny cy, .string fy.bs, .int .i64 fy.bt] 48))
 have HR : Hid (∀ W, Blk W B 50 #[.int .i64 k, .int .i64 fa.k, .int .i64 fa.n, .int .i64 fa.g, .string fa.nm, .string fa.fn, .int .i64 fa.ar, va, .string fa.bs, .int .i64 fa.bt, .int .i64 fb.k, .int .i64 fb.n, .int .i64 fb.g, .string fb.nm, .string fb.fn, .int .i64 fb.ar, vb, .string fb.bs, .int .i64 fb.bt, .string node, .string name, .int .i64 fc.k, .int .i64 fc.n, .int .i64 fc.g, .string fc.nm, .string fc.fn, .int .i64 fc.ar, vc, .string fc.bs, .int .i64 fc.bt, .int .i64 num, .int .i64 fd.k, .int .i64 fd.n, .int .i64 fd.g, .string fd.nm, .string fd.fn, .int .i64 fd.ar, vd, .string fd.bs, .int .i64 fd.bt] → Blk (W.setCells B 21 [.int .i64 fy.k, .int .i64 fy.n, .int .i64 fy.g, .string fy.nm, .string fy.fn, .int .i64 fy.ar, .slice sy ny cy, .string fy.bs, .int .i64 fy.bt]) B 50 #[.int .i64 k, .int .i64 fa.k, .int .i64 fa.n, .int .i64 fa.g, .string fa.nm, .string fa.fn, .int .i64 fa.ar, va, .string fa.bs, .int .i64 fa.bt, .int .i64 fb.k, .int .i64 fb.n, .int .i64 fb.g, .string fb.nm, .string fb.fn, .int .i64 fb.ar, vb, .string fb.bs, .int .i64 fb.bt, .string node, .string name, .int .i64 fy.k, .int .i64 fy.n, .int .i64 fy.g, .string fy.nm, .string fy.fn, .int .i64 fy.ar, .slice sy ny cy, .string fy.bs, .int .i64 fy.bt, .int .i64 num, .int .i64 fd.k, .int .i64 fd.n, .int .i64 fd.g, .string fd.nm, .string fd.fn, .int .i64 fd.ar, vd, .string fd.bs, .int .i64 fd.bt]) := Lib.hid (fun W hW => heap_setMid B 50 [.int .i64 num, .int .i64 fd.k, .int .i64 fd.n, .int .i64 fd.g, .string fd.nm, .string fd.fn, .int .i64 fd.ar, vd, .string fd.bs, .int .i64 fd.bt] [.int .i64 fy.k, .int .i64 fy.n, .int .i64 fy.g, .string fy.nm, .string fy.fn, .int .i64 fy.ar, .slice sy ny cy, .string fy.bs, .int .i64 fy.bt] [.int .i64 fc.k, .int .i64 fc.n, .int .i64 fc.g, .string fc.nm, .string fc.fn, .int .i64 fc.ar, vc, .string fc.bs, .int .i64 fc.bt] [.int .i64 k, .int .i64 fa.k, .int .i64 fa.n, .int .i64 fa.g, .string fa.nm, .string fa.fn, .int .i64 fa.ar, va, .string fa.bs, .int .i64 fa.bt, .int .i64 fb.k, .int .i64 fb.n, .int .i64 fb.g, .string fb.nm, .string fb.fn, .int .i64 fb.ar, vb, .string fb.bs, .int .i64 fb.bt, .string node, .string name] W rfl hW)
 have HT : Hid ((w.alloc (.cells #[.int .i64 fy.k, .int .i64 fy.n, .int .i64 fy.g, .string fy.nm, .string fy.fn, .int .i64 fy.ar, .slice sy ny cy, .string fy.bs, .int .i64 fy.bt] 48)).there B 21 9) := Lib.hid (fun j hj => Y.out.there (21 + j) (by simp; omega) |> fun h => by simpa [Nat.add_comm, Nat.add_left_comm] using h)
 clear hb
 go_enter Tryz.func113, Tryz.ntmps113
 go_wp2_with (first | refine wpList_load_blk rfl 48 _ rfl w.heap.size rfl _ 48 _ X.out Tryz.underlying48 rfl info25 ?_ | refine wpList_store_mid rfl 48 _ _ rfl B 21 #[.int .i64 fy.k, .int .i64 fy.n, .int .i64 fy.g, .string fy.nm, .string fy.fn, .int .i64 fy.ar, .slice sy ny cy, .string fy.bs, .int .i64 fy.bt] rfl rfl HT.out info25 (by simp [Value.oneCell']) ?_)
 go_end0
 exact ⟨rfl, HR.out _ Y.out, O.out.trans (only_setCells B _ 21 _)⟩
set_option maxRecDepth 100000 in
set_option maxHeartbeats 4000000 in
theorem set60 (s : Sg) (x : Sf) (y : Ft) (B : Nat) (w : World) (hb : Blk w B 50 (sgC s x).toArray) (hy : ∃ sy ny cy, y.v = .slice sy ny cy) :
  Calls Tryz.prog 118 #[.pointer (some ⟨B, 0, none⟩), ftV y] w fun e w' => e = .returned (.tuple #[]) ∧ Blk w' B 50 (sgC s { x with d := y }).toArray ∧ Only [B] w w' := by
 obtain ⟨k, fr, tt, node, name, ref, num, val⟩ := s
 obtain ⟨⟨fa, va⟩, ⟨fb, vb⟩, ⟨fc, vc⟩, ⟨fd, vd⟩⟩ := x
 obtain ⟨fy, vy⟩ := y
 obtain ⟨sy, ny, cy, ey⟩ := hy
 dsimp only at ey
 subst ey
 simp only [sgC, ftC, ftV, List.cons_append, List.nil_append] at hb ⊢
 have X := Lib.hid (Blk.new w 48 #[.int .i64 fy.k, .int .i64 fy.n, .int .i64 fy.g, .string fy.nm, .string fy.fn, .int .i64 fy.ar, .slice sy ny cy, .string fy.bs, .int .i64 fy.bt])
 have Y := Lib.hid (hb.alloc (.cells #[.int .i64 fy.k, .int .i64 fy.n, .int .i64 fy.g, .string fy.nm, .string fy.fn, .int .i64 fy.ar, .slice sy ny cy, .string fy.bs, .int .i64 fy.bt] 48))
 have O := Lib.hid (Only.alloc [B] w (.cells #[.int .i64 fy.k, .int .i64 fy.n, .int .i64 fy.g, .string fy.nm, .string fy.fn, .int .i64 fy.ar, .slice sy ny cy, .string fy.bs, .int .i64 fy.bt] 48))
 have HR : Hid (∀ W, Blk W B 50 #[.int .i64 k, .int .i64 fa.k, .int .i64 fa.n, .int .i64 fa.g, .string fa.nm, .string fa.fn, .int .i64 fa.ar, va, .string fa.bs, .int .i64 fa.bt, .int .i64 fb.k, .int .i64 fb.n, .int .i64 fb.g, .string fb.nm, .string fb.fn, .int .i64 fb.ar, vb, .string fb.bs, .int .i64 fb.bt, .string node, .string name, .int .i64 fc.k, .int .i64 fc.n, .int .i64 fc.g, .string fc.nm, .string fc.fn, .int .i64 fc.ar, vc, .string fc.bs, .int .i64 fc.bt, .int .i64 num, .int .i64 fd.k, .int .i64 fd.n, .int .i64 fd.g, .string fd.nm, .string fd.fn, .int .i64 fd.ar, vd, .string fd.bs, .int .i64 fd.bt] → Blk (W.setCells B 31 [.int .i64 fy.k, .int .i64 fy.n, .int .i64 fy.g, .string fy.nm, .string fy.fn, .int .i64 fy.ar, .slice sy ny cy, .string fy.bs, .int .i64 fy.bt]) B 50 #[.int .i64 k, .int .i64 fa.k, .int .i64 fa.n, .int .i64 fa.g, .string fa.nm, .string fa.fn, .int .i64 fa.ar, va, .string fa.bs, .int .i64 fa.bt, .int .i64 fb.k, .int .i64 fb.n, .int .i64 fb.g, .string fb.nm, .string fb.fn, .int .i64 fb.ar, vb, .string fb.bs, .int .i64 fb.bt, .string node, .string name, .int .i64 fc.k, .int .i64 fc.n, .int .i64 fc.g, .string fc.nm, .string fc.fn, .int .i64 fc.ar, vc, .string fc.bs, .int .i64 fc.bt, .int .i64 num, .int .i64 fy.k, .int .i64 fy.n, .int .i64 fy.g, .string fy.nm, .string fy.fn, .int .i64 fy.ar, .slice sy ny cy, .string fy.bs, .int .i64 fy.bt]) := Lib.hid (fun W hW => heap_setMid B 50 [] [.int .i64 fy.k, .int .i64 fy.n, .int .i64 fy.g, .string fy.nm, .string fy.fn, .int .i64 fy.ar, .slice sy ny cy, .string fy.bs, .int .i64 fy.bt] [.int .i64 fd.k, .int .i64 fd.n, .int .i64 fd.g, .string fd.nm, .string fd.fn, .int .i64 fd.ar, vd, .string fd.bs, .int .i64 fd.bt] [.int .i64 k, .int .i64 fa.k, .int .i64 fa.n, .int .i64 fa.g, .string fa.nm, .string fa.fn, .int .i64 fa.ar, va, .string fa.bs, .int .i64 fa.bt, .int .i64 fb.k, .int .i64 fb.n, .int .i64 fb.g, .string fb.nm, .string fb.fn, .int .i64 fb.ar, vb, .string fb.bs, .int .i64 fb.bt, .string node, .string name, .int .i64 fc.k, .int .i64 fc.n, .int .i64 fc.g, .string fc.nm, .string fc.fn, .int .i64 fc.ar, vc, .string fc.bs, .int .i64 fc.bt, .int .i64 num] W rfl hW)
 have HT : Hid ((w.alloc (.cells #[.int .i64 fy.k, .int .i64 fy.n, .int .i64 fy.g, .string fy.nm, .string fy.fn, .int .i64 fy.ar, .slice sy ny cy, .string fy.bs, .int .i64 fy.bt] 48)).there B 31 9) := Lib.hid (fun j hj => Y.out.there (31 + j) (by simp; omega) |> fun h => by simpa [Nat.add_comm, Nat.add_left_comm] using h)
 clear hb
 go_enter Tryz.func118, Tryz.ntmps118
 go_wp2_with (first | refine wpList_load_blk rfl 48 _ rfl w.heap.size rfl _ 48 _ X.out Tryz.underlying48 rfl info25 ?_ | refine wpList_store_mid rfl 48 _ _ rfl B 31 #[.int .i64 fy.k, .int .i64 fy.n, .int .i64 fy.g, .string fy.nm, .string fy.fn, .int .i64 fy.ar, .slice sy ny cy, .string fy.bs, .int .i64 fy.bt] rfl rfl HT.out info25 (by simp [Value.oneCell']) ?_)
 go_end0
 exact ⟨rfl, HR.out _ Y.out, O.out.trans (only_setCells B _ 31 _)⟩
set_option maxRecDepth 100000 in
set_option maxHeartbeats 4000000 in
theorem set51 (s : Sg) (x : Sf) (y : Ft) (B : Nat) (w : World) (hb : Blk w B 50 (sgC s x).toArray) (hy : ∃ sy ny cy, y.v = .slice sy ny cy) :
  Calls Tryz.prog 109 #[.pointer (some ⟨B, 0, none⟩), ftV y] w fun e w' => e = .returned (.tuple #[]) ∧ Blk w' B 50 (sgC { s with node := y.f.nm } x).toArray ∧ Only [B] w w' := by
 obtain ⟨k, fr, tt, node, name, ref, num, val⟩ := s
 obtain ⟨⟨fa, va⟩, ⟨fb, vb⟩, ⟨fc, vc⟩, ⟨fd, vd⟩⟩ := x
 obtain ⟨fy, vy⟩ := y
 obtain ⟨sy, ny, cy, ey⟩ := hy
 dsimp only at ey
 subst ey
 simp only [sgC, ftC, ftV, List.cons_append, List.nil_append] at hb ⊢
 have X := Lib.hid (Blk.new w 48 #[.int .i64 fy.k, .int .i64 fy.n, .int .i64 fy.g, .string fy.nm, .string fy.fn, .int .i64 fy.ar, .slice sy ny cy, .string fy.bs, .int .i64 fy.bt])
 have Y := Lib.hid (hb.alloc (.cells #[.int .i64 fy.k, .int .i64 fy.n, .int .i64 fy.g, .string fy.nm, .string fy.fn, .int .i64 fy.ar, .slice sy ny cy, .string fy.bs, .int .i64 fy.bt] 48))
 have O := Lib.hid (Only.alloc [B] w (.cells #[.int .i64 fy.k, .int .i64 fy.n, .int .i64 fy.g, .string fy.nm, .string fy.fn, .int .i64 fy.ar, .slice sy ny cy, .string fy.bs, .int .i64 fy.bt] 48))
 have HR := Lib.hid (Y.out.set_ 19 (.string fy.nm))
 have q0 := X.out.cell 3
 have q1 := Y.out.cell 19
 have q2 := Y.out.frozen 19
 simp only [List.getElem?_toArray, List.getElem?_cons_zero, List.getElem?_cons_succ] at q0 q1
 clear hb
 go_enter Tryz.func109, Tryz.ntmps109
 go_wp2_with fail
 go_end0
 exact ⟨rfl, HR.out, O.out.trans (Only.setCell _ ⟨B, 19, none⟩ _ (by simp))⟩
set_option maxRecDepth 100000 in
set_option maxHeartbeats 4000000 in
theorem set53 (s : Sg) (x : Sf) (y : Ft) (B : Nat) (w : World) (hb : Blk w B 50 (sgC s x).toArray) (hy : ∃ sy ny cy, y.v = .slice sy ny cy) :
  Calls Tryz.prog 111 #[.pointer (some ⟨B, 0, none⟩), ftV y] w fun e w' => e = .returned (.tuple #[]) ∧ Blk w' B 50 (sgC { s with name := y.f.nm } x).toArray ∧ Only [B] w w' := by
 obtain ⟨k, fr, tt, node, name, ref, num, val⟩ := s
 obtain ⟨⟨fa, va⟩, ⟨fb, vb⟩, ⟨fc, vc⟩, ⟨fd, vd⟩⟩ := x
 obtain ⟨fy, vy⟩ := y
 obtain ⟨sy, ny, cy, ey⟩ := hy
 dsimp only at ey
 subst ey
 simp only [sgC, ftC, ftV, List.cons_append, List.nil_append] at hb ⊢
 have X := Lib.hid (Blk.new w 48 #[.int .i64 fy.k, .int .i64 fy.n, .int .i64 fy.g, .string fy.nm, .string fy.fn, .int .i64 fy.ar, .slice sy ny cy, .string fy.bs, .int .i64 fy.bt])
 have Y := Lib.hid (hb.alloc (.cells #[.int .i64 fy.k, .int .i64 fy.n, .int .i64 fy.g, .string fy.nm, .string fy.fn, .int .i64 fy.ar, .slice sy ny cy, .string fy.bs, .int .i64 fy.bt] 48))
 have O := Lib.hid (Only.alloc [B] w (.cells #[.int .i64 fy.k, .int .i64 fy.n, .int .i64 fy.g, .string fy.nm, .string fy.fn, .int .i64 fy.ar, .slice sy ny cy, .string fy.bs, .int .i64 fy.bt] 48))
 have HR := Lib.hid (Y.out.set_ 20 (.string fy.nm))
 have q0 := X.out.cell 3
 have q1 := Y.out.cell 20
 have q2 := Y.out.frozen 20
 simp only [List.getElem?_toArray, List.getElem?_cons_zero, List.getElem?_cons_succ] at q0 q1
 clear hb
 go_enter Tryz.func111, Tryz.ntmps111
 go_wp2_with fail
 go_end0
 exact ⟨rfl, HR.out, O.out.trans (Only.setCell _ ⟨B, 20, none⟩ _ (by simp))⟩
set_option maxRecDepth 100000 in
set_option maxHeartbeats 4000000 in
theorem set58 (s : Sg) (x : Sf) (y : Ft) (B : Nat) (w : World) (hb : Blk w B 50 (sgC s x).toArray) (hy : ∃ sy ny cy, y.v = .slice sy ny cy) :
  Calls Tryz.prog 116 #[.pointer (some ⟨B, 0, none⟩), ftV y] w fun e w' => e = .returned (.tuple #[]) ∧ Blk w' B 50 (sgC { s with num := y.f.n } x).toArray ∧ Only [B] w w' := by
 obtain ⟨k, fr, tt, node, name, ref, num, val⟩ := s
 obtain ⟨⟨fa, va⟩, ⟨fb, vb⟩, ⟨fc, vc⟩, ⟨fd, vd⟩⟩ := x
 obtain ⟨fy, vy⟩ := y
 obtain ⟨sy, ny, cy, ey⟩ := hy
 dsimp only at ey
 subst ey
 simp only [sgC, ftC, ftV, List.cons_append, List.nil_append] at hb ⊢
 have X := Lib.hid (Blk.new w 48 #[.int .i64 fy.k, .int .i64 fy.n, .int .i64 fy.g, .string fy.nm, .string fy.fn, .int .i64 fy.ar, .slice sy ny cy, .string fy.bs, .int .i64 fy.bt])
 have Y := Lib.hid (hb.alloc (.cells #[.int .i64 fy.k, .int .i64 fy.n, .int .i64 fy.g, .string fy.nm, .string fy.fn, .int .i64 fy.ar, .slice sy ny cy, .string fy.bs, .int .i64 fy.bt] 48))
 have O := Lib.hid (Only.alloc [B] w (.cells #[.int .i64 fy.k, .int .i64 fy.n, .int .i64 fy.g, .string fy.nm, .string fy.fn, .int .i64 fy.ar, .slice sy ny cy, .string fy.bs, .int .i64 fy.bt] 48))
 have HR := Lib.hid (Y.out.set_ 30 (.int .i64 fy.n))
 have q0 := X.out.cell 1
 have q1 := Y.out.cell 30
 have q2 := Y.out.frozen 30
 simp only [List.getElem?_toArray, List.getElem?_cons_zero, List.getElem?_cons_succ] at q0 q1
 clear hb
 go_enter Tryz.func116, Tryz.ntmps116
 go_wp2_with fail
 go_end0
 exact ⟨rfl, HR.out, O.out.trans (Only.setCell _ ⟨B, 30, none⟩ _ (by simp))⟩
end Go.Proofs.YtoaimoemaoinhaaGreatDoor
