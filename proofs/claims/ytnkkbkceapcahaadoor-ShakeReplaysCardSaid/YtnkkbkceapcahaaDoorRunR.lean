/- The walk of run over the closure of ShakeReplays. -/
import Derived.Test.YtnkkbkceapcahaaDoorSaid
namespace Go.Proofs.YtnkkbkceapcahaaDoor
open Go.RowKit Go.Rt Go.Rw

def SawO (w W : World) (B : Nat) (L : List Ent) (v : Value) (e : Ending) (W' : World) : Prop := e = .returned v ∧ Ss w W' L ∧ Only [B] W W'
theorem Ss.takeO {w W : World} {L : List Ent} (h : Ss w W L) (i : Nat) {B : Nat} {s : Sd} (hi : L[i]? = some (B, 46, s)) (hs : Fine s) (b : ByteArray) (hb : b.size ≤ 100000) :
    Calls Tryd.prog 14 #[.pointer (some ⟨B, 0, none⟩), .string b] W (SawO w W B (L.set i (B, 46, (takeF s b).1)) (.tuple #[.string (takeF s b).2.1, .int .i64 (takeF s b).2.2])) :=
  (take_any s hs.1 hs.2 b hb B W (h.get i hi) h.st.tabs).mono fun _ _ ⟨e, f1, f2⟩ => ⟨e, h.set i hi f1 f2, f2⟩
theorem Ss.answerO {w W : World} {L : List Ent} (h : Ss w W L) (i : Nat) {B : Nat} {s : Sd} (hi : L[i]? = some (B, 46, s)) (hs : Fine s) (how : Int) :
    Calls Tryd.prog 15 #[.pointer (some ⟨B, 0, none⟩), .int .i64 how] W (SawO w W B (L.set i (B, 46, (answerF s how).1)) (.tuple #[.string (answerF s how).2.1, .int .i64 (answerF s how).2.2])) :=
  (answer_any s hs.1 hs.2 how B W (h.get i hi)).mono fun _ _ ⟨e, f1, f2⟩ => ⟨e, h.set i hi f1 f2, f2⟩
theorem two_mem {D K : Nat} {d l : Sd} : ∀ (i : Nat) (x : Ent), [(D, (46 : TypeId), d), (K, 46, l)][i]? = some x → x.1 ∈ [D, K] := by
  intro i x h
  match i, h with
  | 0, h => simp at h; subst h; simp
  | 1, h => simp at h; subst h; simp
  | n + 2, h => simp at h
theorem Said.start {w0 W W1 : World} {N D K : Nat} (hb : Boxed W N 57 (.slice none 0 0)) (lo : w0.heap.size ≤ N) (b : Below W.heap.size W W1) (hD : W.heap.size ≤ D) (hK : W.heap.size ≤ K) (lD : D < W1.heap.size) (lK : K < W1.heap.size) : Said w0 W1 N [D, K] [] := by
  have hlt := hb.lt
  refine ⟨_, ⟨(b.block N hlt).trans hb, Sl.nil _ _ _ _ _, fun g hg => by simp [Value.ownBlock] at hg, ?_, lo, ?_⟩⟩
  · simp only [List.mem_cons, List.not_mem_nil, or_false]
    omega
  · intro r hr
    simp only [List.mem_cons, List.not_mem_nil, or_false] at hr
    rcases hr with rfl | rfl <;> assumption
/-- Both sides and the noted messages as a run leaves them. -/
def RunOutR (w0 : World) (N : Nat) (r : Ran) (e : Ending) (W' : World) : Prop := ∃ D K, e = .returned (.tuple #[.pointer (some ⟨D, 0, none⟩), .pointer (some ⟨K, 0, none⟩)]) ∧ Ss w0 W' [(D, 46, r.1), (K, 46, r.2.1)] ∧ Said w0 W' N [D, K] r.2.2
set_option maxRecDepth 100000 in
set_option maxHeartbeats 4000000 in
theorem runR_A (xd yd : Bool) (xn xw xc yn yw yc : ByteArray) (gx gy cx cy : Nat) (how : Int) (w0 W : World) (t0 : Tabs w0) (hst : St w0 W) (N : Nat) (hbox : Boxed W N 57 (.slice none 0 0)) (hlo : w0.heap.size ≤ N) (d l : Sd) (hel : ByteArray)
    (hDY : ∀ W, Calls Tryd.prog 12 #[.agg #[.string xn, .int .i64 gx], .string xw, .string xc, .int .u64 cx] W (Made 46 d hel W)) (hLY : ∀ W, Calls Tryd.prog 13 #[.agg #[.string yn, .int .i64 gy], .string yc, .int .u64 cy] W (MadeL 46 l W))
    (F0 : Fine d) (G0 : Fine l) (zh : hel.size ≤ 100000) (l1 : Sd) (o1 : ByteArray) (e1 : Nat) (h1 : takeF l hel = (l1, o1, e1)) (k1 : e1 ≠ 0) :
    Calls Tryd.prog 18 #[stgV (⟨xd, xn, gx, xw, xc, cx⟩ : Stg), stgV (⟨yd, yn, gy, yw, yc, cy⟩ : Stg), .int .i64 how, .func (.func 22) #[] #[.pointer (some ⟨N, 0, none⟩)]] W (RunOutR w0 N (d, l1, [hel])) := by
  have X0 := Lib.hid (Bx.of (x := (⟨xd, xn, gx, xw, xc, cx⟩ : Stg)) ((Blk.new W 26 #[.bool xd, .string xn, .int .i64 (gx : Int), .string xw, .string xc, .int .u64 (cx : Int)]).alloc (.cells #[.bool yd, .string yn, .int .i64 (gy : Int), .string yw, .string yc, .int .u64 (cy : Int)] 26)))
  have Y0 := Lib.hid (Bx.of (x := (⟨yd, yn, gy, yw, yc, cy⟩ : Stg)) (Blk.new (W.alloc (.cells #[.bool xd, .string xn, .int .i64 (gx : Int), .string xw, .string xc, .int .u64 (cx : Int)] 26)) 26 #[.bool yd, .string yn, .int .i64 (gy : Int), .string yw, .string yc, .int .u64 (cy : Int)]))
  have S0 := Lib.hid ((hst.alloc (.cells #[.bool xd, .string xn, .int .i64 (gx : Int), .string xw, .string xc, .int .u64 (cx : Int)] 26)).alloc (.cells #[.bool yd, .string yn, .int .i64 (gy : Int), .string yw, .string yc, .int .u64 (cy : Int)] 26))
  have BE0 := Lib.hid (((Below.refl W.heap.size W).alloc (Nat.le_refl _) (.cells #[.bool xd, .string xn, .int .i64 (gx : Int), .string xw, .string xc, .int .u64 (cx : Int)] 26)).alloc (by simp) (.cells #[.bool yd, .string yn, .int .i64 (gy : Int), .string yw, .string yc, .int .u64 (cy : Int)] 26))
  have DY := Lib.hid hDY
  have LY := Lib.hid hLY
  have T0 := Lib.hid t0
  have HB := Lib.hid hbox
  have HLO := Lib.hid hlo
  have fine0 := F0
  clear fine0
  have A1 : Hid (∀ V D K, Ss w0 V [(D, 46, d), (K, 46, l)] → Calls Tryd.prog 14 #[.pointer (some ⟨K, 0, none⟩), .string hel] V (SawO w0 V K [(D, 46, d), (K, 46, l1)] (.tuple #[.string o1, .int .i64 e1]))) :=
    Lib.hid (fun V D K h => by have := h.takeO 1 rfl G0 hel zh; rw [h1] at this; exact this)
  have q1 : ((e1 : Int) != 0) = true := by rw [bne_iff_ne]; omega
  clear t0 hst hbox hlo hDY hLY F0 G0 zh k1 h1
  unfold stgV
  go_enter Tryd.func18, Tryd.ntmps18
  obtain ⟨c0, c1, c2, c3, c4, c5⟩ := X0.out
  obtain ⟨d0, d1, d2, d3, d4, d5⟩ := Y0.out
  dsimp only at c0 c1 c2 c3 c4 c5
  simp only [World.size_alloc] at d0 d1 d2 d3 d4 d5
  have SS0 := Lib.hid (Ss.ofSt S0.out)
  go_wp2_with fail
  refine (DY.out _).mono ?_
  rintro e w1 ⟨D, rfl, gB, kB, b1⟩
  have SS1 := Lib.hid (SS0.out.add kB gB b1)
  have BE1 := Lib.hid (BE0.out.trans (b1.mono BE0.out.size))
  have GE1 : Hid (W.heap.size ≤ D) := Lib.hid (Nat.le_trans BE0.out.size gB)
  clear c0 c1 c2 c3 c4 c5 d0 d1 d2 d3 d4 d5
  have X1 := Lib.hid (X0.out.below b1)
  have Y1 := Lib.hid (Y0.out.below b1)
  obtain ⟨c0, c1, c2, c3, c4, c5⟩ := X1.out
  obtain ⟨d0, d1, d2, d3, d4, d5⟩ := Y1.out
  dsimp only at c0 c1 c2 c3 c4 c5
  simp only [World.size_alloc] at d0 d1 d2 d3 d4 d5
  clear b1 SS0 X0 Y0 gB kB
  go_wp2_with fail
  refine (LY.out _).mono ?_
  rintro e w2 ⟨K, rfl, gB, kB, b2⟩
  have SS2 := Lib.hid (SS1.out.add kB gB b2)
  have BE2 := Lib.hid (BE1.out.trans (b2.mono BE1.out.size))
  have GE2 : Hid (W.heap.size ≤ K) := Lib.hid (Nat.le_trans BE1.out.size gB)
  clear c0 c1 c2 c3 c4 c5 d0 d1 d2 d3 d4 d5
  have X2 := Lib.hid (X1.out.below b2)
  have Y2 := Lib.hid (Y1.out.below b2)
  clear b2 SS1 X1 Y1 gB kB
  have SD2 := Lib.hid (Said.start HB.out HLO.out BE2.out GE1.out GE2.out (SS2.out.get 0 rfl).lt (SS2.out.get 1 rfl).lt)
  clear X2 Y2 S0 BE0 BE1 BE2 GE1 GE2
  go_wp2_with fail
  refine (note_any SD2.out (by simp) SS2.out.st.bel.size 0 hel).mono ?_
  rintro e w3 ⟨rfl, nt⟩
  have SS3 := Lib.hid (SS2.out.noted T0.out nt two_mem)
  have SD3 : Hid (Said w0 w3 N [D, K] [hel]) := Lib.hid nt.said
  clear nt SS2 SD2
  go_wp2_with fail
  refine (A1.out _ D K SS3.out).mono ?_
  rintro e w4 ⟨rfl, s4, on⟩
  have SS4 := Lib.hid s4
  have SD4 := Lib.hid (SD3.out.only on (by simp))
  clear s4 on SS3 SD3
  go_wp2
  go_ret2
  exact ⟨D, K, rfl, SS4.out, SD4.out⟩
set_option maxRecDepth 100000 in
set_option maxHeartbeats 4000000 in
theorem runR_B (xd yd : Bool) (xn xw xc yn yw yc : ByteArray) (gx gy cx cy : Nat) (how : Int) (w0 W : World) (t0 : Tabs w0) (hst : St w0 W) (N : Nat) (hbox : Boxed W N 57 (.slice none 0 0)) (hlo : w0.heap.size ≤ N) (d l : Sd) (hel : ByteArray)
    (hDY : ∀ W, Calls Tryd.prog 12 #[.agg #[.string xn, .int .i64 gx], .string xw, .string xc, .int .u64 cx] W (Made 46 d hel W)) (hLY : ∀ W, Calls Tryd.prog 13 #[.agg #[.string yn, .int .i64 gy], .string yc, .int .u64 cy] W (MadeL 46 l W))
    (F0 : Fine d) (G0 : Fine l) (zh : hel.size ≤ 100000) (l1 : Sd) (o1 : ByteArray) (e1 : Nat) (h1 : takeF l hel = (l1, o1, e1)) (k1 : e1 = 0) (l2 : Sd) (o2 : ByteArray) (e2 : Nat) (h2 : answerF l1 how = (l2, o2, e2)) (d1 : Sd) (o3 : ByteArray) (e3 : Nat) (h3 : takeF d o2 = (d1, o3, e3)) (k3 : e3 ≠ 0) :
    Calls Tryd.prog 18 #[stgV (⟨xd, xn, gx, xw, xc, cx⟩ : Stg), stgV (⟨yd, yn, gy, yw, yc, cy⟩ : Stg), .int .i64 how, .func (.func 22) #[] #[.pointer (some ⟨N, 0, none⟩)]] W (RunOutR w0 N (d1, l2, [hel, o2])) := by
  have X0 := Lib.hid (Bx.of (x := (⟨xd, xn, gx, xw, xc, cx⟩ : Stg)) ((Blk.new W 26 #[.bool xd, .string xn, .int .i64 (gx : Int), .string xw, .string xc, .int .u64 (cx : Int)]).alloc (.cells #[.bool yd, .string yn, .int .i64 (gy : Int), .string yw, .string yc, .int .u64 (cy : Int)] 26)))
  have Y0 := Lib.hid (Bx.of (x := (⟨yd, yn, gy, yw, yc, cy⟩ : Stg)) (Blk.new (W.alloc (.cells #[.bool xd, .string xn, .int .i64 (gx : Int), .string xw, .string xc, .int .u64 (cx : Int)] 26)) 26 #[.bool yd, .string yn, .int .i64 (gy : Int), .string yw, .string yc, .int .u64 (cy : Int)]))
  have S0 := Lib.hid ((hst.alloc (.cells #[.bool xd, .string xn, .int .i64 (gx : Int), .string xw, .string xc, .int .u64 (cx : Int)] 26)).alloc (.cells #[.bool yd, .string yn, .int .i64 (gy : Int), .string yw, .string yc, .int .u64 (cy : Int)] 26))
  have BE0 := Lib.hid (((Below.refl W.heap.size W).alloc (Nat.le_refl _) (.cells #[.bool xd, .string xn, .int .i64 (gx : Int), .string xw, .string xc, .int .u64 (cx : Int)] 26)).alloc (by simp) (.cells #[.bool yd, .string yn, .int .i64 (gy : Int), .string yw, .string yc, .int .u64 (cy : Int)] 26))
  have DY := Lib.hid hDY
  have LY := Lib.hid hLY
  have T0 := Lib.hid t0
  have HB := Lib.hid hbox
  have HLO := Lib.hid hlo
  have fine0 := F0
  clear fine0
  have A1 : Hid (∀ V D K, Ss w0 V [(D, 46, d), (K, 46, l)] → Calls Tryd.prog 14 #[.pointer (some ⟨K, 0, none⟩), .string hel] V (SawO w0 V K [(D, 46, d), (K, 46, l1)] (.tuple #[.string o1, .int .i64 e1]))) :=
    Lib.hid (fun V D K h => by have := h.takeO 1 rfl G0 hel zh; rw [h1] at this; exact this)
  have G1 : Fine l1 := by have := G0.take hel; rw [h1] at this; exact this
  have A2 : Hid (∀ V D K, Ss w0 V [(D, 46, d), (K, 46, l1)] → Calls Tryd.prog 15 #[.pointer (some ⟨K, 0, none⟩), .int .i64 how] V (SawO w0 V K [(D, 46, d), (K, 46, l2)] (.tuple #[.string o2, .int .i64 e2]))) :=
    Lib.hid (fun V D K h => by have := h.answerO 1 rfl G1 how; rw [h2] at this; exact this)
  have y2 : o2.size ≤ 100 := by have := answer_out l1 G1 how; rw [h2] at this; exact this
  have A3 : Hid (∀ V D K, Ss w0 V [(D, 46, d), (K, 46, l2)] → Calls Tryd.prog 14 #[.pointer (some ⟨D, 0, none⟩), .string o2] V (SawO w0 V D [(D, 46, d1), (K, 46, l2)] (.tuple #[.string o3, .int .i64 e3]))) :=
    Lib.hid (fun V D K h => by have := h.takeO 0 rfl F0 o2 (by omega); rw [h3] at this; exact this)
  have q1 : ((e1 : Int) != 0) = false := by rw [bne_eq_false_iff_eq]; omega
  have q3 : ((e3 : Int) != 0) = true := by rw [bne_iff_ne]; omega
  clear t0 hst hbox hlo hDY hLY F0 G0 zh k1 k3 h1 G1 h2 y2 h3
  unfold stgV
  go_enter Tryd.func18, Tryd.ntmps18
  obtain ⟨c0, c1, c2, c3, c4, c5⟩ := X0.out
  obtain ⟨d0, d1, d2, d3, d4, d5⟩ := Y0.out
  dsimp only at c0 c1 c2 c3 c4 c5
  simp only [World.size_alloc] at d0 d1 d2 d3 d4 d5
  have SS0 := Lib.hid (Ss.ofSt S0.out)
  go_wp2_with fail
  refine (DY.out _).mono ?_
  rintro e w1 ⟨D, rfl, gB, kB, b1⟩
  have SS1 := Lib.hid (SS0.out.add kB gB b1)
  have BE1 := Lib.hid (BE0.out.trans (b1.mono BE0.out.size))
  have GE1 : Hid (W.heap.size ≤ D) := Lib.hid (Nat.le_trans BE0.out.size gB)
  clear c0 c1 c2 c3 c4 c5 d0 d1 d2 d3 d4 d5
  have X1 := Lib.hid (X0.out.below b1)
  have Y1 := Lib.hid (Y0.out.below b1)
  obtain ⟨c0, c1, c2, c3, c4, c5⟩ := X1.out
  obtain ⟨d0, d1, d2, d3, d4, d5⟩ := Y1.out
  dsimp only at c0 c1 c2 c3 c4 c5
  simp only [World.size_alloc] at d0 d1 d2 d3 d4 d5
  clear b1 SS0 X0 Y0 gB kB
  go_wp2_with fail
  refine (LY.out _).mono ?_
  rintro e w2 ⟨K, rfl, gB, kB, b2⟩
  have SS2 := Lib.hid (SS1.out.add kB gB b2)
  have BE2 := Lib.hid (BE1.out.trans (b2.mono BE1.out.size))
  have GE2 : Hid (W.heap.size ≤ K) := Lib.hid (Nat.le_trans BE1.out.size gB)
  clear c0 c1 c2 c3 c4 c5 d0 d1 d2 d3 d4 d5
  have X2 := Lib.hid (X1.out.below b2)
  have Y2 := Lib.hid (Y1.out.below b2)
  clear b2 SS1 X1 Y1 gB kB
  have SD2 := Lib.hid (Said.start HB.out HLO.out BE2.out GE1.out GE2.out (SS2.out.get 0 rfl).lt (SS2.out.get 1 rfl).lt)
  clear X2 Y2 S0 BE0 BE1 BE2 GE1 GE2
  go_wp2_with fail
  refine (note_any SD2.out (by simp) SS2.out.st.bel.size 0 hel).mono ?_
  rintro e w3 ⟨rfl, nt⟩
  have SS3 := Lib.hid (SS2.out.noted T0.out nt two_mem)
  have SD3 : Hid (Said w0 w3 N [D, K] [hel]) := Lib.hid nt.said
  clear nt SS2 SD2
  go_wp2_with fail
  refine (A1.out _ D K SS3.out).mono ?_
  rintro e w4 ⟨rfl, s4, on⟩
  have SS4 := Lib.hid s4
  have SD4 := Lib.hid (SD3.out.only on (by simp))
  clear s4 on SS3 SD3
  go_wp2_with fail
  refine (A2.out _ D K SS4.out).mono ?_
  rintro e w5 ⟨rfl, s5, on⟩
  have SS5 := Lib.hid s5
  have SD5 := Lib.hid (SD4.out.only on (by simp))
  clear s5 on SS4 SD4
  go_wp2_with fail
  refine (note_any SD5.out (by simp) SS5.out.st.bel.size 1 o2).mono ?_
  rintro e w6 ⟨rfl, nt⟩
  have SS6 := Lib.hid (SS5.out.noted T0.out nt two_mem)
  have SD6 : Hid (Said w0 w6 N [D, K] [hel, o2]) := Lib.hid nt.said
  clear nt SS5 SD5
  go_wp2_with fail
  refine (A3.out _ D K SS6.out).mono ?_
  rintro e w7 ⟨rfl, s7, on⟩
  have SS7 := Lib.hid s7
  have SD7 := Lib.hid (SD6.out.only on (by simp))
  clear s7 on SS6 SD6
  go_wp2
  go_ret2
  exact ⟨D, K, rfl, SS7.out, SD7.out⟩
set_option maxRecDepth 100000 in
set_option maxHeartbeats 4000000 in
theorem runR_C (xd yd : Bool) (xn xw xc yn yw yc : ByteArray) (gx gy cx cy : Nat) (how : Int) (w0 W : World) (t0 : Tabs w0) (hst : St w0 W) (N : Nat) (hbox : Boxed W N 57 (.slice none 0 0)) (hlo : w0.heap.size ≤ N) (d l : Sd) (hel : ByteArray)
    (hDY : ∀ W, Calls Tryd.prog 12 #[.agg #[.string xn, .int .i64 gx], .string xw, .string xc, .int .u64 cx] W (Made 46 d hel W)) (hLY : ∀ W, Calls Tryd.prog 13 #[.agg #[.string yn, .int .i64 gy], .string yc, .int .u64 cy] W (MadeL 46 l W))
    (F0 : Fine d) (G0 : Fine l) (zh : hel.size ≤ 100000) (l1 : Sd) (o1 : ByteArray) (e1 : Nat) (h1 : takeF l hel = (l1, o1, e1)) (k1 : e1 = 0) (l2 : Sd) (o2 : ByteArray) (e2 : Nat) (h2 : answerF l1 how = (l2, o2, e2)) (d1 : Sd) (o3 : ByteArray) (e3 : Nat) (h3 : takeF d o2 = (d1, o3, e3)) (k3 : e3 = 0) (l3 : Sd) (o4 : ByteArray) (e4 : Nat) (h4 : takeF l2 o3 = (l3, o4, e4)) (k4 : e4 ≠ 0) :
    Calls Tryd.prog 18 #[stgV (⟨xd, xn, gx, xw, xc, cx⟩ : Stg), stgV (⟨yd, yn, gy, yw, yc, cy⟩ : Stg), .int .i64 how, .func (.func 22) #[] #[.pointer (some ⟨N, 0, none⟩)]] W (RunOutR w0 N (d1, l3, [hel, o2, o3])) := by
  have X0 := Lib.hid (Bx.of (x := (⟨xd, xn, gx, xw, xc, cx⟩ : Stg)) ((Blk.new W 26 #[.bool xd, .string xn, .int .i64 (gx : Int), .string xw, .string xc, .int .u64 (cx : Int)]).alloc (.cells #[.bool yd, .string yn, .int .i64 (gy : Int), .string yw, .string yc, .int .u64 (cy : Int)] 26)))
  have Y0 := Lib.hid (Bx.of (x := (⟨yd, yn, gy, yw, yc, cy⟩ : Stg)) (Blk.new (W.alloc (.cells #[.bool xd, .string xn, .int .i64 (gx : Int), .string xw, .string xc, .int .u64 (cx : Int)] 26)) 26 #[.bool yd, .string yn, .int .i64 (gy : Int), .string yw, .string yc, .int .u64 (cy : Int)]))
  have S0 := Lib.hid ((hst.alloc (.cells #[.bool xd, .string xn, .int .i64 (gx : Int), .string xw, .string xc, .int .u64 (cx : Int)] 26)).alloc (.cells #[.bool yd, .string yn, .int .i64 (gy : Int), .string yw, .string yc, .int .u64 (cy : Int)] 26))
  have BE0 := Lib.hid (((Below.refl W.heap.size W).alloc (Nat.le_refl _) (.cells #[.bool xd, .string xn, .int .i64 (gx : Int), .string xw, .string xc, .int .u64 (cx : Int)] 26)).alloc (by simp) (.cells #[.bool yd, .string yn, .int .i64 (gy : Int), .string yw, .string yc, .int .u64 (cy : Int)] 26))
  have DY := Lib.hid hDY
  have LY := Lib.hid hLY
  have T0 := Lib.hid t0
  have HB := Lib.hid hbox
  have HLO := Lib.hid hlo
  have fine0 := F0
  clear fine0
  have A1 : Hid (∀ V D K, Ss w0 V [(D, 46, d), (K, 46, l)] → Calls Tryd.prog 14 #[.pointer (some ⟨K, 0, none⟩), .string hel] V (SawO w0 V K [(D, 46, d), (K, 46, l1)] (.tuple #[.string o1, .int .i64 e1]))) :=
    Lib.hid (fun V D K h => by have := h.takeO 1 rfl G0 hel zh; rw [h1] at this; exact this)
  have G1 : Fine l1 := by have := G0.take hel; rw [h1] at this; exact this
  have A2 : Hid (∀ V D K, Ss w0 V [(D, 46, d), (K, 46, l1)] → Calls Tryd.prog 15 #[.pointer (some ⟨K, 0, none⟩), .int .i64 how] V (SawO w0 V K [(D, 46, d), (K, 46, l2)] (.tuple #[.string o2, .int .i64 e2]))) :=
    Lib.hid (fun V D K h => by have := h.answerO 1 rfl G1 how; rw [h2] at this; exact this)
  have y2 : o2.size ≤ 100 := by have := answer_out l1 G1 how; rw [h2] at this; exact this
  have A3 : Hid (∀ V D K, Ss w0 V [(D, 46, d), (K, 46, l2)] → Calls Tryd.prog 14 #[.pointer (some ⟨D, 0, none⟩), .string o2] V (SawO w0 V D [(D, 46, d1), (K, 46, l2)] (.tuple #[.string o3, .int .i64 e3]))) :=
    Lib.hid (fun V D K h => by have := h.takeO 0 rfl F0 o2 (by omega); rw [h3] at this; exact this)
  have G2 : Fine l2 := by have := G1.answer how; rw [h2] at this; exact this
  have y3 : o3.size ≤ 100 := by have := take_out d o2; rw [h3] at this; exact this
  have A4 : Hid (∀ V D K, Ss w0 V [(D, 46, d1), (K, 46, l2)] → Calls Tryd.prog 14 #[.pointer (some ⟨K, 0, none⟩), .string o3] V (SawO w0 V K [(D, 46, d1), (K, 46, l3)] (.tuple #[.string o4, .int .i64 e4]))) :=
    Lib.hid (fun V D K h => by have := h.takeO 1 rfl G2 o3 (by omega); rw [h4] at this; exact this)
  have q1 : ((e1 : Int) != 0) = false := by rw [bne_eq_false_iff_eq]; omega
  have q3 : ((e3 : Int) != 0) = false := by rw [bne_eq_false_iff_eq]; omega
  have q4 : ((e4 : Int) != 0) = true := by rw [bne_iff_ne]; omega
  clear t0 hst hbox hlo hDY hLY F0 G0 zh k1 k3 k4 h1 G1 h2 y2 h3 G2 y3 h4
  unfold stgV
  go_enter Tryd.func18, Tryd.ntmps18
  obtain ⟨c0, c1, c2, c3, c4, c5⟩ := X0.out
  obtain ⟨d0, d1, d2, d3, d4, d5⟩ := Y0.out
  dsimp only at c0 c1 c2 c3 c4 c5
  simp only [World.size_alloc] at d0 d1 d2 d3 d4 d5
  have SS0 := Lib.hid (Ss.ofSt S0.out)
  go_wp2_with fail
  refine (DY.out _).mono ?_
  rintro e w1 ⟨D, rfl, gB, kB, b1⟩
  have SS1 := Lib.hid (SS0.out.add kB gB b1)
  have BE1 := Lib.hid (BE0.out.trans (b1.mono BE0.out.size))
  have GE1 : Hid (W.heap.size ≤ D) := Lib.hid (Nat.le_trans BE0.out.size gB)
  clear c0 c1 c2 c3 c4 c5 d0 d1 d2 d3 d4 d5
  have X1 := Lib.hid (X0.out.below b1)
  have Y1 := Lib.hid (Y0.out.below b1)
  obtain ⟨c0, c1, c2, c3, c4, c5⟩ := X1.out
  obtain ⟨d0, d1, d2, d3, d4, d5⟩ := Y1.out
  dsimp only at c0 c1 c2 c3 c4 c5
  simp only [World.size_alloc] at d0 d1 d2 d3 d4 d5
  clear b1 SS0 X0 Y0 gB kB
  go_wp2_with fail
  refine (LY.out _).mono ?_
  rintro e w2 ⟨K, rfl, gB, kB, b2⟩
  have SS2 := Lib.hid (SS1.out.add kB gB b2)
  have BE2 := Lib.hid (BE1.out.trans (b2.mono BE1.out.size))
  have GE2 : Hid (W.heap.size ≤ K) := Lib.hid (Nat.le_trans BE1.out.size gB)
  clear c0 c1 c2 c3 c4 c5 d0 d1 d2 d3 d4 d5
  have X2 := Lib.hid (X1.out.below b2)
  have Y2 := Lib.hid (Y1.out.below b2)
  clear b2 SS1 X1 Y1 gB kB
  have SD2 := Lib.hid (Said.start HB.out HLO.out BE2.out GE1.out GE2.out (SS2.out.get 0 rfl).lt (SS2.out.get 1 rfl).lt)
  clear X2 Y2 S0 BE0 BE1 BE2 GE1 GE2
  go_wp2_with fail
  refine (note_any SD2.out (by simp) SS2.out.st.bel.size 0 hel).mono ?_
  rintro e w3 ⟨rfl, nt⟩
  have SS3 := Lib.hid (SS2.out.noted T0.out nt two_mem)
  have SD3 : Hid (Said w0 w3 N [D, K] [hel]) := Lib.hid nt.said
  clear nt SS2 SD2
  go_wp2_with fail
  refine (A1.out _ D K SS3.out).mono ?_
  rintro e w4 ⟨rfl, s4, on⟩
  have SS4 := Lib.hid s4
  have SD4 := Lib.hid (SD3.out.only on (by simp))
  clear s4 on SS3 SD3
  go_wp2_with fail
  refine (A2.out _ D K SS4.out).mono ?_
  rintro e w5 ⟨rfl, s5, on⟩
  have SS5 := Lib.hid s5
  have SD5 := Lib.hid (SD4.out.only on (by simp))
  clear s5 on SS4 SD4
  go_wp2_with fail
  refine (note_any SD5.out (by simp) SS5.out.st.bel.size 1 o2).mono ?_
  rintro e w6 ⟨rfl, nt⟩
  have SS6 := Lib.hid (SS5.out.noted T0.out nt two_mem)
  have SD6 : Hid (Said w0 w6 N [D, K] [hel, o2]) := Lib.hid nt.said
  clear nt SS5 SD5
  go_wp2_with fail
  refine (A3.out _ D K SS6.out).mono ?_
  rintro e w7 ⟨rfl, s7, on⟩
  have SS7 := Lib.hid s7
  have SD7 := Lib.hid (SD6.out.only on (by simp))
  clear s7 on SS6 SD6
  go_wp2_with fail
  refine (note_any SD7.out (by simp) SS7.out.st.bel.size 2 o3).mono ?_
  rintro e w8 ⟨rfl, nt⟩
  have SS8 := Lib.hid (SS7.out.noted T0.out nt two_mem)
  have SD8 : Hid (Said w0 w8 N [D, K] [hel, o2, o3]) := Lib.hid nt.said
  clear nt SS7 SD7
  go_wp2_with fail
  refine (A4.out _ D K SS8.out).mono ?_
  rintro e w9 ⟨rfl, s9, on⟩
  have SS9 := Lib.hid s9
  have SD9 := Lib.hid (SD8.out.only on (by simp))
  clear s9 on SS8 SD8
  go_wp2
  go_ret2
  exact ⟨D, K, rfl, SS9.out, SD9.out⟩
set_option maxRecDepth 100000 in
set_option maxHeartbeats 4000000 in
theorem runR_D (xd yd : Bool) (xn xw xc yn yw yc : ByteArray) (gx gy cx cy : Nat) (how : Int) (w0 W : World) (t0 : Tabs w0) (hst : St w0 W) (N : Nat) (hbox : Boxed W N 57 (.slice none 0 0)) (hlo : w0.heap.size ≤ N) (d l : Sd) (hel : ByteArray)
    (hDY : ∀ W, Calls Tryd.prog 12 #[.agg #[.string xn, .int .i64 gx], .string xw, .string xc, .int .u64 cx] W (Made 46 d hel W)) (hLY : ∀ W, Calls Tryd.prog 13 #[.agg #[.string yn, .int .i64 gy], .string yc, .int .u64 cy] W (MadeL 46 l W))
    (F0 : Fine d) (G0 : Fine l) (zh : hel.size ≤ 100000) (l1 : Sd) (o1 : ByteArray) (e1 : Nat) (h1 : takeF l hel = (l1, o1, e1)) (k1 : e1 = 0) (l2 : Sd) (o2 : ByteArray) (e2 : Nat) (h2 : answerF l1 how = (l2, o2, e2)) (d1 : Sd) (o3 : ByteArray) (e3 : Nat) (h3 : takeF d o2 = (d1, o3, e3)) (k3 : e3 = 0) (l3 : Sd) (o4 : ByteArray) (e4 : Nat) (h4 : takeF l2 o3 = (l3, o4, e4)) (k4 : e4 = 0) (d2 : Sd) (o5 : ByteArray) (e5 : Nat) (h5 : takeF d1 o4 = (d2, o5, e5)) :
    Calls Tryd.prog 18 #[stgV (⟨xd, xn, gx, xw, xc, cx⟩ : Stg), stgV (⟨yd, yn, gy, yw, yc, cy⟩ : Stg), .int .i64 how, .func (.func 22) #[] #[.pointer (some ⟨N, 0, none⟩)]] W (RunOutR w0 N (d2, l3, [hel, o2, o3, o4])) := by
  have X0 := Lib.hid (Bx.of (x := (⟨xd, xn, gx, xw, xc, cx⟩ : Stg)) ((Blk.new W 26 #[.bool xd, .string xn, .int .i64 (gx : Int), .string xw, .string xc, .int .u64 (cx : Int)]).alloc (.cells #[.bool yd, .string yn, .int .i64 (gy : Int), .string yw, .string yc, .int .u64 (cy : Int)] 26)))
  have Y0 := Lib.hid (Bx.of (x := (⟨yd, yn, gy, yw, yc, cy⟩ : Stg)) (Blk.new (W.alloc (.cells #[.bool xd, .string xn, .int .i64 (gx : Int), .string xw, .string xc, .int .u64 (cx : Int)] 26)) 26 #[.bool yd, .string yn, .int .i64 (gy : Int), .string yw, .string yc, .int .u64 (cy : Int)]))
  have S0 := Lib.hid ((hst.alloc (.cells #[.bool xd, .string xn, .int .i64 (gx : Int), .string xw, .string xc, .int .u64 (cx : Int)] 26)).alloc (.cells #[.bool yd, .string yn, .int .i64 (gy : Int), .string yw, .string yc, .int .u64 (cy : Int)] 26))
  have BE0 := Lib.hid (((Below.refl W.heap.size W).alloc (Nat.le_refl _) (.cells #[.bool xd, .string xn, .int .i64 (gx : Int), .string xw, .string xc, .int .u64 (cx : Int)] 26)).alloc (by simp) (.cells #[.bool yd, .string yn, .int .i64 (gy : Int), .string yw, .string yc, .int .u64 (cy : Int)] 26))
  have DY := Lib.hid hDY
  have LY := Lib.hid hLY
  have T0 := Lib.hid t0
  have HB := Lib.hid hbox
  have HLO := Lib.hid hlo
  have fine0 := F0
  clear fine0
  have A1 : Hid (∀ V D K, Ss w0 V [(D, 46, d), (K, 46, l)] → Calls Tryd.prog 14 #[.pointer (some ⟨K, 0, none⟩), .string hel] V (SawO w0 V K [(D, 46, d), (K, 46, l1)] (.tuple #[.string o1, .int .i64 e1]))) :=
    Lib.hid (fun V D K h => by have := h.takeO 1 rfl G0 hel zh; rw [h1] at this; exact this)
  have G1 : Fine l1 := by have := G0.take hel; rw [h1] at this; exact this
  have A2 : Hid (∀ V D K, Ss w0 V [(D, 46, d), (K, 46, l1)] → Calls Tryd.prog 15 #[.pointer (some ⟨K, 0, none⟩), .int .i64 how] V (SawO w0 V K [(D, 46, d), (K, 46, l2)] (.tuple #[.string o2, .int .i64 e2]))) :=
    Lib.hid (fun V D K h => by have := h.answerO 1 rfl G1 how; rw [h2] at this; exact this)
  have y2 : o2.size ≤ 100 := by have := answer_out l1 G1 how; rw [h2] at this; exact this
  have A3 : Hid (∀ V D K, Ss w0 V [(D, 46, d), (K, 46, l2)] → Calls Tryd.prog 14 #[.pointer (some ⟨D, 0, none⟩), .string o2] V (SawO w0 V D [(D, 46, d1), (K, 46, l2)] (.tuple #[.string o3, .int .i64 e3]))) :=
    Lib.hid (fun V D K h => by have := h.takeO 0 rfl F0 o2 (by omega); rw [h3] at this; exact this)
  have G2 : Fine l2 := by have := G1.answer how; rw [h2] at this; exact this
  have y3 : o3.size ≤ 100 := by have := take_out d o2; rw [h3] at this; exact this
  have A4 : Hid (∀ V D K, Ss w0 V [(D, 46, d1), (K, 46, l2)] → Calls Tryd.prog 14 #[.pointer (some ⟨K, 0, none⟩), .string o3] V (SawO w0 V K [(D, 46, d1), (K, 46, l3)] (.tuple #[.string o4, .int .i64 e4]))) :=
    Lib.hid (fun V D K h => by have := h.takeO 1 rfl G2 o3 (by omega); rw [h4] at this; exact this)
  have F1 : Fine d1 := by have := F0.take o2; rw [h3] at this; exact this
  have y4 : o4.size ≤ 100 := by have := take_out l2 o3; rw [h4] at this; exact this
  have A5 : Hid (∀ V D K, Ss w0 V [(D, 46, d1), (K, 46, l3)] → Calls Tryd.prog 14 #[.pointer (some ⟨D, 0, none⟩), .string o4] V (SawO w0 V D [(D, 46, d2), (K, 46, l3)] (.tuple #[.string o5, .int .i64 e5]))) :=
    Lib.hid (fun V D K h => by have := h.takeO 0 rfl F1 o4 (by omega); rw [h5] at this; exact this)
  have q1 : ((e1 : Int) != 0) = false := by rw [bne_eq_false_iff_eq]; omega
  have q3 : ((e3 : Int) != 0) = false := by rw [bne_eq_false_iff_eq]; omega
  have q4 : ((e4 : Int) != 0) = false := by rw [bne_eq_false_iff_eq]; omega
  clear t0 hst hbox hlo hDY hLY F0 G0 zh k1 k3 k4 h1 G1 h2 y2 h3 G2 y3 h4 F1 y4 h5
  unfold stgV
  go_enter Tryd.func18, Tryd.ntmps18
  obtain ⟨c0, c1, c2, c3, c4, c5⟩ := X0.out
  obtain ⟨d0, d1, d2, d3, d4, d5⟩ := Y0.out
  dsimp only at c0 c1 c2 c3 c4 c5
  simp only [World.size_alloc] at d0 d1 d2 d3 d4 d5
  have SS0 := Lib.hid (Ss.ofSt S0.out)
  go_wp2_with fail
  refine (DY.out _).mono ?_
  rintro e w1 ⟨D, rfl, gB, kB, b1⟩
  have SS1 := Lib.hid (SS0.out.add kB gB b1)
  have BE1 := Lib.hid (BE0.out.trans (b1.mono BE0.out.size))
  have GE1 : Hid (W.heap.size ≤ D) := Lib.hid (Nat.le_trans BE0.out.size gB)
  clear c0 c1 c2 c3 c4 c5 d0 d1 d2 d3 d4 d5
  have X1 := Lib.hid (X0.out.below b1)
  have Y1 := Lib.hid (Y0.out.below b1)
  obtain ⟨c0, c1, c2, c3, c4, c5⟩ := X1.out
  obtain ⟨d0, d1, d2, d3, d4, d5⟩ := Y1.out
  dsimp only at c0 c1 c2 c3 c4 c5
  simp only [World.size_alloc] at d0 d1 d2 d3 d4 d5
  clear b1 SS0 X0 Y0 gB kB
  go_wp2_with fail
  refine (LY.out _).mono ?_
  rintro e w2 ⟨K, rfl, gB, kB, b2⟩
  have SS2 := Lib.hid (SS1.out.add kB gB b2)
  have BE2 := Lib.hid (BE1.out.trans (b2.mono BE1.out.size))
  have GE2 : Hid (W.heap.size ≤ K) := Lib.hid (Nat.le_trans BE1.out.size gB)
  clear c0 c1 c2 c3 c4 c5 d0 d1 d2 d3 d4 d5
  have X2 := Lib.hid (X1.out.below b2)
  have Y2 := Lib.hid (Y1.out.below b2)
  clear b2 SS1 X1 Y1 gB kB
  have SD2 := Lib.hid (Said.start HB.out HLO.out BE2.out GE1.out GE2.out (SS2.out.get 0 rfl).lt (SS2.out.get 1 rfl).lt)
  clear X2 Y2 S0 BE0 BE1 BE2 GE1 GE2
  go_wp2_with fail
  refine (note_any SD2.out (by simp) SS2.out.st.bel.size 0 hel).mono ?_
  rintro e w3 ⟨rfl, nt⟩
  have SS3 := Lib.hid (SS2.out.noted T0.out nt two_mem)
  have SD3 : Hid (Said w0 w3 N [D, K] [hel]) := Lib.hid nt.said
  clear nt SS2 SD2
  go_wp2_with fail
  refine (A1.out _ D K SS3.out).mono ?_
  rintro e w4 ⟨rfl, s4, on⟩
  have SS4 := Lib.hid s4
  have SD4 := Lib.hid (SD3.out.only on (by simp))
  clear s4 on SS3 SD3
  go_wp2_with fail
  refine (A2.out _ D K SS4.out).mono ?_
  rintro e w5 ⟨rfl, s5, on⟩
  have SS5 := Lib.hid s5
  have SD5 := Lib.hid (SD4.out.only on (by simp))
  clear s5 on SS4 SD4
  go_wp2_with fail
  refine (note_any SD5.out (by simp) SS5.out.st.bel.size 1 o2).mono ?_
  rintro e w6 ⟨rfl, nt⟩
  have SS6 := Lib.hid (SS5.out.noted T0.out nt two_mem)
  have SD6 : Hid (Said w0 w6 N [D, K] [hel, o2]) := Lib.hid nt.said
  clear nt SS5 SD5
  go_wp2_with fail
  refine (A3.out _ D K SS6.out).mono ?_
  rintro e w7 ⟨rfl, s7, on⟩
  have SS7 := Lib.hid s7
  have SD7 := Lib.hid (SD6.out.only on (by simp))
  clear s7 on SS6 SD6
  go_wp2_with fail
  refine (note_any SD7.out (by simp) SS7.out.st.bel.size 2 o3).mono ?_
  rintro e w8 ⟨rfl, nt⟩
  have SS8 := Lib.hid (SS7.out.noted T0.out nt two_mem)
  have SD8 : Hid (Said w0 w8 N [D, K] [hel, o2, o3]) := Lib.hid nt.said
  clear nt SS7 SD7
  go_wp2_with fail
  refine (A4.out _ D K SS8.out).mono ?_
  rintro e w9 ⟨rfl, s9, on⟩
  have SS9 := Lib.hid s9
  have SD9 := Lib.hid (SD8.out.only on (by simp))
  clear s9 on SS8 SD8
  go_wp2_with fail
  refine (note_any SD9.out (by simp) SS9.out.st.bel.size 3 o4).mono ?_
  rintro e w10 ⟨rfl, nt⟩
  have SS10 := Lib.hid (SS9.out.noted T0.out nt two_mem)
  have SD10 : Hid (Said w0 w10 N [D, K] [hel, o2, o3, o4]) := Lib.hid nt.said
  clear nt SS9 SD9
  go_wp2_with fail
  refine (A5.out _ D K SS10.out).mono ?_
  rintro e w11 ⟨rfl, s11, on⟩
  have SS11 := Lib.hid s11
  have SD11 := Lib.hid (SD10.out.only on (by simp))
  clear s11 on SS10 SD10
  go_wp2
  go_ret2
  exact ⟨D, K, rfl, SS11.out, SD11.out⟩
/-- Both sides are made. -/
theorem runR_made (xd yd : Bool) (xn xw xc yn yw yc : ByteArray) (gx gy cx cy : Nat) (how : Int) (w0 W : World) (t0 : Tabs w0) (hst : St w0 W) (N : Nat) (hbox : Boxed W N 57 (.slice none 0 0)) (hlo : w0.heap.size ≤ N)
    (hzx : xn.size ≤ 6000 ∧ xw.size ≤ 6000 ∧ xc.size ≤ 6000) (hzy : yc.size ≤ 6000) (h64x : cx ≤ 18446744073709551615) (h64y : cy ≤ 18446744073709551615) (hd : dialB xn gx xw = true) (hv : (nameF yn && genI gy) = true) :
    Calls Tryd.prog 18 #[stgV (⟨xd, xn, gx, xw, xc, cx⟩ : Stg), stgV (⟨yd, yn, gy, yw, yc, cy⟩ : Stg), .int .i64 how, .func (.func 22) #[] #[.pointer (some ⟨N, 0, none⟩)]] W (RunOutR w0 N (runF (dialS ⟨xn, gx⟩ xw xc cx) (listenS ⟨yn, gy⟩ yc cy) (helloF ⟨xn, gx⟩ xw) how mId)) := by
  have F0 : Fine (dialS ⟨xn, gx⟩ xw xc cx) := Fine.dialS (prOk_of (dialB_parts hd).1) hzx.2.1 hzx.2.2 h64x
  have G0 : Fine (listenS ⟨yn, gy⟩ yc cy) := Fine.listenS (prOk_of hv) hzy h64y
  have zh : (helloF ⟨xn, gx⟩ xw).size ≤ 100000 := by
    rw [helloF_size]
    show xn.size + _ + 8 ≤ _
    have := hzx.1
    have := hzx.2.1
    omega
  have DY := fun W => dial_yes xn gx xw xc cx hd W
  have LY := fun W => listen_yes yn gy yc cy hv W
  generalize helloF ⟨xn, gx⟩ xw = hel at *
  generalize dialS ⟨xn, gx⟩ xw xc cx = d at *
  generalize listenS ⟨yn, gy⟩ yc cy = l at *
  obtain ⟨⟨l1, o1, e1⟩, h1⟩ : ∃ r, takeF l hel = r := ⟨_, rfl⟩
  by_cases k1 : e1 = 0
  · obtain ⟨⟨l2, o2, e2⟩, h2⟩ : ∃ r, answerF l1 how = r := ⟨_, rfl⟩
    obtain ⟨⟨d1, o3, e3⟩, h3⟩ : ∃ r, takeF d o2 = r := ⟨_, rfl⟩
    by_cases k3 : e3 = 0
    · obtain ⟨⟨l3, o4, e4⟩, h4⟩ : ∃ r, takeF l2 o3 = r := ⟨_, rfl⟩
      by_cases k4 : e4 = 0
      · obtain ⟨⟨d2, o5, e5⟩, h5⟩ : ∃ r, takeF d1 o4 = r := ⟨_, rfl⟩
        have e : runF d l hel how mId = (d2, l3, [hel, o2, o3, o4]) := by
          unfold runF run2 run3 run4; simp [mId, h1, h2, h3, h4, h5, k1, k3, k4]
        rw [e]
        exact runR_D xd yd xn xw xc yn yw yc gx gy cx cy how w0 W t0 hst N hbox hlo d l hel DY LY F0 G0 zh l1 o1 e1 h1 k1 l2 o2 e2 h2 d1 o3 e3 h3 k3 l3 o4 e4 h4 k4 d2 o5 e5 h5
      · have e : runF d l hel how mId = (d1, l3, [hel, o2, o3]) := by
          unfold runF run2 run3; simp [mId, h1, h2, h3, h4, k1, k3, k4]
        rw [e]
        exact runR_C xd yd xn xw xc yn yw yc gx gy cx cy how w0 W t0 hst N hbox hlo d l hel DY LY F0 G0 zh l1 o1 e1 h1 k1 l2 o2 e2 h2 d1 o3 e3 h3 k3 l3 o4 e4 h4 k4
    · have e : runF d l hel how mId = (d1, l2, [hel, o2]) := by
        unfold runF run2; simp [mId, h1, h2, h3, k1, k3]
      rw [e]
      exact runR_B xd yd xn xw xc yn yw yc gx gy cx cy how w0 W t0 hst N hbox hlo d l hel DY LY F0 G0 zh l1 o1 e1 h1 k1 l2 o2 e2 h2 d1 o3 e3 h3 k3
  · have e : runF d l hel how mId = (d, l1, [hel]) := by
      unfold runF; simp [mId, h1, k1]
    rw [e]
    exact runR_A xd yd xn xw xc yn yw yc gx gy cx cy how w0 W t0 hst N hbox hlo d l hel DY LY F0 G0 zh l1 o1 e1 h1 k1
set_option maxRecDepth 100000 in
set_option maxHeartbeats 4000000 in
theorem runR_nodial (N : Nat) (xd yd : Bool) (xn xw xc yn yw yc : ByteArray) (gx gy : Int) (cx cy : Nat) (how : Int) (W : World) (ht : Tabs W) (hd : dialB xn gx xw = false) :
    Calls Tryd.prog 18 #[stgV (⟨xd, xn, gx, xw, xc, cx⟩ : Stg), stgV (⟨yd, yn, gy, yw, yc, cy⟩ : Stg), .int .i64 how, .func (.func 22) #[] #[.pointer (some ⟨N, 0, none⟩)]] W fun e W' => e = .returned (.tuple #[.pointer none, .pointer none]) ∧ Below W.heap.size W W' := by
  have X0 := Lib.hid (Bx.of (x := (⟨xd, xn, gx, xw, xc, cx⟩ : Stg)) ((Blk.new W 26 #[.bool xd, .string xn, .int .i64 gx, .string xw, .string xc, .int .u64 (cx : Int)]).alloc (.cells #[.bool yd, .string yn, .int .i64 gy, .string yw, .string yc, .int .u64 (cy : Int)] 26)))
  have Y0 := Lib.hid (Bx.of (x := (⟨yd, yn, gy, yw, yc, cy⟩ : Stg)) (Blk.new (W.alloc (.cells #[.bool xd, .string xn, .int .i64 gx, .string xw, .string xc, .int .u64 (cx : Int)] 26)) 26 #[.bool yd, .string yn, .int .i64 gy, .string yw, .string yc, .int .u64 (cy : Int)]))
  have S0 := Lib.hid (((St.refl ht).alloc (.cells #[.bool xd, .string xn, .int .i64 gx, .string xw, .string xc, .int .u64 (cx : Int)] 26)).alloc (.cells #[.bool yd, .string yn, .int .i64 gy, .string yw, .string yc, .int .u64 (cy : Int)] 26))
  have DN := Lib.hid (fun W => dial_no xn gx xw xc cx hd W)
  have LE := Lib.hid (fun W => listen_e yn gy yc cy W)
  clear ht hd
  unfold stgV
  go_enter Tryd.func18, Tryd.ntmps18
  obtain ⟨c0, c1, c2, c3, c4, c5⟩ := X0.out
  obtain ⟨d0, d1, d2, d3, d4, d5⟩ := Y0.out
  dsimp only at c0 c1 c2 c3 c4 c5
  simp only [World.size_alloc] at d0 d1 d2 d3 d4 d5
  go_wp2_with fail
  refine (DN.out _).mono ?_
  rintro e w1 ⟨rfl, b1⟩
  have S1 := Lib.hid (S0.out.keep b1)
  clear c0 c1 c2 c3 c4 c5 d0 d1 d2 d3 d4 d5
  have X1 := Lib.hid (X0.out.below b1)
  have Y1 := Lib.hid (Y0.out.below b1)
  obtain ⟨c0, c1, c2, c3, c4, c5⟩ := X1.out
  obtain ⟨d0, d1, d2, d3, d4, d5⟩ := Y1.out
  dsimp only at c0 c1 c2 c3 c4 c5
  simp only [World.size_alloc] at d0 d1 d2 d3 d4 d5
  clear b1 S0 X0 Y0
  go_wp2_with fail
  refine (LE.out _).mono ?_
  rintro e w2 ⟨⟨q, rfl⟩, b2⟩
  have S2 := Lib.hid (S1.out.keep b2)
  clear c0 c1 c2 c3 c4 c5 d0 d1 d2 d3 d4 d5
  have X2 := Lib.hid (X1.out.below b2)
  have Y2 := Lib.hid (Y1.out.below b2)
  obtain ⟨c0, c1, c2, c3, c4, c5⟩ := X2.out
  obtain ⟨d0, d1, d2, d3, d4, d5⟩ := Y2.out
  dsimp only at c0 c1 c2 c3 c4 c5
  simp only [World.size_alloc] at d0 d1 d2 d3 d4 d5
  clear b2 S1 X1 Y1
  clear c0 c1 c2 c3 c4 c5 d0 d1 d2 d3 d4 d5
  clear X2 Y2
  go_wp2
  go_ret2
  exact ⟨rfl, S2.out.bel⟩
set_option maxRecDepth 100000 in
set_option maxHeartbeats 4000000 in
theorem runR_nolisten (N : Nat) (xd yd : Bool) (xn xw xc yn yw yc : ByteArray) (gx : Nat) (gy : Int) (cx cy : Nat) (how : Int) (W : World) (ht : Tabs W) (hd : dialB xn gx xw = true) (hv : (nameF yn && genI gy) = false) :
    Calls Tryd.prog 18 #[stgV (⟨xd, xn, gx, xw, xc, cx⟩ : Stg), stgV (⟨yd, yn, gy, yw, yc, cy⟩ : Stg), .int .i64 how, .func (.func 22) #[] #[.pointer (some ⟨N, 0, none⟩)]] W fun e W' => e = .returned (.tuple #[.pointer none, .pointer none]) ∧ Below W.heap.size W W' := by
  have X0 := Lib.hid (Bx.of (x := (⟨xd, xn, gx, xw, xc, cx⟩ : Stg)) ((Blk.new W 26 #[.bool xd, .string xn, .int .i64 gx, .string xw, .string xc, .int .u64 (cx : Int)]).alloc (.cells #[.bool yd, .string yn, .int .i64 gy, .string yw, .string yc, .int .u64 (cy : Int)] 26)))
  have Y0 := Lib.hid (Bx.of (x := (⟨yd, yn, gy, yw, yc, cy⟩ : Stg)) (Blk.new (W.alloc (.cells #[.bool xd, .string xn, .int .i64 gx, .string xw, .string xc, .int .u64 (cx : Int)] 26)) 26 #[.bool yd, .string yn, .int .i64 gy, .string yw, .string yc, .int .u64 (cy : Int)]))
  have S0 := Lib.hid (((St.refl ht).alloc (.cells #[.bool xd, .string xn, .int .i64 gx, .string xw, .string xc, .int .u64 (cx : Int)] 26)).alloc (.cells #[.bool yd, .string yn, .int .i64 gy, .string yw, .string yc, .int .u64 (cy : Int)] 26))
  have DN := Lib.hid (fun W => dial_yes xn gx xw xc cx hd W)
  have LE := Lib.hid (fun W => listen_no yn gy yc cy hv W)
  obtain ⟨hel, hhel⟩ : ∃ h, h = helloF ⟨xn, gx⟩ xw := ⟨_, rfl⟩
  obtain ⟨d, hdd⟩ : ∃ d, d = dialS ⟨xn, gx⟩ xw xc cx := ⟨_, rfl⟩
  rw [← hhel, ← hdd] at DN
  clear ht hd hv hhel hdd
  unfold stgV
  go_enter Tryd.func18, Tryd.ntmps18
  obtain ⟨c0, c1, c2, c3, c4, c5⟩ := X0.out
  obtain ⟨d0, d1, d2, d3, d4, d5⟩ := Y0.out
  dsimp only at c0 c1 c2 c3 c4 c5
  simp only [World.size_alloc] at d0 d1 d2 d3 d4 d5
  go_wp2_with fail
  refine (DN.out _).mono ?_
  rintro e w1 ⟨D, rfl, -, -, b1⟩
  have S1 := Lib.hid (S0.out.keep b1)
  clear c0 c1 c2 c3 c4 c5 d0 d1 d2 d3 d4 d5
  have X1 := Lib.hid (X0.out.below b1)
  have Y1 := Lib.hid (Y0.out.below b1)
  obtain ⟨c0, c1, c2, c3, c4, c5⟩ := X1.out
  obtain ⟨d0, d1, d2, d3, d4, d5⟩ := Y1.out
  dsimp only at c0 c1 c2 c3 c4 c5
  simp only [World.size_alloc] at d0 d1 d2 d3 d4 d5
  clear b1 S0 X0 Y0
  go_wp2_with fail
  refine (LE.out _).mono ?_
  rintro e w2 ⟨rfl, b2⟩
  have S2 := Lib.hid (S1.out.keep b2)
  clear c0 c1 c2 c3 c4 c5 d0 d1 d2 d3 d4 d5
  have X2 := Lib.hid (X1.out.below b2)
  have Y2 := Lib.hid (Y1.out.below b2)
  obtain ⟨c0, c1, c2, c3, c4, c5⟩ := X2.out
  obtain ⟨d0, d1, d2, d3, d4, d5⟩ := Y2.out
  dsimp only at c0 c1 c2 c3 c4 c5
  simp only [World.size_alloc] at d0 d1 d2 d3 d4 d5
  clear b2 S1 X1 Y1
  clear c0 c1 c2 c3 c4 c5 d0 d1 d2 d3 d4 d5
  clear X2 Y2
  go_wp2
  go_ret2
  exact ⟨rfl, S2.out.bel⟩
end Go.Proofs.YtnkkbkceapcahaaDoor
