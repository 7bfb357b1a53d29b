/- terms.sum of one term, terms.Check, terms.Valid. -/
import Derived.Test.YtoaimoemaoinhaaGreatDoorOf2
namespace Go.Proofs.YtoaimoemaoinhaaGreatDoor
open Go.RowKit Go.Rt Go.Rw

set_option maxRecDepth 100000 in
set_option maxHeartbeats 2000000 in
theorem kinds_any (w : World) : Calls Tryz.prog 206 #[] w fun e w' => e = .returned (.agg #[.func (.func 226) #[] #[], .func (.func 227) #[] #[], .func (.func 228) #[] #[], .func (.func 224) #[] #[], .func (.func 229) #[] #[], .func (.func 230) #[] #[], .func (.func 224) #[] #[], .func (.func 231) #[] #[], .func (.func 232) #[] #[], .func (.func 233) #[] #[], .func (.func 234) #[] #[]]) ∧ Below w.heap.size w w' := by
  go_enter Tryz.func206, Tryz.ntmps206
  have NB := Lib.hid (Blk.new w 277 #[.nilFunc, .nilFunc, .nilFunc, .nilFunc, .nilFunc, .nilFunc, .nilFunc, .nilFunc, .nilFunc, .nilFunc, .nilFunc])
  go_wp2_with (refine wpList_store_blk rfl 277 _ _ rfl rfl w.heap.size #[.func (.func 226) #[] #[], .func (.func 227) #[] #[], .func (.func 228) #[] #[], .func (.func 224) #[] #[], .func (.func 229) #[] #[], .func (.func 230) #[] #[], .func (.func 224) #[] #[], .func (.func 231) #[] #[], .func (.func 232) #[] #[], .func (.func 233) #[] #[], .func (.func 234) #[] #[]] _ 277 rfl rfl NB.out rfl (by kernel_rfl) (by simp [Value.oneCell']) ?_)
  intro v bv ov
  go_wp2_with fail
  refine bodyPost_ret (results_blk rfl _ _ w.heap.size _ _ rfl bv Tryz.underlying277 rfl (by kernel_rfl)) rfl ⟨rfl, ?_⟩
  exact ((Below.refl _ _).alloc (Nat.le_refl _) _).trans (ov.below (by simp) (by simp))
/-- The answer of sum. -/
def sumV (t : Tm) : Value := .tuple #[.int .i64 (if formed t then sizeT t else 0 : Nat), .bool (formed t)]
set_option maxRecDepth 100000 in
set_option maxHeartbeats 2000000 in
theorem sum_any (S : Nat → Prop) (t : Tm) (b o cap : Nat) (w : World) (hl : ItsAt S w [t] (.slice (some ⟨b, o, none⟩) 1 cap)) (hS : ∀ b, S b → b < w.heap.size) (hfit : fitW t) (hz : bulk t ≤ 4611686018427387904) :
    Calls Tryz.prog 178 #[.slice (some ⟨b, o, none⟩) 1 cap] w fun e w' => e = .returned (sumV t) ∧ Below w.heap.size w w' := by
  unfold sumV
  obtain ⟨F, hF⟩ : ∃ F, F = formed t := ⟨_, rfl⟩
  have OF := Lib.hid (fun (x : Ft) (bm : Nat) (W : World) (hx : TmAt S W t x) (hS : ∀ b, S b → b ≠ bm) (hM : Ms W bm 0) => of_any t S x bm 0 W hx hS hM hfit (by omega))
  rw [← hF] at OF ⊢
  clear hF
  generalize sizeT t = sz at OF ⊢
  have HS := Lib.hid hS
  have HL := Lib.hid hl
  obtain ⟨b', o', e', hb, hsb, hc⟩ := hl.get (by simp)
  cases e'
  obtain ⟨x, hx, hcx⟩ := hc 0 (by simp)
  change TmAt S w t x at hx
  obtain ⟨_, sx, cx, vx⟩ := hx.its.2.form
  obtain ⟨xf, xv⟩ := x
  dsimp only at vx
  subst vx
  generalize t.l.length = lx at *
  have HX := Lib.hid hx
  have HCX := Lib.hid hcx
  have HBB := Lib.hid hb
  clear hl hS hc hx hcx hb hfit hz
  have hmf : ∀ (fn : Fn) (first cap : Array Value) (w : World), (Instr.makeFunc fn first cap).run Tryz.prog w = .ok (.func fn first cap) w := fun _ _ _ _ => rfl
  go_enter Tryz.func178, Tryz.ntmps178
  go_wp2_with fail
  refine (kinds_any w).mono ?_
  rintro e w1 ⟨rfl, b1⟩
  have B1 := Lib.hid b1
  clear b1
  have bA : Below w.heap.size w (w1.alloc (.cells (kcells 0) 280)) := B1.out.trans ((Below.refl _ _).alloc B1.out.size _)
  have M2 : Hid (Ms (w1.alloc (.cells (kcells 0) 280)) w1.heap.size 0) := Lib.hid (Blk.new w1 280 (kcells 0))
  have B2 := Lib.hid bA
  have G2 : Hid (w.heap.size ≤ w1.heap.size) := Lib.hid B1.out.size
  clear bA B1
  go_wp2_with fail
  change Code.wp _ _ _ _ (w1.alloc (.cells (kcells 0) 280))
  generalize w1.alloc (.cells (kcells 0) 280) = w2 at M2 B2 ⊢
  generalize w1.heap.size = bm at M2 G2 ⊢
  have A2 := Lib.hid (HX.out.below B2.out (fun b hb _ => HS.out b hb))
  obtain ⟨p0, p1, p2, p3, p4, p5, p6, p7, p8⟩ := cells9 (W := w2) (b := b) (p := o) (x := ⟨xf, .slice sx lx cx⟩) (fun j hj => by rw [show o + j = o + 0 * 9 + j by omega, ← HCX.out j hj]; exact B2.out.cell (p := ⟨b, _, none⟩) HBB.out)
  refine wp_loop_rounds 2 ?_
  rw [rounds_succ]
  go_wp2_with fail
  have A3 := Lib.hid (fun o => A2.out.below ((Below.refl w2.heap.size w2).alloc (Nat.le_refl _) o) (fun _ _ h => h))
  have B3 := Lib.hid (fun o => B2.out.trans ((Below.refl w.heap.size w2).alloc B2.out.size o))
  have M3 := Lib.hid (fun o => M2.out.alloc o)
  refine (OF.out ⟨xf, .slice sx lx cx⟩ bm _ (A3.out _) (fun b hb => by have := HS.out b hb; have := G2.out; omega) (M3.out _)).mono ?_
  rintro e w4 ⟨rfl, o4, n4, m4, h4⟩
  have O4 := Lib.hid ((B3.out _).trans (o4.below (by simpa using G2.out) (B3.out _).size))
  have M4 := Lib.hid m4
  have H4 := Lib.hid h4
  clear o4 m4 h4 A3 B3 M3 A2 B2 M2 p0 p1 p2 p3 p4 p5 p6 p7 p8
  cases F with
  | false =>
    go_wp2_with fail
    refine bodyPost_ret (v := .tuple #[.int .i64 0, .bool false]) (by simp [results, Tryz.results178, go_sem]) rfl ⟨rfl, O4.out⟩
  | true =>
    have e4 := H4.out rfl
    rw [Nat.zero_add] at e4
    subst e4
    have m11 : w4.cell? ⟨bm, 11, none⟩ = some (.int .i64 n4) := M4.out.cell 11
    go_wp2_with fail
    rw [rounds_succ]
    go_wp2_with fail
    refine bodyPost_ret (v := .tuple #[.int .i64 n4, .bool true]) (by simp [results, Tryz.results178, go_sem]) rfl ⟨rfl, O4.out⟩
/-- What Check says of a term. -/
def checkF (t : Tm) : Int := if formed t then (if sizeT t ≤ 2000 then 0 else 3) else 2
theorem checkF_zero (t : Tm) : decide (checkF t = 0) = validB t := by
  unfold checkF validB
  cases formed t with
  | false => simp
  | true => by_cases h : sizeT t ≤ 2000 <;> simp [h]
set_option maxRecDepth 100000 in
set_option maxHeartbeats 2000000 in
theorem check_any (S : Nat → Prop) (t : Tm) (x : Ft) (w : World) (hx : TmAt S w t x) (hfit : fitW t) (hz : bulk t ≤ 4611686018427387904) :
    Calls Tryz.prog 133 #[ftV x] w fun e w' => e = .returned (.int .i64 (checkF t)) ∧ Below w.heap.size w w' := by
  obtain ⟨e1, i1⟩ := hx.its
  obtain ⟨_, sa, cap, v1⟩ := i1.form
  obtain ⟨xf, xv⟩ := x
  dsimp only at v1
  subst v1
  generalize hll : t.l.length = len at *
  have CS := Lib.hid (fun (W : World) (b cap' : Nat) (hl : ItsAt (fun b => b < W.heap.size) W [t] (.slice (some ⟨b, 0, none⟩) 1 cap')) => sum_any _ t b 0 cap' W hl (fun _ h => h) hfit hz)
  have HT : Hid (∀ (W : World) (b : Nat) (cap' : Nat), Below w.heap.size w W → b < W.heap.size → (∀ j, j < 9 → W.cell? ⟨b, j, none⟩ = (ftC ⟨xf, .slice sa len cap⟩)[j]?) → ItsAt (fun b => b < W.heap.size) W [t] (.slice (some ⟨b, 0, none⟩) 1 cap')) := Lib.hid (by
    intro W b cap' hb hlt hc
    refine ⟨[⟨xf, .slice sa len cap⟩], .inr ⟨b, 0, cap', rfl, by simp, hlt, ?_⟩, fun b o n c e _ => by cases e; exact hlt, ?_⟩
    · intro i j hi hj
      obtain rfl : i = 0 := by simpa using hi
      have := hc j hj
      simpa using this
    · unfold TmsAt
      refine ⟨_, [], rfl, ?_, by unfold TmsAt; rfl⟩
      exact hx.map hb.size (fun b _ hl => hb.block b hl) (fun b _ hl => by have := hb.size; omega))
  obtain ⟨RE, hRE⟩ : ∃ RE, RE = checkF t := ⟨_, rfl⟩
  rw [← hRE]
  unfold checkF at hRE
  unfold sumV at CS
  generalize formed t = F at CS hRE
  generalize sizeT t = sz at CS hRE
  clear hx e1 i1 hll hfit hz
  unfold ftV
  go_enter Tryz.func133, Tryz.ntmps133
  go_wp2_with fail
  have L := HT.out ((w.alloc (.cells #[.int .i64 xf.k, .int .i64 xf.n, .int .i64 xf.g, .string xf.nm, .string xf.fn, .int .i64 xf.ar, .slice sa len cap, .string xf.bs, .int .i64 xf.bt] 48)).alloc (.cells #[.int .i64 xf.k, .int .i64 xf.n, .int .i64 xf.g, .string xf.nm, .string xf.fn, .int .i64 xf.ar, .slice sa len cap, .string xf.bs, .int .i64 xf.bt] 48)) (w.heap.size + 1) 1
    (((Below.refl _ _).alloc (Nat.le_refl _) _).alloc (by simp) _) (by simp) (by
      intro j hj
      have q := Blk.new (w.alloc (.cells #[.int .i64 xf.k, .int .i64 xf.n, .int .i64 xf.g, .string xf.nm, .string xf.fn, .int .i64 xf.ar, .slice sa len cap, .string xf.bs, .int .i64 xf.bt] 48)) 48 #[.int .i64 xf.k, .int .i64 xf.n, .int .i64 xf.g, .string xf.nm, .string xf.fn, .int .i64 xf.ar, .slice sa len cap, .string xf.bs, .int .i64 xf.bt]
      simp only [World.size_alloc] at q
      rw [q.cell j]
      simp [ftC])
  refine (CS.out _ _ _ L).mono ?_
  rintro e w1 ⟨rfl, b1⟩
  have B1 := Lib.hid ((((Below.refl w.heap.size w).alloc (Nat.le_refl _) _).alloc (by simp) _).trans (b1.mono (by simp; omega)))
  clear b1 L CS HT
  cases F with
  | false =>
    obtain rfl : RE = 2 := by rw [hRE]; rfl
    clear hRE
    go_wp2_with fail
    go_ret
    exact ⟨rfl, B1.out⟩
  | true =>
    by_cases h : sz ≤ 2000
    · obtain rfl : RE = 0 := by rw [hRE]; simp [h]
      have d : decide (2000 < sz) = false := by simpa using h
      clear hRE
      go_wp2_with fail
      go_ret
      exact ⟨rfl, B1.out⟩
    · obtain rfl : RE = 3 := by rw [hRE]; simp [h]
      have d : decide (2000 < sz) = true := by simpa using h
      clear hRE
      go_wp2_with fail
      go_ret
      exact ⟨rfl, B1.out⟩
end Go.Proofs.YtoaimoemaoinhaaGreatDoor
