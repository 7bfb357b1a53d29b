/- PeersX: a part of the proof. No condition beyond the premises of each theorem. -/
import Derived.Test.YtoaimoemaoinhaaGreatDoorQd04
import Derived.Deep.CutBlock
namespace Go.Proofs.YtoaimoemaoinhaaGreatDoor
open Go.RowKit Go.Rt Go.Rw
set_option maxRecDepth 100000 in
set_option maxHeartbeats 4000000 in
theorem alike_any (S S2 : Nat → Prop) (l m : List Tm) (v v2 : Value) (w : World) (h1 : ItsAt S w l v) (h2 : ItsAt S2 w m v2)
  (ih : ∀ t ∈ l, ∀ (u : Tm) (x y : Ft) (W : World), TmAt S W t x → TmAt S2 W u y → Calls Tryz.prog 134 #[ftV x, ftV y] W fun e w' => e = .returned (.bool (eqT t u)) ∧ Below W.heap.size W w') :
  Calls Tryz.prog 179 #[v, v2, .func (.func 134) #[] #[]] w fun e w' => e = .returned (.bool (eqL l m)) ∧ Below w.heap.size w w' := by
 obtain ⟨hm1, sa, cap, rfl⟩ := h1.form
 obtain ⟨hm2, sa2, cap2, rfl⟩ := h2.form
 obtain ⟨r, hr⟩ : ∃ r, r = eqL l m := ⟨_, rfl⟩
 rw [← hr]
 by_cases hlen : l.length = m.length
 ·
  have RN : Hid (∀ k (a : k < l.length) (b : k < m.length), eqT l[k] m[k] = false → r = false) := Lib.hid (fun k a b h => by rw [hr]; exact eqL_get hlen k a b h)
  have RY : Hid ((∀ k (a : k < l.length) (b : k < m.length), eqT l[k] m[k] = true) → r = true) := Lib.hid (fun h => by rw [hr]; exact eqL_all hlen h)
  have IH := Lib.hid ih
  have H1 := Lib.hid h1
  have H2 := Lib.hid h2
  have HL := Lib.hid hlen
  clear hr ih h1 h2
  rw [← hlen] at H2 ⊢ hm2
  clear hlen
  obtain ⟨N, hN⟩ : ∃ q, q = l.length := ⟨_, rfl⟩
  have HN := Lib.hid hN
  rw [← hN] at H1 H2 hm1 hm2 ⊢
  clear hN
  go_enter Tryz.func179, Tryz.ntmps179
  go_wp2_with fail
  go_loopw [16] (fun i wr => ∃ k : Nat, k ≤ N ∧ i = .int .i64 k ∧ Hid (Below w.heap.size w wr) ∧ Hid (∀ j, j < k → ∀ (a : j < l.length) (b : j < m.length), eqT l[j] m[j] = true)) (fun i _ => N - (intOf i).toNat)
  case atStart => exact ⟨0, Nat.zero_le _, rfl, Lib.hid (Below.refl _ _), Lib.hid (fun j hj => by omega)⟩
  case round =>
   obtain ⟨k, hk, rfl, BW, hall⟩ := hrel
   by_cases hlt : k < N
   ·
    have hlti : (k : Int) < (N : Int) := by omega
    have hkl : k < l.length := by rw [← HN.out]; exact hlt
    have hkm : k < m.length := by rw [← HL.out]; exact hkl
    obtain ⟨b, o, rfl, hb, _, hc⟩ := H1.out.get (by omega)
    obtain ⟨b2, o2, rfl, hb2, _, hc2⟩ := H2.out.get (by omega)
    obtain ⟨x, hx, hcx⟩ := hc k hkl
    obtain ⟨y, hy, hcy⟩ := hc2 k hkm
    obtain ⟨p0, p1, p2, p3, p4, p5, p6, p7, p8⟩ := cells9 (W := wr) (b := b) (p := o + k * 9) (x := x) (fun j hj => by rw [← hcx j hj]; exact BW.out.cell (p := ⟨b, _, none⟩) hb)
    obtain ⟨q0, q1, q2, q3, q4, q5, q6, q7, q8⟩ := cells9 (W := wr) (b := b2) (p := o2 + k * 9) (x := y) (fun j hj => by rw [← hcy j hj]; exact BW.out.cell (p := ⟨b2, _, none⟩) hb2)
    have IK := Lib.hid (fun W => IH.out l[k] (List.getElem_mem hkl) m[k] x y W)
    have A1 := Lib.hid (hx.below BW.out (fun b _ h => h))
    have A2 := Lib.hid (hy.below BW.out (fun b _ h => h))
    have iv := hx.its.2
    obtain ⟨_, si, ci, ev⟩ := iv.form
    obtain ⟨xf, xv⟩ := x
    dsimp only at p0 p1 p2 p3 p4 p5 p6 p7 p8 ev
    subst ev
    obtain ⟨nv, hnv⟩ : ∃ q, q = l[k].l.length := ⟨_, rfl⟩
    rw [← hnv] at p6 IK A1
    have X0 := Lib.hid (Blk.new wr 48 #[.int .i64 0, .int .i64 0, .int .i64 0, .string ⟨#[]⟩, .string ⟨#[]⟩, .int .i64 0, .slice none 0 0, .string ⟨#[]⟩, .int .i64 0])
    have hb2w := Nat.lt_of_lt_of_le hb2 BW.out.size
    have O0 := Lib.hid (Only.alloc [wr.heap.size] wr (.cells #[.int .i64 0, .int .i64 0, .int .i64 0, .string ⟨#[]⟩, .string ⟨#[]⟩, .int .i64 0, .slice none 0 0, .string ⟨#[]⟩, .int .i64 0] 48))
    obtain ⟨z, hz⟩ : ∃ q, q = wr.heap.size := ⟨_, rfl⟩
    have HZ := Lib.hid hz
    have hz2 : w.heap.size ≤ z := by rw [hz]; exact BW.out.size
    rw [← hz] at X0
    clear hc hc2 hcx hcy hx hy hnv iv
    go_upto_region 6 with (first | (rw [← hz]; refine wpList_store_blk rfl 48 _ _ rfl rfl z #[.int .i64 xf.k, .int .i64 xf.n, .int .i64 xf.g, .string xf.nm, .string xf.fn, .int .i64 xf.ar, .slice si nv ci, .string xf.bs, .int .i64 xf.bt] _ 48 rfl rfl X0.out rfl info25 (by simp [Value.oneCell']) ?_; intro v1 b1 o1))
    have B1 := Lib.hid (show Below z wr v1 from by
     have := O0.out
     rw [← HZ.out] at this
     exact (this.trans o1).below (by simp) (by rw [HZ.out]; exact Nat.le_refl _))
    have B2 := Lib.hid (BW.out.trans (B1.out.mono hz2))
    have A3 := Lib.hid (A1.out.below B1.out (fun b _ h => by rw [HZ.out]; exact h)).drew
    have A4 := Lib.hid (A2.out.below B1.out (fun b _ h => by rw [HZ.out]; exact h)).drew
    have BD := Lib.hid B2.out.drew
    have c0 := b1.cell 0
    have c1 := b1.cell 1
    have c2 := b1.cell 2
    have c3 := b1.cell 3
    have c4 := b1.cell 4
    have c5 := b1.cell 5
    have c6 := b1.cell 6
    have c7 := b1.cell 7
    have c8 := b1.cell 8
    simp only [List.getElem?_toArray, List.getElem?_cons_zero, List.getElem?_cons_succ] at c0 c1 c2 c3 c4 c5 c6 c7 c8
    have hbz : b2 < z := by rw [HZ.out]; exact hb2w
    have d0 := (B1.out.cell (p := ⟨b2, _, none⟩) hbz).trans q0
    have d1 := (B1.out.cell (p := ⟨b2, _, none⟩) hbz).trans q1
    have d2 := (B1.out.cell (p := ⟨b2, _, none⟩) hbz).trans q2
    have d3 := (B1.out.cell (p := ⟨b2, _, none⟩) hbz).trans q3
    have d4 := (B1.out.cell (p := ⟨b2, _, none⟩) hbz).trans q4
    have d5 := (B1.out.cell (p := ⟨b2, _, none⟩) hbz).trans q5
    have d6 := (B1.out.cell (p := ⟨b2, _, none⟩) hbz).trans q6
    have d7 := (B1.out.cell (p := ⟨b2, _, none⟩) hbz).trans q7
    have d8 := (B1.out.cell (p := ⟨b2, _, none⟩) hbz).trans q8
    clear p0 p1 p2 p3 p4 p5 p6 p7 p8 q0 q1 q2 q3 q4 q5 q6 q7 q8 b1 o1 X0 O0 A1 A2 B1 B2 BW hz hz2 hbz hb2w
    go_wp2_with fail
    go_still_tail 6, (by kernel_rfl)
    change wpList _ _ _ _ _ v1.drew
    clear c0 c1 c2 c3 c4 c5 c6 c7 c8 d0 d1 d2 d3 d4 d5 d6 d7 d8
    obtain ⟨q, hq⟩ : ∃ q, q = eqT l[k] m[k] := ⟨_, rfl⟩
    rw [← hq] at IK
    generalize v1.drew = w3 at A3 A4 BD ⊢
    cases q with
    | false =>
     obtain rfl := RN.out k hkl hkm hq.symm
     clear hq
     go_wp2_with fail
     refine (IK.out _ A3.out A4.out).mono ?_
     rintro e w4 ⟨rfl, b4⟩
     have B4 := Lib.hid (BD.out.trans (b4.mono BD.out.size))
     clear b4 A3 A4
     go_wp2_with fail
     go_ret
     exact ⟨rfl, B4.out⟩
    | true =>
     have HQ := Lib.hid hq
     clear hq
     go_wp2_with fail
     refine (IK.out _ A3.out A4.out).mono ?_
     rintro e w4 ⟨rfl, b4⟩
     have B4 := Lib.hid (BD.out.trans (b4.mono BD.out.size))
     clear b4 A3 A4
     go_wp2_with fail
     go_roundw
     case rel => exact ⟨k + 1, by omega, by go_num, B4, Lib.hid (fun j hj a b => by
      rcases Nat.lt_succ_iff_lt_or_eq.1 hj with q | q
      ·
       exact hall.out j q a b
      ·
       subst q; exact HQ.out.symm)⟩
     case measure => simp [intOf]; omega
   ·
    obtain rfl : r = true := RY.out (fun j a b => hall.out j (by rw [HN.out] at hlt; omega) a b)
    have hlti : ¬ (k : Int) < (N : Int) := by omega
    go_wp2_with fail
    go_ret
    exact ⟨rfl, BW.out⟩
 ·
  obtain rfl : r = false := by
   rw [hr]
   cases hh : eqL l m with
   | false => rfl
   | true => exact absurd (eqL_len hh) hlen
  have hne : ((l.length : Int) != (m.length : Int)) = true := by rw [bne_iff_ne]; omega
  clear hr hlen ih h1 h2
  go_enter Tryz.func179, Tryz.ntmps179
  go_wp2_with fail
  go_ret
  exact ⟨rfl, Below.refl _ _⟩
theorem tsame_any : ∀ (t : Tm) (u : Tm) (S S2 : Nat → Prop) (x y : Ft) (w : World), TmAt S w t x → TmAt S2 w u y →
  Calls Tryz.prog 134 #[ftV x, ftV y] w fun e w' => e = .returned (.bool (eqT t u)) ∧ Below w.heap.size w w' := by
 intro t
 induction t using Tm.ind with
 | h f l ih =>
  intro u S S2 x y w hx hy
  obtain ⟨g, m⟩ := u
  obtain ⟨e1, i1⟩ := hx.its
  obtain ⟨e2, i2⟩ := hy.its
  obtain ⟨_, sa, cap, v1⟩ := i1.form
  obtain ⟨_, sa2, cap2, v2⟩ := i2.form
  obtain ⟨xf, xv⟩ := x
  obtain ⟨yf, yv⟩ := y
  dsimp only at e1 e2 v1 v2 i1 i2
  subst e1 e2 v1 v2
  rw [eqT]
  exact same89_flat xf yf sa sa2 _ cap _ cap2 w _ (Lib.hid fun W bW => alike_any S S2 l m _ _ W (i1.below bW (fun _ _ h => h)) (i2.below bW (fun _ _ h => h)) (fun t ht u x y W' h1 h2 => ih t ht u S S2 x y W' h1 h2))
end Go.Proofs.YtoaimoemaoinhaaGreatDoor
