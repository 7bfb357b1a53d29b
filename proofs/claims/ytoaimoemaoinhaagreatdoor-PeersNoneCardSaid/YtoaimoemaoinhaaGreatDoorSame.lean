/- The equality of terms: kit.Same and terms.Same. -/
import Derived.Test.YtoaimoemaoinhaaGreatDoorKinds2
import Derived.StillTailTactics
namespace Go.Proofs.YtoaimoemaoinhaaGreatDoor
open Go.RowKit Go.Rt Go.Rw

def sameF (f g : Fl) : Bool := decide (f.k = g.k) && (decide (f.n = g.n) && (decide (f.g = g.g) && (decide (f.nm = g.nm) && (decide (f.fn = g.fn) && (decide (f.ar = g.ar) && (decide (f.bs = g.bs) && decide (f.bt = g.bt)))))))
mutual
def eqT : Tm → Tm → Bool
  | .mk f l, .mk g m => sameF f g && eqL l m
def eqL : List Tm → List Tm → Bool
  | [], [] => true
  | t :: r, u :: s => eqT t u && eqL r s
  | _, _ => false
end
theorem bytes_ext {a b : ByteArray} (h : a.toList = b.toList) : a = b := by
  rw [ByteArray.toList_eq, ByteArray.toList_eq] at h
  exact ByteArray.ext (Array.toList_inj.1 h)
theorem sameF_iff (f g : Fl) : sameF f g = true ↔ f = g := by
  obtain ⟨k, n, g1, nm, fn, ar, bs, bt⟩ := f
  obtain ⟨k2, n2, g2, nm2, fn2, ar2, bs2, bt2⟩ := g
  unfold sameF
  simp only [Bool.and_eq_true, decide_eq_true_eq, Fl.mk.injEq]
mutual
theorem eqT_iff : ∀ t u, eqT t u = true ↔ t = u
  | .mk f l, .mk g m => by
    rw [eqT, Bool.and_eq_true, sameF_iff, eqL_iff l m, Tm.mk.injEq]
theorem eqL_iff : ∀ l m, eqL l m = true ↔ l = m
  | [], [] => by simp [eqL]
  | [], u :: s => by simp [eqL]
  | t :: r, [] => by simp [eqL]
  | t :: r, u :: s => by rw [eqL, Bool.and_eq_true, eqT_iff t u, eqL_iff r s, List.cons.injEq]
end
theorem eqL_len {l m : List Tm} (h : eqL l m = true) : l.length = m.length := by rw [(eqL_iff l m).1 h]
theorem eqL_get {l m : List Tm} (hlen : l.length = m.length) (k : Nat) (h1 : k < l.length) (h2 : k < m.length) (h : eqT l[k] m[k] = false) : eqL l m = false := by
  cases hh : eqL l m with
  | false => rfl
  | true =>
    have := (eqL_iff l m).1 hh
    subst this
    rw [(eqT_iff _ _).2 rfl] at h
    cases h
theorem eqL_all {l m : List Tm} (hlen : l.length = m.length) (h : ∀ k (h1 : k < l.length) (h2 : k < m.length), eqT l[k] m[k] = true) : eqL l m = true := by
  rw [eqL_iff]
  exact List.ext_getElem hlen (fun k h1 h2 => (eqT_iff _ _).1 (h k h1 h2))
/-- The nine cells of a term. -/
theorem cells9 {W : World} {b p : Nat} {x : Ft} (h : ∀ j, j < 9 → W.cell? ⟨b, p + j, none⟩ = (ftC x)[j]?) :
    W.cell? ⟨b, p, none⟩ = some (.int .i64 x.f.k) ∧ W.cell? ⟨b, p + 1, none⟩ = some (.int .i64 x.f.n) ∧ W.cell? ⟨b, p + 2, none⟩ = some (.int .i64 x.f.g) ∧ W.cell? ⟨b, p + 3, none⟩ = some (.string x.f.nm) ∧ W.cell? ⟨b, p + 4, none⟩ = some (.string x.f.fn) ∧
      W.cell? ⟨b, p + 5, none⟩ = some (.int .i64 x.f.ar) ∧ W.cell? ⟨b, p + 6, none⟩ = some x.v ∧ W.cell? ⟨b, p + 7, none⟩ = some (.string x.f.bs) ∧ W.cell? ⟨b, p + 8, none⟩ = some (.int .i64 x.f.bt) :=
  ⟨h 0 (by omega), h 1 (by omega), h 2 (by omega), h 3 (by omega), h 4 (by omega), h 5 (by omega), h 6 (by omega), h 7 (by omega), h 8 (by omega)⟩

theorem TmAt.drew {S : Nat → Prop} {w : World} {t : Tm} {x : Ft} (h : TmAt S w t x) : TmAt S w.drew t x := TmAt.map (S := S) (S' := S) (w := w) (w' := w.drew) (Nat.le_refl _) (fun _ _ _ => rfl) (fun _ hs _ => hs) h
theorem ItsAt.drew {S : Nat → Prop} {w : World} {l : List Tm} {v : Value} (h : ItsAt S w l v) : ItsAt S w.drew l v := ItsAt.map (S := S) (S' := S) (w := w) (w' := w.drew) (Nat.le_refl _) (fun _ _ _ => rfl) (fun _ hs _ => hs) h

set_option maxRecDepth 100000 in
set_option maxHeartbeats 2000000 in
theorem same_flat (f f2 : Fl) (sa sa2 : Option Addr) (len cap len2 cap2 : Nat) (w : World) (rl : Bool)
    (CL : Hid (∀ W, Below w.heap.size w W → Calls Tryz.prog 125 #[.slice sa len cap, .slice sa2 len2 cap2] W fun e w' => e = .returned (.bool rl) ∧ Below W.heap.size W w')) :
    Calls Tryz.prog 65 #[ftV ⟨f, .slice sa len cap⟩, ftV ⟨f2, .slice sa2 len2 cap2⟩] w fun e w' => e = .returned (.bool (sameF f f2 && rl)) ∧ Below w.heap.size w w' := by
  obtain ⟨k, n, g, nm, fn, ar, bs, bt⟩ := f
  obtain ⟨k2, n2, g2, nm2, fn2, ar2, bs2, bt2⟩ := f2
  obtain ⟨r, hr⟩ : ∃ r, r = (sameF ⟨k, n, g, nm, fn, ar, bs, bt⟩ ⟨k2, n2, g2, nm2, fn2, ar2, bs2, bt2⟩ && rl) := ⟨_, rfl⟩
  rw [← hr]
  unfold ftV
  by_cases q0 : k = k2
  · subst q0
    by_cases q1 : n = n2
    · subst q1
      by_cases q2 : g = g2
      · subst q2
        by_cases q3 : nm = nm2
        · subst q3
          by_cases q4 : fn = fn2
          · subst q4
            by_cases q5 : ar = ar2
            · subst q5
              by_cases q6 : bs = bs2
              · subst q6
                by_cases q7 : bt = bt2
                · subst q7
                  obtain rfl : r = rl := by rw [hr]; unfold sameF; simp
                  clear hr
                  go_enter Tryz.func65, Tryz.ntmps65
                  go_wp2_with fail
                  refine (CL.out _ (((Below.refl _ _).alloc (Nat.le_refl _) _).alloc (by simp) _)).mono ?_
                  rintro e w1 ⟨rfl, b1⟩
                  have B1 := Lib.hid ((((Below.refl w.heap.size w).alloc (Nat.le_refl _) _).alloc (by simp) _).trans (b1.mono (by simp; omega)))
                  clear b1
                  go_wp2_with fail
                  go_ret
                  exact ⟨rfl, B1.out⟩
                · have d7 : (bt == bt2) = false := by simpa using q7
                  obtain rfl : r = false := by rw [hr]; unfold sameF; simp [q7]
                  clear hr CL q7
                  go_enter Tryz.func65, Tryz.ntmps65
                  go_wp2_with fail
                  go_ret
                  exact ⟨rfl, ((Below.refl _ _).alloc (Nat.le_refl _) _).alloc (by simp) _⟩
              · have d6 : (bs.toList == bs2.toList) = false := by rw [beq_eq_false_iff_ne]; exact fun h => q6 (bytes_ext h)
                obtain rfl : r = false := by rw [hr]; unfold sameF; simp [q6]
                clear hr CL q6
                go_enter Tryz.func65, Tryz.ntmps65
                go_wp2_with fail
                go_ret
                exact ⟨rfl, ((Below.refl _ _).alloc (Nat.le_refl _) _).alloc (by simp) _⟩
            · have d5 : (ar == ar2) = false := by simpa using q5
              obtain rfl : r = false := by rw [hr]; unfold sameF; simp [q5]
              clear hr CL q5
              go_enter Tryz.func65, Tryz.ntmps65
              go_wp2_with fail
              go_ret
              exact ⟨rfl, ((Below.refl _ _).alloc (Nat.le_refl _) _).alloc (by simp) _⟩
          · have d4 : (fn.toList == fn2.toList) = false := by rw [beq_eq_false_iff_ne]; exact fun h => q4 (bytes_ext h)
            obtain rfl : r = false := by rw [hr]; unfold sameF; simp [q4]
            clear hr CL q4
            go_enter Tryz.func65, Tryz.ntmps65
            go_wp2_with fail
            go_ret
            exact ⟨rfl, ((Below.refl _ _).alloc (Nat.le_refl _) _).alloc (by simp) _⟩
        · have d3 : (nm.toList == nm2.toList) = false := by rw [beq_eq_false_iff_ne]; exact fun h => q3 (bytes_ext h)
          obtain rfl : r = false := by rw [hr]; unfold sameF; simp [q3]
          clear hr CL q3
          go_enter Tryz.func65, Tryz.ntmps65
          go_wp2_with fail
          go_ret
          exact ⟨rfl, ((Below.refl _ _).alloc (Nat.le_refl _) _).alloc (by simp) _⟩
      · have d2 : (g == g2) = false := by simpa using q2
        obtain rfl : r = false := by rw [hr]; unfold sameF; simp [q2]
        clear hr CL q2
        go_enter Tryz.func65, Tryz.ntmps65
        go_wp2_with fail
        go_ret
        exact ⟨rfl, ((Below.refl _ _).alloc (Nat.le_refl _) _).alloc (by simp) _⟩
    · have d1 : (n == n2) = false := by simpa using q1
      obtain rfl : r = false := by rw [hr]; unfold sameF; simp [q1]
      clear hr CL q1
      go_enter Tryz.func65, Tryz.ntmps65
      go_wp2_with fail
      go_ret
      exact ⟨rfl, ((Below.refl _ _).alloc (Nat.le_refl _) _).alloc (by simp) _⟩
  · have d0 : (k == k2) = false := by simpa using q0
    obtain rfl : r = false := by rw [hr]; unfold sameF; simp [q0]
    clear hr CL q0
    go_enter Tryz.func65, Tryz.ntmps65
    go_wp2_with fail
    go_ret
    exact ⟨rfl, ((Below.refl _ _).alloc (Nat.le_refl _) _).alloc (by simp) _⟩
set_option maxRecDepth 100000 in
set_option maxHeartbeats 2000000 in
theorem samel_any (S S2 : Nat → Prop) (l m : List Tm) (v v2 : Value) (w : World) (h1 : ItsAt S w l v) (h2 : ItsAt S2 w m v2)
    (ih : ∀ t ∈ l, ∀ (u : Tm) (x y : Ft) (W : World), TmAt S W t x → TmAt S2 W u y → Calls Tryz.prog 65 #[ftV x, ftV y] W fun e w' => e = .returned (.bool (eqT t u)) ∧ Below W.heap.size W w') :
    Calls Tryz.prog 125 #[v, v2] w fun e w' => e = .returned (.bool (eqL l m)) ∧ Below w.heap.size w w' := by
  obtain ⟨hm1, sa, cap, rfl⟩ := h1.form
  obtain ⟨hm2, sa2, cap2, rfl⟩ := h2.form
  obtain ⟨r, hr⟩ : ∃ r, r = eqL l m := ⟨_, rfl⟩
  rw [← hr]
  by_cases hlen : l.length = m.length
  · have RN : Hid (∀ k (a : k < l.length) (b : k < m.length), eqT l[k] m[k] = false → r = false) := Lib.hid (fun k a b h => by rw [hr]; exact eqL_get hlen k a b h)
    have RY : Hid ((∀ k (a : k < l.length) (b : k < m.length), eqT l[k] m[k] = true) → r = true) := Lib.hid (fun h => by rw [hr]; exact eqL_all hlen h)
    have IH := Lib.hid ih
    have H1 := Lib.hid h1
    have H2 := Lib.hid h2
    have HL := Lib.hid hlen
    clear hr ih h1 h2
    rw [← hlen] at H2 ⊢ hm2
    clear hlen
    go_enter Tryz.func125, Tryz.ntmps125
    go_wp2_with fail
    go_loopw [5] (fun i wr => ∃ k : Nat, k ≤ l.length ∧ i = .int .i64 k ∧ Below w.heap.size w wr ∧ Hid (∀ j, j < k → ∀ (a : j < l.length) (b : j < m.length), eqT l[j] m[j] = true)) (fun i _ => l.length - (intOf i).toNat)
    case atStart => exact ⟨0, Nat.zero_le _, rfl, Below.refl _ _, Lib.hid (fun j hj => by omega)⟩
    case round =>
      obtain ⟨k, hk, rfl, bw, hall⟩ := hrel
      have BW := Lib.hid bw
      by_cases hlt : k < l.length
      · obtain ⟨b, o, rfl, hb, _, hc⟩ := H1.out.get (by omega)
        obtain ⟨b2, o2, rfl, hb2, _, hc2⟩ := H2.out.get (by have := HL.out; omega)
        obtain ⟨x, hx, hcx⟩ := hc k hlt
        obtain ⟨y, hy, hcy⟩ := hc2 k (by have := HL.out; omega)
        have A1 := Lib.hid (hx.below bw (fun b _ h => h)).drew
        have A2 := Lib.hid (hy.below bw (fun b _ h => h)).drew
        have BD := Lib.hid bw.drew
        obtain ⟨p0, p1, p2, p3, p4, p5, p6, p7, p8⟩ := cells9 (W := wr) (b := b) (p := o + k * 9) (x := x) (fun j hj => by rw [← hcx j hj]; exact bw.cell (p := ⟨b, _, none⟩) hb)
        obtain ⟨q0, q1, q2, q3, q4, q5, q6, q7, q8⟩ := cells9 (W := wr) (b := b2) (p := o2 + k * 9) (x := y) (fun j hj => by rw [← hcy j hj]; exact bw.cell (p := ⟨b2, _, none⟩) hb2)
        have IK := Lib.hid (fun W => IH.out l[k] (List.getElem_mem hlt) (m[k]'(by have := HL.out; omega)) x y W)
        clear hc hc2 hcx hcy hx hy bw
        go_wp2_with fail
        go_still_tail 8, (by kernel_rfl)
        change wpList _ _ _ _ _ wr.drew
        clear p0 p1 p2 p3 p4 p5 p6 p7 p8 q0 q1 q2 q3 q4 q5 q6 q7 q8 BW
        obtain ⟨q, hq⟩ : ∃ q, q = eqT l[k] (m[k]'(by have := HL.out; omega)) := ⟨_, rfl⟩
        rw [← hq] at IK
        generalize wr.drew = w3 at A1 A2 BD ⊢
        cases q with
        | false =>
          obtain rfl := RN.out k hlt (by have := HL.out; omega) hq.symm
          clear hq
          go_wp2_with fail
          refine (IK.out _ A1.out A2.out).mono ?_
          rintro e w4 ⟨rfl, b4⟩
          have B4 := Lib.hid (BD.out.trans (b4.mono BD.out.size))
          clear b4 A1 A2
          go_wp2_with fail
          go_ret
          exact ⟨rfl, B4.out⟩
        | true =>
          have HQ := Lib.hid hq
          clear hq
          go_wp2_with fail
          refine (IK.out _ A1.out A2.out).mono ?_
          rintro e w4 ⟨rfl, b4⟩
          have B4 := Lib.hid (BD.out.trans (b4.mono BD.out.size))
          clear b4 A1 A2
          go_wp2_with fail
          go_roundw
          case rel => exact ⟨k + 1, by omega, by go_num, B4.out, Lib.hid (fun j hj a b => by
            rcases Nat.lt_succ_iff_lt_or_eq.1 hj with q | q
            · exact hall.out j q a b
            · subst q; exact HQ.out.symm)⟩
          case measure => simp [intOf]; omega
      · obtain rfl : r = true := RY.out (fun j a b => hall.out j (by omega) a b)
        go_wp2_with fail
        go_ret
        exact ⟨rfl, BW.out⟩
  · obtain rfl : r = false := by
      rw [hr]
      cases hh : eqL l m with
      | false => rfl
      | true => exact absurd (eqL_len hh) hlen
    have d0 : ((l.length : Int) != m.length) = true := by rw [bne_iff_ne]; omega
    clear h1 h2 hr ih
    go_enter Tryz.func125, Tryz.ntmps125
    go_wp2_with fail
    go_ret
    exact ⟨rfl, Below.refl _ _⟩
theorem same_any : ∀ (t : Tm) (u : Tm) (S S2 : Nat → Prop) (x y : Ft) (w : World), TmAt S w t x → TmAt S2 w u y →
    Calls Tryz.prog 65 #[ftV x, ftV y] w fun e w' => e = .returned (.bool (eqT t u)) ∧ Below w.heap.size w w' := by
  intro t
  induction t using Tm.ind with
  | h f l ih =>
    intro u S S2 x y w hx hy
    obtain ⟨g, m⟩ := u
    obtain ⟨e1, i1⟩ := hx.its
    obtain ⟨e2, i2⟩ := hy.its
    obtain ⟨_, sa, cap, v1⟩ := i1.form
    obtain ⟨_, sa2, cap2, v2⟩ := i2.form
    obtain ⟨xf, xv⟩ := x
    obtain ⟨yf, yv⟩ := y
    dsimp only at e1 e2 v1 v2 i1 i2
    subst e1 e2 v1 v2
    rw [eqT]
    exact same_flat xf yf sa sa2 _ cap _ cap2 w _ (Lib.hid fun W bW => samel_any S S2 l m _ _ W (i1.below bW (fun _ _ h => h)) (i2.below bW (fun _ _ h => h)) (fun t ht u x y W' h1 h2 => ih t ht u S S2 x y W' h1 h2))
end Go.Proofs.YtoaimoemaoinhaaGreatDoor
