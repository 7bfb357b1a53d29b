/- stagehandref17.Same, sameArgs, sameLists. -/
import Derived.Test.YtekfnonjhcfdmaaDoorMem
import Derived.StillTailTactics
namespace Go.Proofs.YtekfnonjhcfdmaaDoor
open Go.RowKit Go.Rt Go.Rw

/-- A Boolean answer that leaves all memory. -/
def BoR (r : Bool) (w : World) (e : Ending) (w' : World) : Prop := e = .returned (.bool r) ∧ Below w.heap.size w w'
open Classical in
/-- Are two lists equal? -/
noncomputable def eqB {α : Type} (L M : List α) : Bool := decide (L = M)
open Classical in
theorem eqB_no {α : Type} {L M : List α} (k : Nat) (a : k < L.length) (b : k < M.length) (h : L[k] ≠ M[k]) : eqB L M = false := by unfold eqB; exact decide_eq_false (fun e => h (by subst e; rfl))
open Classical in
theorem eqB_yes {α : Type} {L M : List α} (hl : L.length = M.length) (h : ∀ k (a : k < L.length) (b : k < M.length), L[k] = M[k]) : eqB L M = true := by unfold eqB; exact decide_eq_true (List.ext_getElem hl h)
open Classical in
theorem eqB_len {α : Type} {L M : List α} (hl : L.length ≠ M.length) : eqB L M = false := by unfold eqB; exact decide_eq_false (fun e => hl (by rw [e]))
open Classical in
theorem eqB_iff {α : Type} (L M : List α) : eqB L M = true ↔ L = M := by unfold eqB; exact decide_eq_true_iff
theorem below_drewN {n : Nat} {w w' : World} (h : Below n w w') (k : Nat) : Below n w (w'.drewN k) := ⟨h.os, h.tape, h.output, h.size, h.block⟩
theorem i64_bne (a b : Int) (h : a ≠ b) : (a != b) = true := by rw [bne_iff_ne]; exact h
set_option maxRecDepth 100000 in
set_option maxHeartbeats 2000000 in
theorem same_any (L M : List Int) (v v2 : Value) (w : World) (h1 : SlAt w 1 inC v L) (h2 : SlAt w 1 inC v2 M) : Calls Tryd.prog 15 #[v, v2] w (BoR (eqB L M) w) := by
  obtain ⟨hm1, sa, cap, rfl⟩ := h1.len
  obtain ⟨hm2, sa2, cap2, rfl⟩ := h2.len
  obtain ⟨r, hr⟩ : ∃ r, r = eqB L M := ⟨_, rfl⟩
  rw [← hr]
  by_cases hlen : L.length = M.length
  · have RN : Hid (∀ k (a : k < L.length) (b : k < M.length), L[k] ≠ M[k] → r = false) := Lib.hid (fun k a b h => by rw [hr]; exact eqB_no k a b h)
    have RY : Hid ((∀ k (a : k < L.length) (b : k < M.length), L[k] = M[k]) → r = true) := Lib.hid (fun h => by rw [hr]; exact eqB_yes hlen h)
    have H1 := Lib.hid h1
    have H2 := Lib.hid h2
    have HL := Lib.hid hlen
    clear hr h1 h2
    rw [← hlen] at H2 ⊢ hm2
    clear hlen
    go_enter Tryd.func15, Tryd.ntmps15
    go_wp2_with fail
    go_loopw [5] (fun i wr => ∃ k : Nat, k ≤ L.length ∧ i = .int .i64 k ∧ Below w.heap.size w wr ∧ Hid (∀ j, j < k → ∀ (a : j < L.length) (b : j < M.length), L[j] = M[j])) (fun i _ => L.length - (intOf i).toNat)
    case atStart => exact ⟨0, Nat.zero_le _, rfl, Below.refl _ _, Lib.hid (fun j hj => by omega)⟩
    case round =>
      obtain ⟨k, hk, rfl, bw, hall⟩ := hrel
      have BW := Lib.hid bw
      by_cases hlt : k < L.length
      · have hlt2 : k < M.length := by have := HL.out; omega
        obtain ⟨b, o, rfl, hb, hc⟩ := H1.out.get (by omega)
        have h2' : SlAt w 1 inC (.slice sa2 M.length cap2) M := by rw [← HL.out]; exact H2.out
        obtain ⟨b2, o2, rfl, hb2, hc2⟩ := h2'.get (by omega)
        have HK := Lib.hid (RN.out k hlt hlt2)
        have HE := Lib.hid hall.out
        have p := hc k 0 hlt (by omega)
        have q := hc2 k 0 hlt2 (by omega)
        rw [Nat.mul_one, Nat.add_zero] at p q
        obtain ⟨x, hx⟩ : ∃ x, x = L[k] := ⟨_, rfl⟩
        obtain ⟨y, hy⟩ : ∃ y, y = M[k] := ⟨_, rfl⟩
        rw [← hx] at p
        rw [← hy] at q
        have p0 : wr.cell? ⟨b, o + k, none⟩ = some (.int .i64 x) := by rw [bw.cell (p := ⟨b, _, none⟩) hb, p]; rfl
        have q0 : wr.cell? ⟨b2, o2 + k, none⟩ = some (.int .i64 y) := by rw [bw.cell (p := ⟨b2, _, none⟩) hb2, q]; rfl
        rw [← hx, ← hy] at HK
        clear hc hc2 p q bw h2'
        by_cases hxy : x = y
        · subst hxy
          have HQ : Hid (L[k] = M[k]) := Lib.hid (hx.symm.trans hy)
          clear hx hy
          go_wp2_with fail
          go_quiet (fail)
          have BX := Lib.hid (below_drewN BW.out nq)
          go_wp2_with fail
          go_roundw
          case rel => exact ⟨k + 1, by omega, by go_num, BX.out, Lib.hid (fun j hj a b => by
            rcases Nat.lt_succ_iff_lt_or_eq.1 hj with q | q
            · exact HE.out j q a b
            · subst q; exact HQ.out)⟩
          case measure => simp [intOf]; omega
        · obtain rfl := HK.out hxy
          have dn := i64_bne x y hxy
          clear hx hy hxy
          go_wp2_with fail
          go_quiet (fail)
          go_wp2_with fail
          go_ret
          exact ⟨rfl, below_drewN BW.out _⟩
      · obtain rfl : r = true := RY.out (fun j a b => hall.out j (by omega) a b)
        go_wp2_with fail
        go_ret
        exact ⟨rfl, BW.out⟩
  · obtain rfl : r = false := by rw [hr]; exact eqB_len hlen
    have d0 : ((L.length : Int) != M.length) = true := by rw [bne_iff_ne]; omega
    clear h1 h2 hr
    go_enter Tryd.func15, Tryd.ntmps15
    go_wp2_with fail
    go_ret
    exact ⟨rfl, Below.refl _ _⟩
set_option maxRecDepth 100000 in
set_option maxHeartbeats 2000000 in
theorem samea_any (L M : List Ar) (v v2 : Value) (w : World) (h1 : SlAt w 2 arC v L) (h2 : SlAt w 2 arC v2 M) : Calls Tryd.prog 18 #[v, v2] w (BoR (eqB L M) w) := by
  obtain ⟨hm1, sa, cap, rfl⟩ := h1.len
  obtain ⟨hm2, sa2, cap2, rfl⟩ := h2.len
  obtain ⟨r, hr⟩ : ∃ r, r = eqB L M := ⟨_, rfl⟩
  rw [← hr]
  by_cases hlen : L.length = M.length
  · have RN : Hid (∀ k (a : k < L.length) (b : k < M.length), L[k] ≠ M[k] → r = false) := Lib.hid (fun k a b h => by rw [hr]; exact eqB_no k a b h)
    have RY : Hid ((∀ k (a : k < L.length) (b : k < M.length), L[k] = M[k]) → r = true) := Lib.hid (fun h => by rw [hr]; exact eqB_yes hlen h)
    have H1 := Lib.hid h1
    have H2 := Lib.hid h2
    have HL := Lib.hid hlen
    clear hr h1 h2
    rw [← hlen] at H2 ⊢ hm2
    clear hlen
    go_enter Tryd.func18, Tryd.ntmps18
    go_wp2_with fail
    go_loopw [5] (fun i wr => ∃ k : Nat, k ≤ L.length ∧ i = .int .i64 k ∧ Below w.heap.size w wr ∧ Hid (∀ j, j < k → ∀ (a : j < L.length) (b : j < M.length), L[j] = M[j])) (fun i _ => L.length - (intOf i).toNat)
    case atStart => exact ⟨0, Nat.zero_le _, rfl, Below.refl _ _, Lib.hid (fun j hj => by omega)⟩
    case round =>
      obtain ⟨k, hk, rfl, bw, hall⟩ := hrel
      have BW := Lib.hid bw
      by_cases hlt : k < L.length
      · have hlt2 : k < M.length := by have := HL.out; omega
        obtain ⟨b, o, rfl, hb, hc⟩ := H1.out.get (by omega)
        have h2' : SlAt w 2 arC (.slice sa2 M.length cap2) M := by rw [← HL.out]; exact H2.out
        obtain ⟨b2, o2, rfl, hb2, hc2⟩ := h2'.get (by omega)
        have HK := Lib.hid (RN.out k hlt hlt2)
        have HE := Lib.hid hall.out
        have p := hc k 0 hlt (by omega)
        have p' := hc k 1 hlt (by omega)
        have q := hc2 k 0 hlt2 (by omega)
        have q' := hc2 k 1 hlt2 (by omega)
        rw [Nat.add_zero] at p q
        obtain ⟨x, hx⟩ : ∃ x, x = L[k] := ⟨_, rfl⟩
        obtain ⟨y, hy⟩ : ∃ y, y = M[k] := ⟨_, rfl⟩
        rw [← hx] at p p'
        rw [← hy] at q q'
        have p0 : wr.cell? ⟨b, o + k * 2, none⟩ = some (.int .i64 x.k) := by rw [bw.cell (p := ⟨b, _, none⟩) hb, p]; rfl
        have p1 : wr.cell? ⟨b, o + k * 2 + 1, none⟩ = some (.int .i64 x.n) := by rw [bw.cell (p := ⟨b, _, none⟩) hb, p']; rfl
        have q0 : wr.cell? ⟨b2, o2 + k * 2, none⟩ = some (.int .i64 y.k) := by rw [bw.cell (p := ⟨b2, _, none⟩) hb2, q]; rfl
        have q1 : wr.cell? ⟨b2, o2 + k * 2 + 1, none⟩ = some (.int .i64 y.n) := by rw [bw.cell (p := ⟨b2, _, none⟩) hb2, q']; rfl
        rw [← hx, ← hy] at HK
        clear hc hc2 p q p' q' bw h2'
        by_cases hxy : x = y
        · have HQ : Hid (L[k] = M[k]) := Lib.hid (hx.symm.trans (hxy.trans hy))
          subst hxy
          clear hx hy
          go_wp2_with fail
          go_quiet (fail)
          have BX := Lib.hid (below_drewN BW.out nq)
          go_wp2_with fail
          go_roundw
          case rel => exact ⟨k + 1, by omega, by go_num, BX.out, Lib.hid (fun j hj a b => by
            rcases Nat.lt_succ_iff_lt_or_eq.1 hj with q | q
            · exact HE.out j q a b
            · subst q; exact HQ.out)⟩
          case measure => simp [intOf]; omega
        · obtain rfl := HK.out hxy
          obtain ⟨xk, xn⟩ := x
          obtain ⟨yk, yn⟩ := y
          dsimp only at p0 p1 q0 q1
          clear hx hy
          by_cases h0 : xk = yk
          · subst h0
            have dn : (xn == yn) = false := by rw [beq_eq_false_iff_ne]; intro e; subst e; exact hxy rfl
            clear hxy
            go_wp2_with fail
            go_quiet (fail)
            go_wp2_with fail
            go_ret
            exact ⟨rfl, below_drewN BW.out _⟩
          · have dn : (xk == yk) = false := by rw [beq_eq_false_iff_ne]; exact h0
            clear hxy h0
            go_wp2_with fail
            go_quiet (fail)
            go_wp2_with fail
            go_ret
            exact ⟨rfl, below_drewN BW.out _⟩
      · obtain rfl : r = true := RY.out (fun j a b => hall.out j (by omega) a b)
        go_wp2_with fail
        go_ret
        exact ⟨rfl, BW.out⟩
  · obtain rfl : r = false := by rw [hr]; exact eqB_len hlen
    have d0 : ((L.length : Int) != M.length) = true := by rw [bne_iff_ne]; omega
    clear h1 h2 hr
    go_enter Tryd.func18, Tryd.ntmps18
    go_wp2_with fail
    go_ret
    exact ⟨rfl, Below.refl _ _⟩
def vlC (v : Value) : List Value := [v]
/-- A list of lists of numbers. -/
def LsAt (w : World) (L : List (List Int)) (v : Value) : Prop := ∃ Vs : List Value, SlAt w 1 vlC v Vs ∧ Vs.length = L.length ∧ ∀ i (a : i < Vs.length) (b : i < L.length), SlAt w 1 inC Vs[i] L[i]
theorem LsAt.keep {w w' : World} {L : List (List Int)} {v : Value} (h : LsAt w L v) (b : Below w.heap.size w w') : LsAt w' L v := by
  obtain ⟨Vs, h1, h2, h3⟩ := h
  exact ⟨Vs, h1.keep b, h2, fun i p q => (h3 i p q).keep b⟩
theorem LsAt.form {w : World} {L : List (List Int)} {v : Value} (h : LsAt w L v) : L.length ≤ 9223372036854775807 ∧ ∃ sa cap, v = .slice sa L.length cap := by
  obtain ⟨Vs, h1, h2, _⟩ := h
  have := h1.len
  rw [h2] at this
  exact this
theorem LsAt.get {w : World} {L : List (List Int)} {sa : Option Addr} {n cap : Nat} (h : LsAt w L (.slice sa n cap)) (hne : 0 < L.length) : ∃ b o, sa = some ⟨b, o, none⟩ ∧ b < w.heap.size ∧
    ∀ i (hi : i < L.length), ∃ v, SlAt w 1 inC v L[i] ∧ w.cell? ⟨b, o + i, none⟩ = some v := by
  obtain ⟨Vs, h1, h2, h3⟩ := h
  obtain ⟨b, o, rfl, hb, hc⟩ := h1.get (by omega)
  refine ⟨b, o, rfl, hb, fun i hi => ⟨Vs[i], h3 i (by omega) hi, ?_⟩⟩
  have := hc i 0 (by omega) (by omega)
  rw [Nat.mul_one, Nat.add_zero] at this
  exact this
set_option maxRecDepth 100000 in
set_option maxHeartbeats 2000000 in
theorem samels_any (L M : List (List Int)) (v v2 : Value) (w : World) (h1 : LsAt w L v) (h2 : LsAt w M v2) : Calls Tryd.prog 14 #[v, v2] w (BoR (eqB L M) w) := by
  obtain ⟨hm1, sa, cap, rfl⟩ := h1.form
  obtain ⟨hm2, sa2, cap2, rfl⟩ := h2.form
  obtain ⟨r, hr⟩ : ∃ r, r = eqB L M := ⟨_, rfl⟩
  rw [← hr]
  by_cases hlen : L.length = M.length
  · have RN : Hid (∀ k (a : k < L.length) (b : k < M.length), L[k] ≠ M[k] → r = false) := Lib.hid (fun k a b h => by rw [hr]; exact eqB_no k a b h)
    have RY : Hid ((∀ k (a : k < L.length) (b : k < M.length), L[k] = M[k]) → r = true) := Lib.hid (fun h => by rw [hr]; exact eqB_yes hlen h)
    have H1 := Lib.hid h1
    have H2 := Lib.hid h2
    have HL := Lib.hid hlen
    clear hr h1 h2
    rw [← hlen] at H2 ⊢ hm2
    clear hlen
    go_enter Tryd.func14, Tryd.ntmps14
    go_wp2_with fail
    go_loopw [5] (fun i wr => ∃ k : Nat, k ≤ L.length ∧ i = .int .i64 k ∧ Below w.heap.size w wr ∧ Hid (∀ j, j < k → ∀ (a : j < L.length) (b : j < M.length), L[j] = M[j])) (fun i _ => L.length - (intOf i).toNat)
    case atStart => exact ⟨0, Nat.zero_le _, rfl, Below.refl _ _, Lib.hid (fun j hj => by omega)⟩
    case round =>
      obtain ⟨k, hk, rfl, bw, hall⟩ := hrel
      have BW := Lib.hid bw
      by_cases hlt : k < L.length
      · have hlt2 : k < M.length := by have := HL.out; omega
        obtain ⟨b, o, rfl, hb, hc⟩ := H1.out.get (by omega)
        have h2' : LsAt w M (.slice sa2 M.length cap2) := by rw [← HL.out]; exact H2.out
        obtain ⟨b2, o2, rfl, hb2, hc2⟩ := h2'.get (by omega)
        have HK := Lib.hid (RN.out k hlt hlt2)
        have HE := Lib.hid hall.out
        obtain ⟨x, hx, p⟩ := hc k hlt
        obtain ⟨y, hy, q⟩ := hc2 k hlt2
        obtain ⟨_, sx, cx, rfl⟩ := hx.len
        obtain ⟨_, sy, cy, rfl⟩ := hy.len
        have BD := Lib.hid bw.drew
        have C := Lib.hid (same_any L[k] M[k] _ _ wr.drew ((hx.keep bw).keep (Below.refl _ _).drew) ((hy.keep bw).keep (Below.refl _ _).drew))
        have p0 : wr.cell? ⟨b, o + k, none⟩ = some (.slice sx L[k].length cx) := by rw [bw.cell (p := ⟨b, _, none⟩) hb, p]
        have q0 : wr.cell? ⟨b2, o2 + k, none⟩ = some (.slice sy M[k].length cy) := by rw [bw.cell (p := ⟨b2, _, none⟩) hb2, q]
        obtain ⟨l1, hl1⟩ : ∃ l, l = L[k].length := ⟨_, rfl⟩
        obtain ⟨l2, hl2⟩ : ∃ l, l = M[k].length := ⟨_, rfl⟩
        have HXY := Lib.hid (show eqB L[k] M[k] = true → L[k] = M[k] from (eqB_iff _ _).1)
        have HXN := Lib.hid (show eqB L[k] M[k] = false → L[k] ≠ M[k] from fun h e => by rw [(eqB_iff _ _).2 e] at h; cases h)
        obtain ⟨z, hz⟩ : ∃ z, z = eqB L[k] M[k] := ⟨_, rfl⟩
        rw [← hz] at C HXY HXN
        rw [← hl1] at C p0
        rw [← hl2] at C q0
        clear hc hc2 hx hy p q bw h2' hl1 hl2 hz
        go_wp2_with fail
        go_still_tail 8, (by kernel_rfl)
        change wpList _ _ _ _ _ wr.drew
        clear p0 q0 BW
        generalize wr.drew = w3 at C BD ⊢
        go_wp2_with fail
        refine C.out.mono ?_
        rintro e w4 ⟨rfl, b4⟩
        have BX := Lib.hid (BD.out.trans (b4.mono BD.out.size))
        clear b4 C
        cases z with
        | true =>
          have HQ := Lib.hid (HXY.out rfl)
          go_wp2_with fail
          go_roundw
          case rel => exact ⟨k + 1, by omega, by go_num, BX.out, Lib.hid (fun j hj a b => by
            rcases Nat.lt_succ_iff_lt_or_eq.1 hj with q | q
            · exact HE.out j q a b
            · subst q; exact HQ.out)⟩
          case measure => simp [intOf]; omega
        | false =>
          obtain rfl := HK.out (HXN.out rfl)
          go_wp2_with fail
          go_ret
          exact ⟨rfl, BX.out⟩
      · obtain rfl : r = true := RY.out (fun j a b => hall.out j (by omega) a b)
        go_wp2_with fail
        go_ret
        exact ⟨rfl, BW.out⟩
  · obtain rfl : r = false := by rw [hr]; exact eqB_len hlen
    have d0 : ((L.length : Int) != M.length) = true := by rw [bne_iff_ne]; omega
    clear h1 h2 hr
    go_enter Tryd.func14, Tryd.ntmps14
    go_wp2_with fail
    go_ret
    exact ⟨rfl, Below.refl _ _⟩
end Go.Proofs.YtekfnonjhcfdmaaDoor
