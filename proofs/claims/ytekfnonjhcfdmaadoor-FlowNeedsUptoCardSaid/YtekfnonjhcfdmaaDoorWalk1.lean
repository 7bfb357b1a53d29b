/- stagehandref17.Same, sameArgs, sameLists. stagehandlaw17.large. place, x. Defs. in, holds. handler. -/
import Derived.Test.YtekfnonjhcfdmaaDoorBase1
import Derived.StillTailTactics
import Derived.Deep.Cut
import Derived.Deep.RegionWith
import Derived.Deep.DeepCutAuto
import Derived.Deep.RegionHeld
namespace Go.Proofs.YtekfnonjhcfdmaaDoor
open Go.RowKit Go.Rt Go.Rw

/-- A Boolean answer that leaves all memory. -/
def BoR (r : Bool) (w : World) (e : Ending) (w' : World) : Prop := e = .returned (.bool r) ∧ Below w.heap.size w w'
open Classical in
/-- Are two lists equal? -/
noncomputable def eqB {α : Type} (L M : List α) : Bool := decide (L = M)
open Classical in
theorem eqB_no {α : Type} {L M : List α} (k : Nat) (a : k < L.length) (b : k < M.length) (h : L[k] ≠ M[k]) : eqB L M = false := by unfold eqB; exact decide_eq_false (fun e => h (by subst e; rfl))
open Classical in
theorem eqB_yes {α : Type} {L M : List α} (hl : L.length = M.length) (h : ∀ k (a : k < L.length) (b : k < M.length), L[k] = M[k]) : eqB L M = true := by unfold eqB; exact decide_eq_true (List.ext_getElem hl h)
open Classical in
theorem eqB_len {α : Type} {L M : List α} (hl : L.length ≠ M.length) : eqB L M = false := by unfold eqB; exact decide_eq_false (fun e => hl (by rw [e]))
open Classical in
theorem eqB_iff {α : Type} (L M : List α) : eqB L M = true ↔ L = M := by unfold eqB; exact decide_eq_true_iff
theorem below_drewN {n : Nat} {w w' : World} (h : Below n w w') (k : Nat) : Below n w (w'.drewN k) := ⟨h.os, h.tape, h.output, h.size, h.block⟩
theorem i64_bne (a b : Int) (h : a ≠ b) : (a != b) = true := by rw [bne_iff_ne]; exact h
set_option maxRecDepth 100000 in
set_option maxHeartbeats 2000000 in
theorem same_any (L M : List Int) (v v2 : Value) (w : World) (h1 : SlAt w 1 inC v L) (h2 : SlAt w 1 inC v2 M) : Calls Tryd.prog 15 #[v, v2] w (BoR (eqB L M) w) := by
  obtain ⟨hm1, sa, cap, rfl⟩ := h1.len
  obtain ⟨hm2, sa2, cap2, rfl⟩ := h2.len
  obtain ⟨r, hr⟩ : ∃ r, r = eqB L M := ⟨_, rfl⟩
  rw [← hr]
  by_cases hlen : L.length = M.length
  · have RN : Hid (∀ k (a : k < L.length) (b : k < M.length), L[k] ≠ M[k] → r = false) := Lib.hid (fun k a b h => by rw [hr]; exact eqB_no k a b h)
    have RY : Hid ((∀ k (a : k < L.length) (b : k < M.length), L[k] = M[k]) → r = true) := Lib.hid (fun h => by rw [hr]; exact eqB_yes hlen h)
    have H1 := Lib.hid h1
    have H2 := Lib.hid h2
    have HL := Lib.hid hlen
    clear hr h1 h2
    rw [← hlen] at H2 ⊢ hm2
    clear hlen
    go_enter Tryd.func15, Tryd.ntmps15
    go_wp2_with fail
    go_loopw [5] (fun i wr => ∃ k : Nat, k ≤ L.length ∧ i = .int .i64 k ∧ Below w.heap.size w wr ∧ Hid (∀ j, j < k → ∀ (a : j < L.length) (b : j < M.length), L[j] = M[j])) (fun i _ => L.length - (intOf i).toNat)
    case atStart => exact ⟨0, Nat.zero_le _, rfl, Below.refl _ _, Lib.hid (fun j hj => by omega)⟩
    case round =>
      obtain ⟨k, hk, rfl, bw, hall⟩ := hrel
      have BW := Lib.hid bw
      by_cases hlt : k < L.length
      · have hlt2 : k < M.length := by have := HL.out; omega
        obtain ⟨b, o, rfl, hb, hc⟩ := H1.out.get (by omega)
        have h2' : SlAt w 1 inC (.slice sa2 M.length cap2) M := by rw [← HL.out]; exact H2.out
        obtain ⟨b2, o2, rfl, hb2, hc2⟩ := h2'.get (by omega)
        have HK := Lib.hid (RN.out k hlt hlt2)
        have HE := Lib.hid hall.out
        have p := hc k 0 hlt (by omega)
        have q := hc2 k 0 hlt2 (by omega)
        rw [Nat.mul_one, Nat.add_zero] at p q
        obtain ⟨x, hx⟩ : ∃ x, x = L[k] := ⟨_, rfl⟩
        obtain ⟨y, hy⟩ : ∃ y, y = M[k] := ⟨_, rfl⟩
        rw [← hx] at p
        rw [← hy] at q
        have p0 : wr.cell? ⟨b, o + k, none⟩ = some (.int .i64 x) := by rw [bw.cell (p := ⟨b, _, none⟩) hb, p]; rfl
        have q0 : wr.cell? ⟨b2, o2 + k, none⟩ = some (.int .i64 y) := by rw [bw.cell (p := ⟨b2, _, none⟩) hb2, q]; rfl
        rw [← hx, ← hy] at HK
        clear hc hc2 p q bw h2'
        by_cases hxy : x = y
        · subst hxy
          have HQ : Hid (L[k] = M[k]) := Lib.hid (hx.symm.trans hy)
          clear hx hy
          go_wp2_with fail
          go_quiet (fail)
          have BX := Lib.hid (below_drewN BW.out nq)
          go_wp2_with fail
          go_roundw
          case rel => exact ⟨k + 1, by omega, by go_num, BX.out, Lib.hid (fun j hj a b => by
            rcases Nat.lt_succ_iff_lt_or_eq.1 hj with q | q
            · exact HE.out j q a b
            · subst q; exact HQ.out)⟩
          case measure => simp [intOf]; omega
        · obtain rfl := HK.out hxy
          have dn := i64_bne x y hxy
          clear hx hy hxy
          go_wp2_with fail
          go_quiet (fail)
          go_wp2_with fail
          go_ret
          exact ⟨rfl, below_drewN BW.out _⟩
      · obtain rfl : r = true := RY.out (fun j a b => hall.out j (by omega) a b)
        go_wp2_with fail
        go_ret
        exact ⟨rfl, BW.out⟩
  · obtain rfl : r = false := by rw [hr]; exact eqB_len hlen
    have d0 : ((L.length : Int) != M.length) = true := by rw [bne_iff_ne]; omega
    clear h1 h2 hr
    go_enter Tryd.func15, Tryd.ntmps15
    go_wp2_with fail
    go_ret
    exact ⟨rfl, Below.refl _ _⟩
set_option maxRecDepth 100000 in
set_option maxHeartbeats 2000000 in
theorem samea_any (L M : List Ar) (v v2 : Value) (w : World) (h1 : SlAt w 2 arC v L) (h2 : SlAt w 2 arC v2 M) : Calls Tryd.prog 18 #[v, v2] w (BoR (eqB L M) w) := by
  obtain ⟨hm1, sa, cap, rfl⟩ := h1.len
  obtain ⟨hm2, sa2, cap2, rfl⟩ := h2.len
  obtain ⟨r, hr⟩ : ∃ r, r = eqB L M := ⟨_, rfl⟩
  rw [← hr]
  by_cases hlen : L.length = M.length
  · have RN : Hid (∀ k (a : k < L.length) (b : k < M.length), L[k] ≠ M[k] → r = false) := Lib.hid (fun k a b h => by rw [hr]; exact eqB_no k a b h)
    have RY : Hid ((∀ k (a : k < L.length) (b : k < M.length), L[k] = M[k]) → r = true) := Lib.hid (fun h => by rw [hr]; exact eqB_yes hlen h)
    have H1 := Lib.hid h1
    have H2 := Lib.hid h2
    have HL := Lib.hid hlen
    clear hr h1 h2
    rw [← hlen] at H2 ⊢ hm2
    clear hlen
    go_enter Tryd.func18, Tryd.ntmps18
    go_wp2_with fail
    go_loopw [5] (fun i wr => ∃ k : Nat, k ≤ L.length ∧ i = .int .i64 k ∧ Below w.heap.size w wr ∧ Hid (∀ j, j < k → ∀ (a : j < L.length) (b : j < M.length), L[j] = M[j])) (fun i _ => L.length - (intOf i).toNat)
    case atStart => exact ⟨0, Nat.zero_le _, rfl, Below.refl _ _, Lib.hid (fun j hj => by omega)⟩
    case round =>
      obtain ⟨k, hk, rfl, bw, hall⟩ := hrel
      have BW := Lib.hid bw
      by_cases hlt : k < L.length
      · have hlt2 : k < M.length := by have := HL.out; omega
        obtain ⟨b, o, rfl, hb, hc⟩ := H1.out.get (by omega)
        have h2' : SlAt w 2 arC (.slice sa2 M.length cap2) M := by rw [← HL.out]; exact H2.out
        obtain ⟨b2, o2, rfl, hb2, hc2⟩ := h2'.get (by omega)
        have HK := Lib.hid (RN.out k hlt hlt2)
        have HE := Lib.hid hall.out
        have p := hc k 0 hlt (by omega)
        have p' := hc k 1 hlt (by omega)
        have q := hc2 k 0 hlt2 (by omega)
        have q' := hc2 k 1 hlt2 (by omega)
        rw [Nat.add_zero] at p q
        obtain ⟨x, hx⟩ : ∃ x, x = L[k] := ⟨_, rfl⟩
        obtain ⟨y, hy⟩ : ∃ y, y = M[k] := ⟨_, rfl⟩
        rw [← hx] at p p'
        rw [← hy] at q q'
        have p0 : wr.cell? ⟨b, o + k * 2, none⟩ = some (.int .i64 x.k) := by rw [bw.cell (p := ⟨b, _, none⟩) hb, p]; rfl
        have p1 : wr.cell? ⟨b, o + k * 2 + 1, none⟩ = some (.int .i64 x.n) := by rw [bw.cell (p := ⟨b, _, none⟩) hb, p']; rfl
        have q0 : wr.cell? ⟨b2, o2 + k * 2, none⟩ = some (.int .i64 y.k) := by rw [bw.cell (p := ⟨b2, _, none⟩) hb2, q]; rfl
        have q1 : wr.cell? ⟨b2, o2 + k * 2 + 1, none⟩ = some (.int .i64 y.n) := by rw [bw.cell (p := ⟨b2, _, none⟩) hb2, q']; rfl
        rw [← hx, ← hy] at HK
        clear hc hc2 p q p' q' bw h2'
        by_cases hxy : x = y
        · have HQ : Hid (L[k] = M[k]) := Lib.hid (hx.symm.trans (hxy.trans hy))
          subst hxy
          clear hx hy
          go_wp2_with fail
          go_quiet (fail)
          have BX := Lib.hid (below_drewN BW.out nq)
          go_wp2_with fail
          go_roundw
          case rel => exact ⟨k + 1, by omega, by go_num, BX.out, Lib.hid (fun j hj a b => by
            rcases Nat.lt_succ_iff_lt_or_eq.1 hj with q | q
            · exact HE.out j q a b
            · subst q; exact HQ.out)⟩
          case measure => simp [intOf]; omega
        · obtain rfl := HK.out hxy
          obtain ⟨xk, xn⟩ := x
          obtain ⟨yk, yn⟩ := y
          dsimp only at p0 p1 q0 q1
          clear hx hy
          by_cases h0 : xk = yk
          · subst h0
            have dn : (xn == yn) = false := by rw [beq_eq_false_iff_ne]; intro e; subst e; exact hxy rfl
            clear hxy
            go_wp2_with fail
            go_quiet (fail)
            go_wp2_with fail
            go_ret
            exact ⟨rfl, below_drewN BW.out _⟩
          · have dn : (xk == yk) = false := by rw [beq_eq_false_iff_ne]; exact h0
            clear hxy h0
            go_wp2_with fail
            go_quiet (fail)
            go_wp2_with fail
            go_ret
            exact ⟨rfl, below_drewN BW.out _⟩
      · obtain rfl : r = true := RY.out (fun j a b => hall.out j (by omega) a b)
        go_wp2_with fail
        go_ret
        exact ⟨rfl, BW.out⟩
  · obtain rfl : r = false := by rw [hr]; exact eqB_len hlen
    have d0 : ((L.length : Int) != M.length) = true := by rw [bne_iff_ne]; omega
    clear h1 h2 hr
    go_enter Tryd.func18, Tryd.ntmps18
    go_wp2_with fail
    go_ret
    exact ⟨rfl, Below.refl _ _⟩
def vlC (v : Value) : List Value := [v]
/-- A list of lists of numbers. -/
def LsAt (w : World) (L : List (List Int)) (v : Value) : Prop := ∃ Vs : List Value, SlAt w 1 vlC v Vs ∧ Vs.length = L.length ∧ ∀ i (a : i < Vs.length) (b : i < L.length), SlAt w 1 inC Vs[i] L[i]
theorem LsAt.keep {w w' : World} {L : List (List Int)} {v : Value} (h : LsAt w L v) (b : Below w.heap.size w w') : LsAt w' L v := by
  obtain ⟨Vs, h1, h2, h3⟩ := h
  exact ⟨Vs, h1.keep b, h2, fun i p q => (h3 i p q).keep b⟩
theorem LsAt.form {w : World} {L : List (List Int)} {v : Value} (h : LsAt w L v) : L.length ≤ 9223372036854775807 ∧ ∃ sa cap, v = .slice sa L.length cap := by
  obtain ⟨Vs, h1, h2, _⟩ := h
  have := h1.len
  rw [h2] at this
  exact this
theorem LsAt.get {w : World} {L : List (List Int)} {sa : Option Addr} {n cap : Nat} (h : LsAt w L (.slice sa n cap)) (hne : 0 < L.length) : ∃ b o, sa = some ⟨b, o, none⟩ ∧ b < w.heap.size ∧
    ∀ i (hi : i < L.length), ∃ v, SlAt w 1 inC v L[i] ∧ w.cell? ⟨b, o + i, none⟩ = some v := by
  obtain ⟨Vs, h1, h2, h3⟩ := h
  obtain ⟨b, o, rfl, hb, hc⟩ := h1.get (by omega)
  refine ⟨b, o, rfl, hb, fun i hi => ⟨Vs[i], h3 i (by omega) hi, ?_⟩⟩
  have := hc i 0 (by omega) (by omega)
  rw [Nat.mul_one, Nat.add_zero] at this
  exact this
set_option maxRecDepth 100000 in
set_option maxHeartbeats 2000000 in
theorem samels_any (L M : List (List Int)) (v v2 : Value) (w : World) (h1 : LsAt w L v) (h2 : LsAt w M v2) : Calls Tryd.prog 14 #[v, v2] w (BoR (eqB L M) w) := by
  obtain ⟨hm1, sa, cap, rfl⟩ := h1.form
  obtain ⟨hm2, sa2, cap2, rfl⟩ := h2.form
  obtain ⟨r, hr⟩ : ∃ r, r = eqB L M := ⟨_, rfl⟩
  rw [← hr]
  by_cases hlen : L.length = M.length
  · have RN : Hid (∀ k (a : k < L.length) (b : k < M.length), L[k] ≠ M[k] → r = false) := Lib.hid (fun k a b h => by rw [hr]; exact eqB_no k a b h)
    have RY : Hid ((∀ k (a : k < L.length) (b : k < M.length), L[k] = M[k]) → r = true) := Lib.hid (fun h => by rw [hr]; exact eqB_yes hlen h)
    have H1 := Lib.hid h1
    have H2 := Lib.hid h2
    have HL := Lib.hid hlen
    clear hr h1 h2
    rw [← hlen] at H2 ⊢ hm2
    clear hlen
    go_enter Tryd.func14, Tryd.ntmps14
    go_wp2_with fail
    go_loopw [5] (fun i wr => ∃ k : Nat, k ≤ L.length ∧ i = .int .i64 k ∧ Below w.heap.size w wr ∧ Hid (∀ j, j < k → ∀ (a : j < L.length) (b : j < M.length), L[j] = M[j])) (fun i _ => L.length - (intOf i).toNat)
    case atStart => exact ⟨0, Nat.zero_le _, rfl, Below.refl _ _, Lib.hid (fun j hj => by omega)⟩
    case round =>
      obtain ⟨k, hk, rfl, bw, hall⟩ := hrel
      have BW := Lib.hid bw
      by_cases hlt : k < L.length
      · have hlt2 : k < M.length := by have := HL.out; omega
        obtain ⟨b, o, rfl, hb, hc⟩ := H1.out.get (by omega)
        have h2' : LsAt w M (.slice sa2 M.length cap2) := by rw [← HL.out]; exact H2.out
        obtain ⟨b2, o2, rfl, hb2, hc2⟩ := h2'.get (by omega)
        have HK := Lib.hid (RN.out k hlt hlt2)
        have HE := Lib.hid hall.out
        obtain ⟨x, hx, p⟩ := hc k hlt
        obtain ⟨y, hy, q⟩ := hc2 k hlt2
        obtain ⟨_, sx, cx, rfl⟩ := hx.len
        obtain ⟨_, sy, cy, rfl⟩ := hy.len
        have BD := Lib.hid bw.drew
        have C := Lib.hid (same_any L[k] M[k] _ _ wr.drew ((hx.keep bw).keep (Below.refl _ _).drew) ((hy.keep bw).keep (Below.refl _ _).drew))
        have p0 : wr.cell? ⟨b, o + k, none⟩ = some (.slice sx L[k].length cx) := by rw [bw.cell (p := ⟨b, _, none⟩) hb, p]
        have q0 : wr.cell? ⟨b2, o2 + k, none⟩ = some (.slice sy M[k].length cy) := by rw [bw.cell (p := ⟨b2, _, none⟩) hb2, q]
        obtain ⟨l1, hl1⟩ : ∃ l, l = L[k].length := ⟨_, rfl⟩
        obtain ⟨l2, hl2⟩ : ∃ l, l = M[k].length := ⟨_, rfl⟩
        have HXY := Lib.hid (show eqB L[k] M[k] = true → L[k] = M[k] from (eqB_iff _ _).1)
        have HXN := Lib.hid (show eqB L[k] M[k] = false → L[k] ≠ M[k] from fun h e => by rw [(eqB_iff _ _).2 e] at h; cases h)
        obtain ⟨z, hz⟩ : ∃ z, z = eqB L[k] M[k] := ⟨_, rfl⟩
        rw [← hz] at C HXY HXN
        rw [← hl1] at C p0
        rw [← hl2] at C q0
        clear hc hc2 hx hy p q bw h2' hl1 hl2 hz
        go_wp2_with fail
        go_still_tail 8, (by kernel_rfl)
        change wpList _ _ _ _ _ wr.drew
        clear p0 q0 BW
        generalize wr.drew = w3 at C BD ⊢
        go_wp2_with fail
        refine C.out.mono ?_
        rintro e w4 ⟨rfl, b4⟩
        have BX := Lib.hid (BD.out.trans (b4.mono BD.out.size))
        clear b4 C
        cases z with
        | true =>
          have HQ := Lib.hid (HXY.out rfl)
          go_wp2_with fail
          go_roundw
          case rel => exact ⟨k + 1, by omega, by go_num, BX.out, Lib.hid (fun j hj a b => by
            rcases Nat.lt_succ_iff_lt_or_eq.1 hj with q | q
            · exact HE.out j q a b
            · subst q; exact HQ.out)⟩
          case measure => simp [intOf]; omega
        | false =>
          obtain rfl := HK.out (HXN.out rfl)
          go_wp2_with fail
          go_ret
          exact ⟨rfl, BX.out⟩
      · obtain rfl : r = true := RY.out (fun j a b => hall.out j (by omega) a b)
        go_wp2_with fail
        go_ret
        exact ⟨rfl, BW.out⟩
  · obtain rfl : r = false := by rw [hr]; exact eqB_len hlen
    have d0 : ((L.length : Int) != M.length) = true := by rw [bne_iff_ne]; omega
    clear h1 h2 hr
    go_enter Tryd.func14, Tryd.ntmps14
    go_wp2_with fail
    go_ret
    exact ⟨rfl, Below.refl _ _⟩
end Go.Proofs.YtekfnonjhcfdmaaDoor
namespace Go.Proofs.YtekfnonjhcfdmaaDoor
open Go.RowKit Go.Rt Go.Rw

/-- What an instruction counts, and a list. -/
def sumI (x : In) : Nat := 1 + x.src.length + x.cases.length + x.segs.length
def sumL : List In → Nat
  | [] => 0
  | x :: r => sumI x + sumL r
theorem sumL_take (l : List In) (k : Nat) (hk : k < l.length) : sumL (l.take (k + 1)) = sumL (l.take k) + sumI l[k] := by
  induction l generalizing k with
  | nil => simp at hk
  | cons t r ih =>
    cases k with
    | zero => simp [sumL]
    | succ k => simp [sumL, ih k (by simpa using hk)]; omega
theorem sumL_le (l : List In) (k : Nat) : sumL (l.take k) ≤ sumL l := by
  induction l generalizing k with
  | nil => simp [sumL]
  | cons t r ih =>
    cases k with
    | zero => simp [sumL]
    | succ k => have := ih k; simp [sumL]; omega
/-- What large answers: where the sum can be counted, whether it passes 400. -/
def LaR (s : Nat) (w : World) (e : Ending) (w' : World) : Prop := Below w.heap.size w w' ∧ ∃ b, e = .returned (.bool b) ∧ (s ≤ 9223372036854775807 → b = decide (400 < s))
theorem wrap_id (n : Int) (h : -9223372036854775808 ≤ n ∧ n ≤ 9223372036854775807) : IntKind.i64.wrap n = n := by rw [IntKind.wrap_i64]; omega
theorem wrap64_id (n : Int) (h : -9223372036854775808 ≤ n ∧ n ≤ 9223372036854775807) : wrap64 n = n := by unfold wrap64; omega
set_option maxRecDepth 100000 in
set_option maxHeartbeats 2000000 in
theorem large_any (l : List In) (v v2 : Value) (n : Nat) (sa2 : Option Addr) (cap2 : Nat) (w : World) (h : InsAt w l v) (hv2 : v2 = .slice sa2 n cap2) (hn : n ≤ 9223372036854775807) : Calls Tryd.prog 10 #[v, v2] w (LaR (n + sumL l) w) := by
  obtain ⟨hm, sa, cap, rfl⟩ := h.form
  subst hv2
  have H := Lib.hid h
  clear h
  go_enter Tryd.func10, Tryd.ntmps10
  go_wp2_with fail
  go_loopw [5, 6] (fun a i wr => ∃ (k : Nat) (m : Int), k ≤ l.length ∧ i = .int .i64 k ∧ a = .int .i64 m ∧ Below w.heap.size w wr ∧ Hid (n + sumL l ≤ 9223372036854775807 → m = ((n + sumL (l.take k) : Nat) : Int))) (fun _ i _ => l.length - (intOf i).toNat)
  case atStart => exact ⟨0, n, Nat.zero_le _, rfl, rfl, Below.refl _ _, Lib.hid (fun _ => by simp [sumL])⟩
  case round =>
    obtain ⟨k, m, hk, rfl, rfl, bw, hm2⟩ := hrel
    have BW := Lib.hid bw
    by_cases hlt : k < l.length
    · obtain ⟨b, o, rfl, hb, hc⟩ := H.out.get (by omega)
      obtain ⟨f, hf, ha, hc⟩ := hc k hlt
      obtain ⟨_, p1, p2, p3, p4, p5, p6, p7, p8, p9⟩ := cells10 (W := wr) (b := b) (p := o + k * 10) (f := f) (fun j hj => by rw [← hc j hj]; exact bw.cell (p := ⟨b, _, none⟩) hb)
      obtain ⟨h1, s1, c1, e1⟩ := ha.src.len
      obtain ⟨h2, s2, c2, e2⟩ := ha.cases.len
      obtain ⟨h3, s3, c3, e3⟩ := ha.segs.len
      rw [e1] at p3
      rw [e2] at p8
      rw [e3] at p9
      obtain ⟨n1, hn1⟩ : ∃ n, n = f.x.src.length := ⟨_, rfl⟩
      obtain ⟨n2, hn2⟩ : ∃ n, n = f.x.cases.length := ⟨_, rfl⟩
      obtain ⟨n3, hn3⟩ : ∃ n, n = f.x.segs.length := ⟨_, rfl⟩
      have HS : Hid (n + sumL l ≤ 9223372036854775807 → wrap64 (wrap64 (wrap64 (wrap64 (m + 1) + n1) + n2) + n3) = ((n + sumL (l.take (k + 1)) : Nat) : Int)) := Lib.hid (fun hs => by
        have e := hm2.out hs
        have q := sumL_take l k hlt
        have q2 := sumL_le l (k + 1)
        have q3 : sumI l[k] = 1 + n1 + n2 + n3 := by rw [← hf, hn1, hn2, hn3]; rfl
        rw [wrap64_id (m + 1) (by omega), wrap64_id (m + 1 + n1) (by omega), wrap64_id (m + 1 + n1 + n2) (by omega), wrap64_id (m + 1 + n1 + n2 + n3) (by omega)]
        omega)
      rw [← hn1] at p3
      rw [← hn2] at p8
      rw [← hn3] at p9
      clear hc bw hn1 hn2 hn3 hf ha h1 h2 h3 e1 e2 e3 p1 p2 p4 p5 p6 p7 hm2
      go_wp2_with fail
      go_quiet (fail)
      have BX := Lib.hid (below_drewN BW.out nq)
      go_wp2_with fail
      go_roundw
      case rel => exact ⟨k + 1, _, by omega, by go_num, rfl, BX.out, HS⟩
      case measure => simp [intOf]; omega
    · obtain rfl : k = l.length := by omega
      have HF : Hid (n + sumL l ≤ 9223372036854775807 → decide ((400 : Int) < m) = decide (400 < n + sumL l)) := Lib.hid (fun hs => by
        have e := hm2.out hs
        rw [List.take_length] at e
        rw [e, decide_eq_decide]
        omega)
      clear hm2 bw
      go_wp2_with fail
      go_ret
      exact ⟨BW.out, _, rfl, HF.out⟩
end Go.Proofs.YtekfnonjhcfdmaaDoor
namespace Go.Proofs.YtekfnonjhcfdmaaDoor
open Go.RowKit Go.Rt Go.Rw

def arV (a : Ar) : Value := .agg #[.int .i64 a.k, .int .i64 a.n]
set_option maxRecDepth 100000 in
set_option maxHeartbeats 2000000 in
theorem place42 (a : Ar) (w : World) : Calls Tryd.prog 42 #[arV a] w (BoR (placeF a) w) := by
  obtain ⟨k, n⟩ := a
  obtain ⟨r, hr⟩ : ∃ r, r = placeF ⟨k, n⟩ := ⟨_, rfl⟩
  rw [← hr]
  unfold placeF at hr
  dsimp only at hr
  unfold arV
  have X := Lib.hid (Blk.new w 38 #[.int .i64 k, .int .i64 n])
  have B := Lib.hid ((Below.refl w.heap.size w).alloc (Nat.le_refl _) (.cells #[.int .i64 k, .int .i64 n] 38))
  by_cases hk : k = 1 ∨ k = 2 ∨ k = 4
  · rw [show (decide (k = 1) || (decide (k = 2) || decide (k = 4))) = true by rcases hk with h | h | h <;> subst h <;> rfl, Bool.true_and] at hr
    obtain ⟨p, hp⟩ : ∃ p, p = decide (0 ≤ n) := ⟨_, rfl⟩
    obtain ⟨q, hq⟩ : ∃ q, q = decide (n < 524288) := ⟨_, rfl⟩
    rw [← hp, ← hq] at hr
    have HR := Lib.hid hr
    have d1 := hp.symm
    have d2 := hq.symm
    clear hr hp hq
    rcases hk with h | h | h
    all_goals
      subst h
      cases p
      all_goals
        cases q
        all_goals
          obtain rfl := HR.out
          clear HR
          go_enter Tryd.func42, Tryd.ntmps42
          go_upto_region 1 with fail
          generalize w.alloc (.cells _ 38) = v0 at X B ⊢
          have c0 := X.out.cell 0
          have c1 := X.out.cell 1
          simp at c0 c1
          go_wp2_with fail
          go_ret
          exact ⟨rfl, B.out⟩
  · have e1 : (k == 1) = false := by rw [beq_eq_false_iff_ne]; omega
    have e2 : (k == 2) = false := by rw [beq_eq_false_iff_ne]; omega
    have e4 : (k == 4) = false := by rw [beq_eq_false_iff_ne]; omega
    obtain rfl : r = false := by
      rw [hr, decide_eq_false (show ¬ k = 1 by omega), decide_eq_false (show ¬ k = 2 by omega), decide_eq_false (show ¬ k = 4 by omega)]
      rfl
    clear hr hk
    go_enter Tryd.func42, Tryd.ntmps42
    go_upto_region 1 with fail
    generalize w.alloc (.cells _ 38) = v0 at X B ⊢
    have c0 := X.out.cell 0
    have c1 := X.out.cell 1
    simp at c0 c1
    go_wp2_with fail
    go_ret
    exact ⟨rfl, B.out⟩
set_option maxRecDepth 100000 in
set_option maxHeartbeats 2000000 in
theorem place44 (a : Ar) (w : World) : Calls Tryd.prog 44 #[arV a] w (BoR (placeF a) w) := by
  obtain ⟨k, n⟩ := a
  obtain ⟨r, hr⟩ : ∃ r, r = placeF ⟨k, n⟩ := ⟨_, rfl⟩
  rw [← hr]
  unfold placeF at hr
  dsimp only at hr
  unfold arV
  have X := Lib.hid (Blk.new w 38 #[.int .i64 k, .int .i64 n])
  have B := Lib.hid ((Below.refl w.heap.size w).alloc (Nat.le_refl _) (.cells #[.int .i64 k, .int .i64 n] 38))
  by_cases hk : k = 1 ∨ k = 2 ∨ k = 4
  · rw [show (decide (k = 1) || (decide (k = 2) || decide (k = 4))) = true by rcases hk with h | h | h <;> subst h <;> rfl, Bool.true_and] at hr
    obtain ⟨p, hp⟩ : ∃ p, p = decide (0 ≤ n) := ⟨_, rfl⟩
    obtain ⟨q, hq⟩ : ∃ q, q = decide (n < 524288) := ⟨_, rfl⟩
    rw [← hp, ← hq] at hr
    have HR := Lib.hid hr
    have d1 := hp.symm
    have d2 := hq.symm
    clear hr hp hq
    rcases hk with h | h | h
    all_goals
      subst h
      cases p
      all_goals
        cases q
        all_goals
          obtain rfl := HR.out
          clear HR
          go_enter Tryd.func44, Tryd.ntmps44
          go_upto_region 1 with fail
          generalize w.alloc (.cells _ 38) = v0 at X B ⊢
          have c0 := X.out.cell 0
          have c1 := X.out.cell 1
          simp at c0 c1
          go_wp2_with fail
          go_ret
          exact ⟨rfl, B.out⟩
  · have e1 : (k == 1) = false := by rw [beq_eq_false_iff_ne]; omega
    have e2 : (k == 2) = false := by rw [beq_eq_false_iff_ne]; omega
    have e4 : (k == 4) = false := by rw [beq_eq_false_iff_ne]; omega
    obtain rfl : r = false := by
      rw [hr, decide_eq_false (show ¬ k = 1 by omega), decide_eq_false (show ¬ k = 2 by omega), decide_eq_false (show ¬ k = 4 by omega)]
      rfl
    clear hr hk
    go_enter Tryd.func44, Tryd.ntmps44
    go_upto_region 1 with fail
    generalize w.alloc (.cells _ 38) = v0 at X B ⊢
    have c0 := X.out.cell 0
    have c1 := X.out.cell 1
    simp at c0 c1
    go_wp2_with fail
    go_ret
    exact ⟨rfl, B.out⟩
set_option maxRecDepth 100000 in
set_option maxHeartbeats 2000000 in
theorem x43 (n : Int) (w : World) : Calls Tryd.prog 43 #[.int .i64 n] w fun e w' => e = .returned (arV ⟨1, n⟩) ∧ Below w.heap.size w w' := by
  have X := Lib.hid (Blk.new w 38 #[.int .i64 0, .int .i64 0])
  have B := Lib.hid ((Below.refl w.heap.size w).alloc (Nat.le_refl _) (.cells #[.int .i64 0, .int .i64 0] 38))
  go_enter Tryd.func43, Tryd.ntmps43
  go_upto_region 1 with fail
  generalize w.alloc (.cells #[.int .i64 0, .int .i64 0] 38) = v0 at X B ⊢
  go_wp2_with (refine wpList_store_blk rfl 38 _ _ rfl rfl w.heap.size #[.int .i64 1, .int .i64 n] _ 38 rfl rfl X.out rfl (by kernel_rfl) (by simp [Value.oneCell']) ?_; intro v1 b1 o1)
  exact bodyPost_ret (results_blk rfl _ _ w.heap.size _ _ rfl b1 Tryd.underlying38 rfl (by kernel_rfl)) rfl ⟨rfl, B.out.trans (o1.below (by simp) B.out.size)⟩
set_option maxRecDepth 100000 in
set_option maxHeartbeats 2000000 in
theorem x45 (n : Int) (w : World) : Calls Tryd.prog 45 #[.int .i64 n] w fun e w' => e = .returned (arV ⟨1, n⟩) ∧ Below w.heap.size w w' := by
  have X := Lib.hid (Blk.new w 38 #[.int .i64 0, .int .i64 0])
  have B := Lib.hid ((Below.refl w.heap.size w).alloc (Nat.le_refl _) (.cells #[.int .i64 0, .int .i64 0] 38))
  go_enter Tryd.func45, Tryd.ntmps45
  go_upto_region 1 with fail
  generalize w.alloc (.cells #[.int .i64 0, .int .i64 0] 38) = v0 at X B ⊢
  go_wp2_with (refine wpList_store_blk rfl 38 _ _ rfl rfl w.heap.size #[.int .i64 1, .int .i64 n] _ 38 rfl rfl X.out rfl (by kernel_rfl) (by simp [Value.oneCell']) ?_; intro v1 b1 o1)
  exact bodyPost_ret (results_blk rfl _ _ w.heap.size _ _ rfl b1 Tryd.underlying38 rfl (by kernel_rfl)) rfl ⟨rfl, B.out.trans (o1.below (by simp) B.out.size)⟩
set_option maxRecDepth 100000 in
set_option maxHeartbeats 2000000 in
theorem x25 (n : Int) (w : World) : Calls Tryd.prog 25 #[.int .i64 n] w fun e w' => e = .returned (arV ⟨1, n⟩) ∧ Below w.heap.size w w' := by
  have X := Lib.hid (Blk.new w 38 #[.int .i64 0, .int .i64 0])
  have B := Lib.hid ((Below.refl w.heap.size w).alloc (Nat.le_refl _) (.cells #[.int .i64 0, .int .i64 0] 38))
  go_enter Tryd.func25, Tryd.ntmps25
  go_upto_region 1 with fail
  generalize w.alloc (.cells #[.int .i64 0, .int .i64 0] 38) = v0 at X B ⊢
  go_wp2_with (refine wpList_store_blk rfl 38 _ _ rfl rfl w.heap.size #[.int .i64 1, .int .i64 n] _ 38 rfl rfl X.out rfl (by kernel_rfl) (by simp [Value.oneCell']) ?_; intro v1 b1 o1)
  exact bodyPost_ret (results_blk rfl _ _ w.heap.size _ _ rfl b1 Tryd.underlying38 rfl (by kernel_rfl)) rfl ⟨rfl, B.out.trans (o1.below (by simp) B.out.size)⟩
set_option maxRecDepth 100000 in
set_option maxHeartbeats 2000000 in
theorem v24 (n : Int) (w : World) : Calls Tryd.prog 24 #[.int .i64 n] w fun e w' => e = .returned (arV ⟨4, n⟩) ∧ Below w.heap.size w w' := by
  have X := Lib.hid (Blk.new w 38 #[.int .i64 0, .int .i64 0])
  have B := Lib.hid ((Below.refl w.heap.size w).alloc (Nat.le_refl _) (.cells #[.int .i64 0, .int .i64 0] 38))
  go_enter Tryd.func24, Tryd.ntmps24
  go_upto_region 1 with fail
  generalize w.alloc (.cells #[.int .i64 0, .int .i64 0] 38) = v0 at X B ⊢
  go_wp2_with (refine wpList_store_blk rfl 38 _ _ rfl rfl w.heap.size #[.int .i64 4, .int .i64 n] _ 38 rfl rfl X.out rfl (by kernel_rfl) (by simp [Value.oneCell']) ?_; intro v1 b1 o1)
  exact bodyPost_ret (results_blk rfl _ _ w.heap.size _ _ rfl b1 Tryd.underlying38 rfl (by kernel_rfl)) rfl ⟨rfl, B.out.trans (o1.below (by simp) B.out.size)⟩
end Go.Proofs.YtekfnonjhcfdmaaDoor
namespace Go.Proofs.YtekfnonjhcfdmaaDoor
open Go.RowKit Go.Rt Go.Rw

/-- A list of operands that is returned. -/
def ArsR (L : List Ar) (w : World) (e : Ending) (w' : World) : Prop := Below w.heap.size w w' ∧ ∃ v, e = .returned v ∧ Sl w' w.heap.size 38 2 arC v L
theorem sl_push_ar {W : World} {B : Nat} {v : Value} {L : List Ar} (h : Sl W B 38 2 arC v L) (a : Ar) (b : Nat) (hb : Blk W b 38 (arC a).toArray) (hl : L.length + 1 ≤ 1000000000) (hbase : B ≤ W.heap.size) :
    ∃ (g cap : Nat) (W2 : World), (Builtin.append_ #[35, 35] 35 #[v, .slice (some ⟨b, 0, none⟩) 1 1]).run Tryd.prog W = .ok (.slice (some ⟨g, 0, none⟩) (L.length + 1) cap) W2 ∧ Sl W2 B 38 2 arC (.slice (some ⟨g, 0, none⟩) (L.length + 1) cap) (L ++ [a]) ∧ W.grownBy W2 v.ownBlock ∧ (v.ownBlock = some g ∨ W.heap.size ≤ g) :=
  h.push (t := 35) (ty := 35) (bytes := 16) (z := .agg #[.int .i64 0, .int .i64 0]) Tryd.underlying35 (by kernel_rfl) (by rfl) (by decide) (fun _ => rfl) (fun a u hu => by simp [arC] at hu; rcases hu with rfl | rfl <;> rfl) a hb (by omega) (by omega) hbase 1
set_option maxRecDepth 100000 in
set_option maxHeartbeats 2000000 in
theorem defs21 (f : Im) (w : World) (hf : ImAt w f) : Calls Tryd.prog 21 #[imV f] w (ArsR (defsF f.x) w) := by
  obtain ⟨_, s1, c1, e1⟩ := hf.src.len
  obtain ⟨_, s2, c2, e2⟩ := hf.cases.len
  obtain ⟨_, s3, c3, e3⟩ := hf.segs.len
  obtain ⟨⟨op, ⟨dk, dn⟩, src, goal, n, live, name, cas, segs⟩, sv, cv, gv⟩ := f
  dsimp only at e1 e2 e3
  obtain ⟨n1, hn1⟩ : ∃ n, n = src.length := ⟨_, rfl⟩
  obtain ⟨n2, hn2⟩ : ∃ n, n = cas.length := ⟨_, rfl⟩
  obtain ⟨n3, hn3⟩ : ∃ n, n = segs.length := ⟨_, rfl⟩
  rw [← hn1] at e1
  rw [← hn2] at e2
  rw [← hn3] at e3
  subst e1 e2 e3
  clear hn1 hn2 hn3 hf
  unfold imV
  dsimp only
  obtain ⟨R, hR⟩ : ∃ R, R = defsF ⟨op, ⟨dk, dn⟩, src, goal, n, live, name, cas, segs⟩ := ⟨_, rfl⟩
  rw [← hR]
  unfold defsF at hR
  dsimp only at hR
  have CP := Lib.hid (fun (W : World) => place42 ⟨dk, dn⟩ W)
  have CX := Lib.hid (fun (W : World) => x43 0 W)
  obtain ⟨p, hp⟩ : ∃ p, p = placeF ⟨dk, dn⟩ := ⟨_, rfl⟩
  rw [← hp] at CP hR
  have HR := Lib.hid hR
  unfold arV at CP CX
  dsimp only at CP CX
  clear hp hR
  have X := Lib.hid (Blk.new w 42 #[.int .i64 op, .int .i64 dk, .int .i64 dn, .slice s1 n1 c1, .int .i64 goal, .int .i64 n, .int .i64 live, .string name, .slice s2 n2 c2, .slice s3 n3 c3])
  have B := Lib.hid ((Below.refl w.heap.size w).alloc (Nat.le_refl _) (.cells #[.int .i64 op, .int .i64 dk, .int .i64 dn, .slice s1 n1 c1, .int .i64 goal, .int .i64 n, .int .i64 live, .string name, .slice s2 n2 c2, .slice s3 n3 c3] 42))
  go_enter Tryd.func21, Tryd.ntmps21
  go_upto_region 2 with fail
  generalize w.alloc (.cells #[.int .i64 op, .int .i64 dk, .int .i64 dn, .slice s1 n1 c1, .int .i64 goal, .int .i64 n, .int .i64 live, .string name, .slice s2 n2 c2, .slice s3 n3 c3] 42) = v0 at X B ⊢
  have HL : Hid (w.heap.size + 1 ≤ v0.heap.size) := Lib.hid X.out.lt
  have q1 : v0.cell? ⟨w.heap.size, 1, none⟩ = some (.int .i64 dk) := X.out.cell 1
  have q2 : v0.cell? ⟨w.heap.size, 2, none⟩ = some (.int .i64 dn) := X.out.cell 2
  go_wp2_with fail
  refine (CP.out _).mono ?_
  rintro e v1 ⟨rfl, b1⟩
  have X1 := Lib.hid (X.out.below b1 X.out.lt)
  have B1 := Lib.hid (B.out.trans (b1.mono B.out.size))
  have q1 : v1.cell? ⟨w.heap.size, 1, none⟩ = some (.int .i64 dk) := X1.out.cell 1
  have q2 : v1.cell? ⟨w.heap.size, 2, none⟩ = some (.int .i64 dn) := X1.out.cell 2
  clear q1 q2
  go_upto_if 6 with fail
  go_cut [3] (fun z3 wx => ∃ (L : List Ar) (so : Option Addr) (co : Nat), z3 = .slice so L.length co ∧ Hid (L = if p then [⟨dk, dn⟩] else []) ∧ Hid (Sl wx (w.heap.size + 1) 38 2 arC (.slice so L.length co) L) ∧ Hid (Blk wx w.heap.size 42 #[.int .i64 op, .int .i64 dk, .int .i64 dn, .slice s1 n1 c1, .int .i64 goal, .int .i64 n, .int .i64 live, .string name, .slice s2 n2 c2, .slice s3 n3 c3]) ∧ Hid (Below w.heap.size w wx))
  case first =>
    have q1 : v1.cell? ⟨w.heap.size, 1, none⟩ = some (.int .i64 dk) := X1.out.cell 1
    have q2 : v1.cell? ⟨w.heap.size, 2, none⟩ = some (.int .i64 dn) := X1.out.cell 2
    cases p with
    | false =>
      go_wp2_with fail
      go_meet
      exact ⟨[], none, 0, rfl, Lib.hid rfl, Lib.hid (Sl.nil _ _ _ _ _), X1, B1⟩
    | true =>
      have hsz : w.heap.size + 1 ≤ v1.heap.size := by have := HL.out; have := b1.size; omega
      obtain ⟨g, cap, W2, hrun, sl2, hgrow, _⟩ := sl_push_ar (Sl.nil (v1.alloc (.cells #[.int .i64 dk, .int .i64 dn] 38)) (w.heap.size + 1) 38 2 arC) ⟨dk, dn⟩ v1.heap.size (Blk.new v1 38 _) (by simp) (by simp; omega)
      have X2 := Lib.hid (show Blk W2 w.heap.size 42 #[.int .i64 op, .int .i64 dk, .int .i64 dn, .slice s1 n1 c1, .int .i64 goal, .int .i64 n, .int .i64 live, .string name, .slice s2 n2 c2, .slice s3 n3 c3] from (hgrow.block w.heap.size (by simp; omega) (by simp [Value.ownBlock])).trans (X1.out.alloc _))
      have B2 : Hid (Below w.heap.size w W2) := Lib.hid (B1.out.trans ⟨hgrow.os, hgrow.tape, hgrow.output, by have := hgrow.size; simp at this; omega, fun j hj => (hgrow.block j (by simp; omega) (by simp [Value.ownBlock])).trans (Below.heap_alloc _ _ _ (by omega))⟩)
      have HRN := Lib.hid hrun
      have SL2 := Lib.hid sl2
      clear hrun sl2 hgrow b1
      go_wp2_with (at_builtin; refine wpList_append_run rfl _ _ 35 35 rfl rfl rfl HRN.out ?_)
      go_wp2_with fail
      go_meet
      exact ⟨[⟨dk, dn⟩], _, _, rfl, Lib.hid rfl, SL2, X2, B2⟩
  case rest =>
    obtain ⟨L, so, co, rfl, HLL, HSL, HX, HBX⟩ := hcut
    have q0 : wc.cell? ⟨w.heap.size, 0, none⟩ = some (.int .i64 op) := HX.out.cell 0
    clear X1 B1 X B b1
    go_upto_if 14 with fail
    clear q0
    go_cut [14] (fun z14 wy => z14 = .bool (giveOp op) ∧ wc = wy)
    case first =>
      by_cases h15 : op = 15
      · subst h15
        go_wp2_with fail
        go_meet
        exact ⟨rfl, rfl⟩
      · have e15 : (op == 15) = false := by rw [beq_eq_false_iff_ne]; exact h15
        by_cases h16 : op = 16
        · subst h16
          go_wp2_with fail
          go_meet
          exact ⟨rfl, rfl⟩
        · have e16 : (op == 16) = false := by rw [beq_eq_false_iff_ne]; exact h16
          by_cases h18 : op = 18
          · subst h18
            go_wp2_with fail
            go_meet
            exact ⟨rfl, rfl⟩
          · have e18 : (op == 18) = false := by rw [beq_eq_false_iff_ne]; exact h18
            by_cases h20 : op = 20
            · subst h20
              go_wp2_with fail
              go_meet
              exact ⟨rfl, rfl⟩
            · have e20 : (op == 20) = false := by rw [beq_eq_false_iff_ne]; exact h20
              by_cases h22 : op = 22
              · subst h22
                go_wp2_with fail
                go_meet
                exact ⟨rfl, rfl⟩
              · have e22 : (op == 22) = false := by rw [beq_eq_false_iff_ne]; exact h22
                by_cases h37 : op = 37
                · subst h37
                  go_wp2_with fail
                  go_meet
                  exact ⟨rfl, rfl⟩
                · have e37 : (op == 37) = false := by rw [beq_eq_false_iff_ne]; exact h37
                  have hg : giveOp op = false := by unfold giveOp; simp [h15, h16, h18, h20, h22, h37]
                  clear h15 h16 h18 h20 h22 h37
                  go_wp2_with fail
                  go_meet
                  exact ⟨by rw [hg], rfl⟩
    case rest =>
      obtain ⟨rfl, rfl⟩ := hcut
      obtain ⟨g, hg⟩ : ∃ g, g = giveOp op := ⟨_, rfl⟩
      rw [← hg] at HR ⊢
      clear hg q1 q2 CP
      cases g with
      | false =>
        obtain rfl : R = L := by rw [HR.out, HLL.out]; simp
        clear HR HLL
        go_wp2_with fail
        go_ret
        exact ⟨HBX.out, _, rfl, HSL.out.mono (by omega)⟩
      | true =>
        go_upto_region 11 with fail
        refine wp_region_held_drew (S := (fun w' => w'.cell? ⟨w.heap.size, 1, none⟩ = some (.int .i64 dk) ∧ w'.cell? ⟨w.heap.size, 2, none⟩ = some (.int .i64 dn))) (by kernel_rfl) (⟨HX.out.drew.cell 1, HX.out.drew.cell 2⟩) (fun hS => ?_)
        have BD := Lib.hid HBX.out.drew
        have SD := Lib.hid (HSL.out.same (w' := wc.drew) (Nat.le_refl _) (fun _ _ => rfl))
        have XD := Lib.hid HX.out.drew
        clear HBX HSL HX
        generalize wc.drew = w3 at *
        refine wpAnyH_take (i := 0) (v := ?_) rfl (by kernel_rfl) (by kernel_rfl) (by kernel_rfl) (fun _ _ _ h => h) (Or.inl ⟨by rfl, ?_⟩) (by assumption) ?_
        rotate_left
        · intro w hSw
          go_simp
          with_reducible rfl
        change wpAnyH _ _ _ _ _ _ _ (Act.put _ (some 21) _) _
        simp only [Act.put, List.setIfInBounds_toArray, List.set_cons_zero, List.set_cons_succ]
        refine wpAnyH_take (i := 1) (v := ?_) rfl (by kernel_rfl) (by kernel_rfl) (by kernel_rfl) (fun _ _ _ h => h) (Or.inl ⟨by rfl, ?_⟩) (by assumption) ?_
        rotate_left
        · intro w hSw
          go_simp
          with_reducible rfl
        change wpAnyH _ _ _ _ _ _ _ (Act.put _ (some 22) _) _
        simp only [Act.put, List.setIfInBounds_toArray, List.set_cons_zero, List.set_cons_succ]
        refine wpAnyH_ready (rs := [2]) (by kernel_rfl) (by simp) ?_
        refine AllReadyH.cons rfl (fun K hK => ?_) AllReadyH.nil
        go_simp
        refine (CX.out w3).mono ?_
        rintro e w4 ⟨rfl, b4⟩
        have X4 := Lib.hid (XD.out.below b4 XD.out.lt)
        have B4 := Lib.hid (BD.out.trans (b4.mono BD.out.size))
        have S4 := Lib.hid (SD.out.below b4 (fun g hg => (SD.out.lt g hg).2))
        clear b4 XD BD SD
        go_wp2_with fail
        refine hK.out _ _ (⟨X4.out.cell 1, X4.out.cell 2⟩) (fun hS => ?_)
        clear hK K
        try simp only [Act.put, List.setIfInBounds_toArray, List.set_cons_zero, List.set_cons_succ]
        by_cases hk : dk = 1
        · subst hk
          by_cases hn : dn = 0
          · subst hn
            obtain rfl : R = L := by rw [HR.out, HLL.out]; simp
            clear HR HLL
            refine wpAnyH_take (i := 3) (v := ?_) rfl (by kernel_rfl) (by kernel_rfl) (by kernel_rfl) (fun _ _ _ h => h) (Or.inl ⟨by rfl, ?_⟩) (by assumption) ?_
            rotate_left
            · intro w hSw
              go_simp
              with_reducible rfl
            change wpAnyH _ _ _ _ _ _ _ (Act.put _ (some 24) _) _
            simp only [Act.put, List.setIfInBounds_toArray, List.set_cons_zero, List.set_cons_succ]
            refine wpAnyH_done (by kernel_rfl) ?_ _
            go_wp2_with fail
            go_ret
            exact ⟨B4.out, _, rfl, S4.out.mono (by omega)⟩
          · have dd : (dn == 0) = false := by rw [beq_eq_false_iff_ne]; exact hn
            obtain rfl : R = L ++ [⟨1, 0⟩] := by rw [HR.out, HLL.out]; simp [hn]
            clear HR hn
            refine wpAnyH_take (i := 3) (v := ?_) rfl (by kernel_rfl) (by kernel_rfl) (by kernel_rfl) (fun _ _ _ h => h) (Or.inl ⟨by rfl, ?_⟩) (by assumption) ?_
            rotate_left
            · intro w hSw
              go_simp
              with_reducible rfl
            change wpAnyH _ _ _ _ _ _ _ (Act.put _ (some 24) _) _
            simp only [Act.put, List.setIfInBounds_toArray, List.set_cons_zero, List.set_cons_succ]
            refine wpAnyH_done (by kernel_rfl) ?_ _
            go_wp2_with fail
            refine (CX.out w4).mono ?_
            rintro e w5 ⟨rfl, b5⟩
            have B5 := Lib.hid (B4.out.trans (b5.mono B4.out.size))
            have S5 := Lib.hid (S4.out.below b5 (fun g hg => (S4.out.lt g hg).2))
            have hsz : w.heap.size + 1 ≤ w5.heap.size := by have := X4.out.lt; have := b5.size; omega
            have hL1 : L.length ≤ 1 := by rw [HLL.out]; split <;> simp
            obtain ⟨g, cap, W6, hrun, sl6, hgrow, _⟩ := sl_push_ar (S5.out.only (bs := []) (Only.alloc [] w5 (.cells #[.int .i64 1, .int .i64 0] 38)) (fun g hg hm => by cases hm)) ⟨1, 0⟩ w5.heap.size (Blk.new w5 38 _) (by omega) (by simp; omega)
            have B6 : Hid (Below w.heap.size w W6) := Lib.hid (B5.out.trans ⟨hgrow.os, hgrow.tape, hgrow.output, by have := hgrow.size; simp at this; omega, fun j hj => (hgrow.block j (by simp; omega) (fun e => by have := (S5.out.lt j e.symm).1; omega)).trans (Below.heap_alloc _ _ _ (by omega))⟩)
            have SL6 := Lib.hid sl6
            have HRN := Lib.hid hrun
            clear hrun sl6 hgrow b5 B5 S5 hsz hL1 HLL
            go_wp2_with (at_builtin; refine wpList_append_run rfl _ _ 35 35 rfl rfl rfl HRN.out ?_)
            go_wp2_with fail
            go_ret
            exact ⟨B6.out, _, rfl, SL6.out.mono (by omega)⟩
        · have dd : (dk == 1) = false := by rw [beq_eq_false_iff_ne]; exact hk
          obtain rfl : R = L ++ [⟨1, 0⟩] := by rw [HR.out, HLL.out]; simp [hk]
          clear HR hk
          refine wpAnyH_take (i := 3) (v := ?_) rfl (by kernel_rfl) (by kernel_rfl) (by kernel_rfl) (fun _ _ _ h => h) (Or.inl ⟨by rfl, ?_⟩) (by assumption) ?_
          rotate_left
          · intro w hSw
            go_simp
            with_reducible rfl
          change wpAnyH _ _ _ _ _ _ _ (Act.put _ (some 24) _) _
          simp only [Act.put, List.setIfInBounds_toArray, List.set_cons_zero, List.set_cons_succ]
          refine wpAnyH_done (by kernel_rfl) ?_ _
          go_wp2_with fail
          refine (CX.out w4).mono ?_
          rintro e w5 ⟨rfl, b5⟩
          have B5 := Lib.hid (B4.out.trans (b5.mono B4.out.size))
          have S5 := Lib.hid (S4.out.below b5 (fun g hg => (S4.out.lt g hg).2))
          have hsz : w.heap.size + 1 ≤ w5.heap.size := by have := X4.out.lt; have := b5.size; omega
          have hL1 : L.length ≤ 1 := by rw [HLL.out]; split <;> simp
          obtain ⟨g, cap, W6, hrun, sl6, hgrow, _⟩ := sl_push_ar (S5.out.only (bs := []) (Only.alloc [] w5 (.cells #[.int .i64 1, .int .i64 0] 38)) (fun g hg hm => by cases hm)) ⟨1, 0⟩ w5.heap.size (Blk.new w5 38 _) (by omega) (by simp; omega)
          have B6 : Hid (Below w.heap.size w W6) := Lib.hid (B5.out.trans ⟨hgrow.os, hgrow.tape, hgrow.output, by have := hgrow.size; simp at this; omega, fun j hj => (hgrow.block j (by simp; omega) (fun e => by have := (S5.out.lt j e.symm).1; omega)).trans (Below.heap_alloc _ _ _ (by omega))⟩)
          have SL6 := Lib.hid sl6
          have HRN := Lib.hid hrun
          clear hrun sl6 hgrow b5 B5 S5 hsz hL1 HLL
          go_wp2_with (at_builtin; refine wpList_append_run rfl _ _ 35 35 rfl rfl rfl HRN.out ?_)
          go_wp2_with fail
          go_ret
          exact ⟨B6.out, _, rfl, SL6.out.mono (by omega)⟩
set_option maxRecDepth 100000 in
set_option maxHeartbeats 2000000 in
theorem defs22 (f : Im) (w : World) (hf : ImAt w f) : Calls Tryd.prog 22 #[imV f] w (ArsR (defsF f.x) w) := by
  obtain ⟨_, s1, c1, e1⟩ := hf.src.len
  obtain ⟨_, s2, c2, e2⟩ := hf.cases.len
  obtain ⟨_, s3, c3, e3⟩ := hf.segs.len
  obtain ⟨⟨op, ⟨dk, dn⟩, src, goal, n, live, name, cas, segs⟩, sv, cv, gv⟩ := f
  dsimp only at e1 e2 e3
  obtain ⟨n1, hn1⟩ : ∃ n, n = src.length := ⟨_, rfl⟩
  obtain ⟨n2, hn2⟩ : ∃ n, n = cas.length := ⟨_, rfl⟩
  obtain ⟨n3, hn3⟩ : ∃ n, n = segs.length := ⟨_, rfl⟩
  rw [← hn1] at e1
  rw [← hn2] at e2
  rw [← hn3] at e3
  subst e1 e2 e3
  clear hn1 hn2 hn3 hf
  unfold imV
  dsimp only
  obtain ⟨R, hR⟩ : ∃ R, R = defsF ⟨op, ⟨dk, dn⟩, src, goal, n, live, name, cas, segs⟩ := ⟨_, rfl⟩
  rw [← hR]
  unfold defsF at hR
  dsimp only at hR
  have CP := Lib.hid (fun (W : World) => place44 ⟨dk, dn⟩ W)
  have CX := Lib.hid (fun (W : World) => x45 0 W)
  obtain ⟨p, hp⟩ : ∃ p, p = placeF ⟨dk, dn⟩ := ⟨_, rfl⟩
  rw [← hp] at CP hR
  have HR := Lib.hid hR
  unfold arV at CP CX
  dsimp only at CP CX
  clear hp hR
  have X := Lib.hid (Blk.new w 42 #[.int .i64 op, .int .i64 dk, .int .i64 dn, .slice s1 n1 c1, .int .i64 goal, .int .i64 n, .int .i64 live, .string name, .slice s2 n2 c2, .slice s3 n3 c3])
  have B := Lib.hid ((Below.refl w.heap.size w).alloc (Nat.le_refl _) (.cells #[.int .i64 op, .int .i64 dk, .int .i64 dn, .slice s1 n1 c1, .int .i64 goal, .int .i64 n, .int .i64 live, .string name, .slice s2 n2 c2, .slice s3 n3 c3] 42))
  go_enter Tryd.func22, Tryd.ntmps22
  go_upto_region 2 with fail
  generalize w.alloc (.cells #[.int .i64 op, .int .i64 dk, .int .i64 dn, .slice s1 n1 c1, .int .i64 goal, .int .i64 n, .int .i64 live, .string name, .slice s2 n2 c2, .slice s3 n3 c3] 42) = v0 at X B ⊢
  have HL : Hid (w.heap.size + 1 ≤ v0.heap.size) := Lib.hid X.out.lt
  have q1 : v0.cell? ⟨w.heap.size, 1, none⟩ = some (.int .i64 dk) := X.out.cell 1
  have q2 : v0.cell? ⟨w.heap.size, 2, none⟩ = some (.int .i64 dn) := X.out.cell 2
  go_wp2_with fail
  refine (CP.out _).mono ?_
  rintro e v1 ⟨rfl, b1⟩
  have X1 := Lib.hid (X.out.below b1 X.out.lt)
  have B1 := Lib.hid (B.out.trans (b1.mono B.out.size))
  have q1 : v1.cell? ⟨w.heap.size, 1, none⟩ = some (.int .i64 dk) := X1.out.cell 1
  have q2 : v1.cell? ⟨w.heap.size, 2, none⟩ = some (.int .i64 dn) := X1.out.cell 2
  clear q1 q2
  go_upto_if 6 with fail
  go_cut [3] (fun z3 wx => ∃ (L : List Ar) (so : Option Addr) (co : Nat), z3 = .slice so L.length co ∧ Hid (L = if p then [⟨dk, dn⟩] else []) ∧ Hid (Sl wx (w.heap.size + 1) 38 2 arC (.slice so L.length co) L) ∧ Hid (Blk wx w.heap.size 42 #[.int .i64 op, .int .i64 dk, .int .i64 dn, .slice s1 n1 c1, .int .i64 goal, .int .i64 n, .int .i64 live, .string name, .slice s2 n2 c2, .slice s3 n3 c3]) ∧ Hid (Below w.heap.size w wx))
  case first =>
    have q1 : v1.cell? ⟨w.heap.size, 1, none⟩ = some (.int .i64 dk) := X1.out.cell 1
    have q2 : v1.cell? ⟨w.heap.size, 2, none⟩ = some (.int .i64 dn) := X1.out.cell 2
    cases p with
    | false =>
      go_wp2_with fail
      go_meet
      exact ⟨[], none, 0, rfl, Lib.hid rfl, Lib.hid (Sl.nil _ _ _ _ _), X1, B1⟩
    | true =>
      have hsz : w.heap.size + 1 ≤ v1.heap.size := by have := HL.out; have := b1.size; omega
      obtain ⟨g, cap, W2, hrun, sl2, hgrow, _⟩ := sl_push_ar (Sl.nil (v1.alloc (.cells #[.int .i64 dk, .int .i64 dn] 38)) (w.heap.size + 1) 38 2 arC) ⟨dk, dn⟩ v1.heap.size (Blk.new v1 38 _) (by simp) (by simp; omega)
      have X2 := Lib.hid (show Blk W2 w.heap.size 42 #[.int .i64 op, .int .i64 dk, .int .i64 dn, .slice s1 n1 c1, .int .i64 goal, .int .i64 n, .int .i64 live, .string name, .slice s2 n2 c2, .slice s3 n3 c3] from (hgrow.block w.heap.size (by simp; omega) (by simp [Value.ownBlock])).trans (X1.out.alloc _))
      have B2 : Hid (Below w.heap.size w W2) := Lib.hid (B1.out.trans ⟨hgrow.os, hgrow.tape, hgrow.output, by have := hgrow.size; simp at this; omega, fun j hj => (hgrow.block j (by simp; omega) (by simp [Value.ownBlock])).trans (Below.heap_alloc _ _ _ (by omega))⟩)
      have HRN := Lib.hid hrun
      have SL2 := Lib.hid sl2
      clear hrun sl2 hgrow b1
      go_wp2_with (at_builtin; refine wpList_append_run rfl _ _ 35 35 rfl rfl rfl HRN.out ?_)
      go_wp2_with fail
      go_meet
      exact ⟨[⟨dk, dn⟩], _, _, rfl, Lib.hid rfl, SL2, X2, B2⟩
  case rest =>
    obtain ⟨L, so, co, rfl, HLL, HSL, HX, HBX⟩ := hcut
    have q0 : wc.cell? ⟨w.heap.size, 0, none⟩ = some (.int .i64 op) := HX.out.cell 0
    clear X1 B1 X B b1
    go_upto_if 14 with fail
    clear q0
    go_cut [14] (fun z14 wy => z14 = .bool (giveOp op) ∧ wc = wy)
    case first =>
      by_cases h15 : op = 15
      · subst h15
        go_wp2_with fail
        go_meet
        exact ⟨rfl, rfl⟩
      · have e15 : (op == 15) = false := by rw [beq_eq_false_iff_ne]; exact h15
        by_cases h16 : op = 16
        · subst h16
          go_wp2_with fail
          go_meet
          exact ⟨rfl, rfl⟩
        · have e16 : (op == 16) = false := by rw [beq_eq_false_iff_ne]; exact h16
          by_cases h18 : op = 18
          · subst h18
            go_wp2_with fail
            go_meet
            exact ⟨rfl, rfl⟩
          · have e18 : (op == 18) = false := by rw [beq_eq_false_iff_ne]; exact h18
            by_cases h20 : op = 20
            · subst h20
              go_wp2_with fail
              go_meet
              exact ⟨rfl, rfl⟩
            · have e20 : (op == 20) = false := by rw [beq_eq_false_iff_ne]; exact h20
              by_cases h22 : op = 22
              · subst h22
                go_wp2_with fail
                go_meet
                exact ⟨rfl, rfl⟩
              · have e22 : (op == 22) = false := by rw [beq_eq_false_iff_ne]; exact h22
                by_cases h37 : op = 37
                · subst h37
                  go_wp2_with fail
                  go_meet
                  exact ⟨rfl, rfl⟩
                · have e37 : (op == 37) = false := by rw [beq_eq_false_iff_ne]; exact h37
                  have hg : giveOp op = false := by unfold giveOp; simp [h15, h16, h18, h20, h22, h37]
                  clear h15 h16 h18 h20 h22 h37
                  go_wp2_with fail
                  go_meet
                  exact ⟨by rw [hg], rfl⟩
    case rest =>
      obtain ⟨rfl, rfl⟩ := hcut
      obtain ⟨g, hg⟩ : ∃ g, g = giveOp op := ⟨_, rfl⟩
      rw [← hg] at HR ⊢
      clear hg q1 q2 CP
      cases g with
      | false =>
        obtain rfl : R = L := by rw [HR.out, HLL.out]; simp
        clear HR HLL
        go_wp2_with fail
        go_ret
        exact ⟨HBX.out, _, rfl, HSL.out.mono (by omega)⟩
      | true =>
        go_upto_region 11 with fail
        refine wp_region_held_drew (S := (fun w' => w'.cell? ⟨w.heap.size, 1, none⟩ = some (.int .i64 dk) ∧ w'.cell? ⟨w.heap.size, 2, none⟩ = some (.int .i64 dn))) (by kernel_rfl) (⟨HX.out.drew.cell 1, HX.out.drew.cell 2⟩) (fun hS => ?_)
        have BD := Lib.hid HBX.out.drew
        have SD := Lib.hid (HSL.out.same (w' := wc.drew) (Nat.le_refl _) (fun _ _ => rfl))
        have XD := Lib.hid HX.out.drew
        clear HBX HSL HX
        generalize wc.drew = w3 at *
        refine wpAnyH_take (i := 0) (v := ?_) rfl (by kernel_rfl) (by kernel_rfl) (by kernel_rfl) (fun _ _ _ h => h) (Or.inl ⟨by rfl, ?_⟩) (by assumption) ?_
        rotate_left
        · intro w hSw
          go_simp
          with_reducible rfl
        change wpAnyH _ _ _ _ _ _ _ (Act.put _ (some 21) _) _
        simp only [Act.put, List.setIfInBounds_toArray, List.set_cons_zero, List.set_cons_succ]
        refine wpAnyH_take (i := 1) (v := ?_) rfl (by kernel_rfl) (by kernel_rfl) (by kernel_rfl) (fun _ _ _ h => h) (Or.inl ⟨by rfl, ?_⟩) (by assumption) ?_
        rotate_left
        · intro w hSw
          go_simp
          with_reducible rfl
        change wpAnyH _ _ _ _ _ _ _ (Act.put _ (some 22) _) _
        simp only [Act.put, List.setIfInBounds_toArray, List.set_cons_zero, List.set_cons_succ]
        refine wpAnyH_ready (rs := [2]) (by kernel_rfl) (by simp) ?_
        refine AllReadyH.cons rfl (fun K hK => ?_) AllReadyH.nil
        go_simp
        refine (CX.out w3).mono ?_
        rintro e w4 ⟨rfl, b4⟩
        have X4 := Lib.hid (XD.out.below b4 XD.out.lt)
        have B4 := Lib.hid (BD.out.trans (b4.mono BD.out.size))
        have S4 := Lib.hid (SD.out.below b4 (fun g hg => (SD.out.lt g hg).2))
        clear b4 XD BD SD
        go_wp2_with fail
        refine hK.out _ _ (⟨X4.out.cell 1, X4.out.cell 2⟩) (fun hS => ?_)
        clear hK K
        try simp only [Act.put, List.setIfInBounds_toArray, List.set_cons_zero, List.set_cons_succ]
        by_cases hk : dk = 1
        · subst hk
          by_cases hn : dn = 0
          · subst hn
            obtain rfl : R = L := by rw [HR.out, HLL.out]; simp
            clear HR HLL
            refine wpAnyH_take (i := 3) (v := ?_) rfl (by kernel_rfl) (by kernel_rfl) (by kernel_rfl) (fun _ _ _ h => h) (Or.inl ⟨by rfl, ?_⟩) (by assumption) ?_
            rotate_left
            · intro w hSw
              go_simp
              with_reducible rfl
            change wpAnyH _ _ _ _ _ _ _ (Act.put _ (some 24) _) _
            simp only [Act.put, List.setIfInBounds_toArray, List.set_cons_zero, List.set_cons_succ]
            refine wpAnyH_done (by kernel_rfl) ?_ _
            go_wp2_with fail
            go_ret
            exact ⟨B4.out, _, rfl, S4.out.mono (by omega)⟩
          · have dd : (dn == 0) = false := by rw [beq_eq_false_iff_ne]; exact hn
            obtain rfl : R = L ++ [⟨1, 0⟩] := by rw [HR.out, HLL.out]; simp [hn]
            clear HR hn
            refine wpAnyH_take (i := 3) (v := ?_) rfl (by kernel_rfl) (by kernel_rfl) (by kernel_rfl) (fun _ _ _ h => h) (Or.inl ⟨by rfl, ?_⟩) (by assumption) ?_
            rotate_left
            · intro w hSw
              go_simp
              with_reducible rfl
            change wpAnyH _ _ _ _ _ _ _ (Act.put _ (some 24) _) _
            simp only [Act.put, List.setIfInBounds_toArray, List.set_cons_zero, List.set_cons_succ]
            refine wpAnyH_done (by kernel_rfl) ?_ _
            go_wp2_with fail
            refine (CX.out w4).mono ?_
            rintro e w5 ⟨rfl, b5⟩
            have B5 := Lib.hid (B4.out.trans (b5.mono B4.out.size))
            have S5 := Lib.hid (S4.out.below b5 (fun g hg => (S4.out.lt g hg).2))
            have hsz : w.heap.size + 1 ≤ w5.heap.size := by have := X4.out.lt; have := b5.size; omega
            have hL1 : L.length ≤ 1 := by rw [HLL.out]; split <;> simp
            obtain ⟨g, cap, W6, hrun, sl6, hgrow, _⟩ := sl_push_ar (S5.out.only (bs := []) (Only.alloc [] w5 (.cells #[.int .i64 1, .int .i64 0] 38)) (fun g hg hm => by cases hm)) ⟨1, 0⟩ w5.heap.size (Blk.new w5 38 _) (by omega) (by simp; omega)
            have B6 : Hid (Below w.heap.size w W6) := Lib.hid (B5.out.trans ⟨hgrow.os, hgrow.tape, hgrow.output, by have := hgrow.size; simp at this; omega, fun j hj => (hgrow.block j (by simp; omega) (fun e => by have := (S5.out.lt j e.symm).1; omega)).trans (Below.heap_alloc _ _ _ (by omega))⟩)
            have SL6 := Lib.hid sl6
            have HRN := Lib.hid hrun
            clear hrun sl6 hgrow b5 B5 S5 hsz hL1 HLL
            go_wp2_with (at_builtin; refine wpList_append_run rfl _ _ 35 35 rfl rfl rfl HRN.out ?_)
            go_wp2_with fail
            go_ret
            exact ⟨B6.out, _, rfl, SL6.out.mono (by omega)⟩
        · have dd : (dk == 1) = false := by rw [beq_eq_false_iff_ne]; exact hk
          obtain rfl : R = L ++ [⟨1, 0⟩] := by rw [HR.out, HLL.out]; simp [hk]
          clear HR hk
          refine wpAnyH_take (i := 3) (v := ?_) rfl (by kernel_rfl) (by kernel_rfl) (by kernel_rfl) (fun _ _ _ h => h) (Or.inl ⟨by rfl, ?_⟩) (by assumption) ?_
          rotate_left
          · intro w hSw
            go_simp
            with_reducible rfl
          change wpAnyH _ _ _ _ _ _ _ (Act.put _ (some 24) _) _
          simp only [Act.put, List.setIfInBounds_toArray, List.set_cons_zero, List.set_cons_succ]
          refine wpAnyH_done (by kernel_rfl) ?_ _
          go_wp2_with fail
          refine (CX.out w4).mono ?_
          rintro e w5 ⟨rfl, b5⟩
          have B5 := Lib.hid (B4.out.trans (b5.mono B4.out.size))
          have S5 := Lib.hid (S4.out.below b5 (fun g hg => (S4.out.lt g hg).2))
          have hsz : w.heap.size + 1 ≤ w5.heap.size := by have := X4.out.lt; have := b5.size; omega
          have hL1 : L.length ≤ 1 := by rw [HLL.out]; split <;> simp
          obtain ⟨g, cap, W6, hrun, sl6, hgrow, _⟩ := sl_push_ar (S5.out.only (bs := []) (Only.alloc [] w5 (.cells #[.int .i64 1, .int .i64 0] 38)) (fun g hg hm => by cases hm)) ⟨1, 0⟩ w5.heap.size (Blk.new w5 38 _) (by omega) (by simp; omega)
          have B6 : Hid (Below w.heap.size w W6) := Lib.hid (B5.out.trans ⟨hgrow.os, hgrow.tape, hgrow.output, by have := hgrow.size; simp at this; omega, fun j hj => (hgrow.block j (by simp; omega) (fun e => by have := (S5.out.lt j e.symm).1; omega)).trans (Below.heap_alloc _ _ _ (by omega))⟩)
          have SL6 := Lib.hid sl6
          have HRN := Lib.hid hrun
          clear hrun sl6 hgrow b5 B5 S5 hsz hL1 HLL
          go_wp2_with (at_builtin; refine wpList_append_run rfl _ _ 35 35 rfl rfl rfl HRN.out ?_)
          go_wp2_with fail
          go_ret
          exact ⟨B6.out, _, rfl, SL6.out.mono (by omega)⟩
end Go.Proofs.YtekfnonjhcfdmaaDoor
namespace Go.Proofs.YtekfnonjhcfdmaaDoor
open Go.RowKit Go.Rt Go.Rw

set_option maxRecDepth 100000 in
set_option maxHeartbeats 2000000 in
theorem in_any (L : List Int) (n : Int) (v : Value) (w : World) (h1 : SlAt w 1 inC v L) : Calls Tryd.prog 61 #[v, .int .i64 n] w (BoR (decide (n ∈ L)) w) := by
  obtain ⟨hm1, sa, cap, rfl⟩ := h1.len
  obtain ⟨r, hr⟩ : ∃ r, r = decide (n ∈ L) := ⟨_, rfl⟩
  rw [← hr]
  have RY : Hid (∀ k (a : k < L.length), L[k] = n → r = true) := Lib.hid (fun k a h => by rw [hr, ← h]; exact decide_eq_true (List.getElem_mem a))
  have RN : Hid ((∀ k (a : k < L.length), L[k] ≠ n) → r = false) := Lib.hid (fun h => by
    rw [hr]
    refine decide_eq_false (fun hn => ?_)
    obtain ⟨k, hk, e⟩ := List.getElem_of_mem hn
    exact h k hk e)
  have H1 := Lib.hid h1
  clear hr h1
  go_enter Tryd.func61, Tryd.ntmps61
  go_wp2_with fail
  go_loopw [5] (fun i wr => ∃ k : Nat, k ≤ L.length ∧ i = .int .i64 k ∧ Below w.heap.size w wr ∧ Hid (∀ j, j < k → ∀ (a : j < L.length), L[j] ≠ n)) (fun i _ => L.length - (intOf i).toNat)
  case atStart => exact ⟨0, Nat.zero_le _, rfl, Below.refl _ _, Lib.hid (fun j hj => by omega)⟩
  case round =>
    obtain ⟨k, hk, rfl, bw, hall⟩ := hrel
    have BW := Lib.hid bw
    by_cases hlt : k < L.length
    · obtain ⟨b, o, rfl, hb, hc⟩ := H1.out.get (by omega)
      have HK := Lib.hid (RY.out k hlt)
      have HE := Lib.hid hall.out
      have p := hc k 0 hlt (by omega)
      rw [Nat.mul_one, Nat.add_zero] at p
      obtain ⟨x, hx⟩ : ∃ x, x = L[k] := ⟨_, rfl⟩
      rw [← hx] at p HK
      have p0 : wr.cell? ⟨b, o + k, none⟩ = some (.int .i64 x) := by rw [bw.cell (p := ⟨b, _, none⟩) hb, p]; rfl
      clear hc p bw
      by_cases hxy : x = n
      · subst hxy
        obtain rfl := HK.out rfl
        clear hx
        go_wp2_with fail
        try go_quiet (fail)
        try go_wp2_with fail
        go_ret
        exact ⟨rfl, by first | exact BW.out | exact below_drewN BW.out _⟩
      · have dn : (x == n) = false := by rw [beq_eq_false_iff_ne]; exact hxy
        have HQ : Hid (L[k] ≠ n) := Lib.hid (by rw [← hx]; exact hxy)
        clear hx hxy
        go_wp2_with fail
        try go_quiet (fail)
        try go_wp2_with fail
        go_roundw
        case rel => exact ⟨k + 1, by omega, by go_num, by first | exact BW.out | exact below_drewN BW.out _, Lib.hid (fun j hj a => by
          rcases Nat.lt_succ_iff_lt_or_eq.1 hj with q | q
          · exact HE.out j q a
          · subst q; exact HQ.out)⟩
        case measure => simp [intOf]; omega
    · obtain rfl : r = false := RN.out (fun j a => hall.out j (by omega) a)
      go_wp2_with fail
      go_ret
      exact ⟨rfl, BW.out⟩
set_option maxRecDepth 100000 in
set_option maxHeartbeats 2000000 in
theorem holds_any (L : List Int) (n : Int) (v : Value) (w : World) (h1 : SlAt w 1 inC v L) : Calls Tryd.prog 31 #[v, .int .i64 n] w (BoR (decide (n ∈ L)) w) := by
  obtain ⟨hm1, sa, cap, rfl⟩ := h1.len
  obtain ⟨r, hr⟩ : ∃ r, r = decide (n ∈ L) := ⟨_, rfl⟩
  rw [← hr]
  have RY : Hid (∀ k (a : k < L.length), L[k] = n → r = true) := Lib.hid (fun k a h => by rw [hr, ← h]; exact decide_eq_true (List.getElem_mem a))
  have RN : Hid ((∀ k (a : k < L.length), L[k] ≠ n) → r = false) := Lib.hid (fun h => by
    rw [hr]
    refine decide_eq_false (fun hn => ?_)
    obtain ⟨k, hk, e⟩ := List.getElem_of_mem hn
    exact h k hk e)
  have H1 := Lib.hid h1
  clear hr h1
  go_enter Tryd.func31, Tryd.ntmps31
  go_wp2_with fail
  go_loopw [5] (fun i wr => ∃ k : Nat, k ≤ L.length ∧ i = .int .i64 k ∧ Below w.heap.size w wr ∧ Hid (∀ j, j < k → ∀ (a : j < L.length), L[j] ≠ n)) (fun i _ => L.length - (intOf i).toNat)
  case atStart => exact ⟨0, Nat.zero_le _, rfl, Below.refl _ _, Lib.hid (fun j hj => by omega)⟩
  case round =>
    obtain ⟨k, hk, rfl, bw, hall⟩ := hrel
    have BW := Lib.hid bw
    by_cases hlt : k < L.length
    · obtain ⟨b, o, rfl, hb, hc⟩ := H1.out.get (by omega)
      have HK := Lib.hid (RY.out k hlt)
      have HE := Lib.hid hall.out
      have p := hc k 0 hlt (by omega)
      rw [Nat.mul_one, Nat.add_zero] at p
      obtain ⟨x, hx⟩ : ∃ x, x = L[k] := ⟨_, rfl⟩
      rw [← hx] at p HK
      have p0 : wr.cell? ⟨b, o + k, none⟩ = some (.int .i64 x) := by rw [bw.cell (p := ⟨b, _, none⟩) hb, p]; rfl
      clear hc p bw
      by_cases hxy : x = n
      · subst hxy
        obtain rfl := HK.out rfl
        clear hx
        go_wp2_with fail
        try go_quiet (fail)
        try go_wp2_with fail
        go_ret
        exact ⟨rfl, by first | exact BW.out | exact below_drewN BW.out _⟩
      · have dn : (x == n) = false := by rw [beq_eq_false_iff_ne]; exact hxy
        have HQ : Hid (L[k] ≠ n) := Lib.hid (by rw [← hx]; exact hxy)
        clear hx hxy
        go_wp2_with fail
        try go_quiet (fail)
        try go_wp2_with fail
        go_roundw
        case rel => exact ⟨k + 1, by omega, by go_num, by first | exact BW.out | exact below_drewN BW.out _, Lib.hid (fun j hj a => by
          rcases Nat.lt_succ_iff_lt_or_eq.1 hj with q | q
          · exact HE.out j q a
          · subst q; exact HQ.out)⟩
        case measure => simp [intOf]; omega
    · obtain rfl : r = false := RN.out (fun j a => hall.out j (by omega) a)
      go_wp2_with fail
      go_ret
      exact ⟨rfl, BW.out⟩
end Go.Proofs.YtekfnonjhcfdmaaDoor
namespace Go.Proofs.YtekfnonjhcfdmaaDoor
open Go.RowKit Go.Rt Go.Rw

theorem results_tt {P : Program} {fn : Func} {a b : Tmp} (h : fn.results = #[.tmp a, .tmp b]) (tmps : Array Value) (w : World) (u v : Value) (hb : tmps.getD a undef = u) (hv : tmps.getD b undef = v) : (results fn tmps).run P w = .ok (.tuple #[u, v]) w := by
  rw [Array.getD_eq_getD_getElem?] at hb hv
  simp [results, h, hb, hv]
/-- Is the target of an OpTry an instruction? -/
def handB (op goal : Int) (n : Nat) : Bool := decide (op = 28) && (decide (0 ≤ goal) && decide (goal < n))
set_option maxRecDepth 100000 in
set_option maxHeartbeats 2000000 in
theorem hand48 (l : List In) (v : Value) (w : World) (h : InsAt w l v) (i : Nat) (hi : i < l.length) : Calls Tryd.prog 48 #[v, .int .i64 i] w fun e w' => e = .returned (.tuple #[.int .i64 (l[i]).to, .bool (handB (l[i]).op (l[i]).to l.length)]) ∧ Below w.heap.size w w' := by
  obtain ⟨hm, sa, cap, rfl⟩ := h.form
  obtain ⟨b, o, rfl, hb, hc⟩ := h.get (by omega)
  obtain ⟨f, hf, ha, hc⟩ := hc i hi
  obtain ⟨p0, _, _, _, p4, _, _, _, _, _⟩ := cells10 (W := w) (b := b) (p := o + i * 10) (f := f) (fun j hj => by rw [← hc j hj])
  rw [← hf]
  obtain ⟨op, hop⟩ : ∃ op, op = f.x.op := ⟨_, rfl⟩
  obtain ⟨goal, hgoal⟩ : ∃ goal, goal = f.x.to := ⟨_, rfl⟩
  rw [← hop] at p0 ⊢
  rw [← hgoal] at p4 ⊢
  obtain ⟨r, hr⟩ : ∃ r, r = handB op goal l.length := ⟨_, rfl⟩
  rw [← hr]
  unfold handB at hr
  obtain ⟨n, hn⟩ : ∃ n, n = l.length := ⟨_, rfl⟩
  rw [← hn] at hr hi hm ⊢
  clear hc ha hf hop hgoal hn h hb
  by_cases h28 : op = 28
  · subst h28
    obtain ⟨q1, hq1⟩ : ∃ q, q = decide (0 ≤ goal) := ⟨_, rfl⟩
    obtain ⟨q2, hq2⟩ : ∃ q, q = decide (goal < (n : Int)) := ⟨_, rfl⟩
    rw [← hq1, ← hq2] at hr
    have HR := Lib.hid hr
    have d1 := hq1.symm
    have d2 := hq2.symm
    clear hr hq1 hq2
    cases q1
    all_goals
      cases q2
      all_goals
          obtain rfl := HR.out
          clear HR
          go_enter Tryd.func48, Tryd.ntmps48
          go_wp2_with fail
          exact bodyPost_ret (results_tt (a := 4) (b := 5) rfl _ _ _ _ rfl rfl) rfl ⟨rfl, by first | exact Below.refl _ _ | exact below_drewN (Below.refl _ _) _⟩
  · have e28 : (op == 28) = false := by rw [beq_eq_false_iff_ne]; exact h28
    obtain rfl : r = false := by rw [hr, decide_eq_false h28]; rfl
    clear hr h28
    go_enter Tryd.func48, Tryd.ntmps48
    go_wp2_with fail
    exact bodyPost_ret (results_tt (a := 4) (b := 5) rfl _ _ _ _ rfl rfl) rfl ⟨rfl, by first | exact Below.refl _ _ | exact below_drewN (Below.refl _ _) _⟩
set_option maxRecDepth 100000 in
set_option maxHeartbeats 2000000 in
theorem hand49 (l : List In) (v : Value) (w : World) (h : InsAt w l v) (i : Nat) (hi : i < l.length) : Calls Tryd.prog 49 #[v, .int .i64 i] w fun e w' => e = .returned (.tuple #[.int .i64 (l[i]).to, .bool (handB (l[i]).op (l[i]).to l.length)]) ∧ Below w.heap.size w w' := by
  obtain ⟨hm, sa, cap, rfl⟩ := h.form
  obtain ⟨b, o, rfl, hb, hc⟩ := h.get (by omega)
  obtain ⟨f, hf, ha, hc⟩ := hc i hi
  obtain ⟨p0, _, _, _, p4, _, _, _, _, _⟩ := cells10 (W := w) (b := b) (p := o + i * 10) (f := f) (fun j hj => by rw [← hc j hj])
  rw [← hf]
  obtain ⟨op, hop⟩ : ∃ op, op = f.x.op := ⟨_, rfl⟩
  obtain ⟨goal, hgoal⟩ : ∃ goal, goal = f.x.to := ⟨_, rfl⟩
  rw [← hop] at p0 ⊢
  rw [← hgoal] at p4 ⊢
  obtain ⟨r, hr⟩ : ∃ r, r = handB op goal l.length := ⟨_, rfl⟩
  rw [← hr]
  unfold handB at hr
  obtain ⟨n, hn⟩ : ∃ n, n = l.length := ⟨_, rfl⟩
  rw [← hn] at hr hi hm ⊢
  clear hc ha hf hop hgoal hn h hb
  by_cases h28 : op = 28
  · subst h28
    obtain ⟨q1, hq1⟩ : ∃ q, q = decide (0 ≤ goal) := ⟨_, rfl⟩
    obtain ⟨q2, hq2⟩ : ∃ q, q = decide (goal < (n : Int)) := ⟨_, rfl⟩
    rw [← hq1, ← hq2] at hr
    have HR := Lib.hid hr
    have d1 := hq1.symm
    have d2 := hq2.symm
    clear hr hq1 hq2
    cases q1
    all_goals
      cases q2
      all_goals
          obtain rfl := HR.out
          clear HR
          go_enter Tryd.func49, Tryd.ntmps49
          go_wp2_with fail
          go_quiet (fail)
          go_wp2_with fail
          exact bodyPost_ret (results_tt (a := 4) (b := 5) rfl _ _ _ _ rfl rfl) rfl ⟨rfl, by first | exact Below.refl _ _ | exact below_drewN (Below.refl _ _) _⟩
  · have e28 : (op == 28) = false := by rw [beq_eq_false_iff_ne]; exact h28
    obtain rfl : r = false := by rw [hr, decide_eq_false h28]; rfl
    clear hr h28
    go_enter Tryd.func49, Tryd.ntmps49
    go_wp2_with fail
    go_quiet (fail)
    go_wp2_with fail
    exact bodyPost_ret (results_tt (a := 4) (b := 5) rfl _ _ _ _ rfl rfl) rfl ⟨rfl, by first | exact Below.refl _ _ | exact below_drewN (Below.refl _ _) _⟩
end Go.Proofs.YtekfnonjhcfdmaaDoor
