/- stagehandlaw17.large. -/
import Derived.Test.YtekfnonjhcfdmaaDoorSames
namespace Go.Proofs.YtekfnonjhcfdmaaDoor
open Go.RowKit Go.Rt Go.Rw

/-- What an instruction counts, and a list. -/
def sumI (x : In) : Nat := 1 + x.src.length + x.cases.length + x.segs.length
def sumL : List In → Nat
  | [] => 0
  | x :: r => sumI x + sumL r
theorem sumL_take (l : List In) (k : Nat) (hk : k < l.length) : sumL (l.take (k + 1)) = sumL (l.take k) + sumI l[k] := by
  induction l generalizing k with
  | nil => simp at hk
  | cons t r ih =>
    cases k with
    | zero => simp [sumL]
    | succ k => simp [sumL, ih k (by simpa using hk)]; omega
theorem sumL_le (l : List In) (k : Nat) : sumL (l.take k) ≤ sumL l := by
  induction l generalizing k with
  | nil => simp [sumL]
  | cons t r ih =>
    cases k with
    | zero => simp [sumL]
    | succ k => have := ih k; simp [sumL]; omega
/-- What large answers: where the sum can be counted, whether it passes 400. -/
def LaR (s : Nat) (w : World) (e : Ending) (w' : World) : Prop := Below w.heap.size w w' ∧ ∃ b, e = .returned (.bool b) ∧ (s ≤ 9223372036854775807 → b = decide (400 < s))
theorem wrap_id (n : Int) (h : -9223372036854775808 ≤ n ∧ n ≤ 9223372036854775807) : IntKind.i64.wrap n = n := by rw [IntKind.wrap_i64]; omega
theorem wrap64_id (n : Int) (h : -9223372036854775808 ≤ n ∧ n ≤ 9223372036854775807) : wrap64 n = n := by unfold wrap64; omega
set_option maxRecDepth 100000 in
set_option maxHeartbeats 2000000 in
theorem large_any (l : List In) (v v2 : Value) (n : Nat) (sa2 : Option Addr) (cap2 : Nat) (w : World) (h : InsAt w l v) (hv2 : v2 = .slice sa2 n cap2) (hn : n ≤ 9223372036854775807) : Calls Tryd.prog 10 #[v, v2] w (LaR (n + sumL l) w) := by
  obtain ⟨hm, sa, cap, rfl⟩ := h.form
  subst hv2
  have H := Lib.hid h
  clear h
  go_enter Tryd.func10, Tryd.ntmps10
  go_wp2_with fail
  go_loopw [5, 6] (fun a i wr => ∃ (k : Nat) (m : Int), k ≤ l.length ∧ i = .int .i64 k ∧ a = .int .i64 m ∧ Below w.heap.size w wr ∧ Hid (n + sumL l ≤ 9223372036854775807 → m = ((n + sumL (l.take k) : Nat) : Int))) (fun _ i _ => l.length - (intOf i).toNat)
  case atStart => exact ⟨0, n, Nat.zero_le _, rfl, rfl, Below.refl _ _, Lib.hid (fun _ => by simp [sumL])⟩
  case round =>
    obtain ⟨k, m, hk, rfl, rfl, bw, hm2⟩ := hrel
    have BW := Lib.hid bw
    by_cases hlt : k < l.length
    · obtain ⟨b, o, rfl, hb, hc⟩ := H.out.get (by omega)
      obtain ⟨f, hf, ha, hc⟩ := hc k hlt
      obtain ⟨_, p1, p2, p3, p4, p5, p6, p7, p8, p9⟩ := cells10 (W := wr) (b := b) (p := o + k * 10) (f := f) (fun j hj => by rw [← hc j hj]; exact bw.cell (p := ⟨b, _, none⟩) hb)
      obtain ⟨h1, s1, c1, e1⟩ := ha.src.len
      obtain ⟨h2, s2, c2, e2⟩ := ha.cases.len
      obtain ⟨h3, s3, c3, e3⟩ := ha.segs.len
      rw [e1] at p3
      rw [e2] at p8
      rw [e3] at p9
      obtain ⟨n1, hn1⟩ : ∃ n, n = f.x.src.length := ⟨_, rfl⟩
      obtain ⟨n2, hn2⟩ : ∃ n, n = f.x.cases.length := ⟨_, rfl⟩
      obtain ⟨n3, hn3⟩ : ∃ n, n = f.x.segs.length := ⟨_, rfl⟩
      have HS : Hid (n + sumL l ≤ 9223372036854775807 → wrap64 (wrap64 (wrap64 (wrap64 (m + 1) + n1) + n2) + n3) = ((n + sumL (l.take (k + 1)) : Nat) : Int)) := Lib.hid (fun hs => by
        have e := hm2.out hs
        have q := sumL_take l k hlt
        have q2 := sumL_le l (k + 1)
        have q3 : sumI l[k] = 1 + n1 + n2 + n3 := by rw [← hf, hn1, hn2, hn3]; rfl
        rw [wrap64_id (m + 1) (by omega), wrap64_id (m + 1 + n1) (by omega), wrap64_id (m + 1 + n1 + n2) (by omega), wrap64_id (m + 1 + n1 + n2 + n3) (by omega)]
        omega)
      rw [← hn1] at p3
      rw [← hn2] at p8
      rw [← hn3] at p9
      clear hc bw hn1 hn2 hn3 hf ha h1 h2 h3 e1 e2 e3 p1 p2 p4 p5 p6 p7 hm2
      go_wp2_with fail
      go_quiet (fail)
      have BX := Lib.hid (below_drewN BW.out nq)
      go_wp2_with fail
      go_roundw
      case rel => exact ⟨k + 1, _, by omega, by go_num, rfl, BX.out, HS⟩
      case measure => simp [intOf]; omega
    · obtain rfl : k = l.length := by omega
      have HF : Hid (n + sumL l ≤ 9223372036854775807 → decide ((400 : Int) < m) = decide (400 < n + sumL l)) := Lib.hid (fun hs => by
        have e := hm2.out hs
        rw [List.take_length] at e
        rw [e, decide_eq_decide]
        omega)
      clear hm2 bw
      go_wp2_with fail
      go_ret
      exact ⟨BW.out, _, rfl, HF.out⟩
end Go.Proofs.YtekfnonjhcfdmaaDoor
