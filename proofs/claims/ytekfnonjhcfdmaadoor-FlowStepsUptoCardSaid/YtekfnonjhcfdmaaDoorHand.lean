/- handler. -/
import Derived.Test.YtekfnonjhcfdmaaDoorHas
namespace Go.Proofs.YtekfnonjhcfdmaaDoor
open Go.RowKit Go.Rt Go.Rw

theorem results_tt {P : Program} {fn : Func} {a b : Tmp} (h : fn.results = #[.tmp a, .tmp b]) (tmps : Array Value) (w : World) (u v : Value) (hb : tmps.getD a undef = u) (hv : tmps.getD b undef = v) : (results fn tmps).run P w = .ok (.tuple #[u, v]) w := by
  rw [Array.getD_eq_getD_getElem?] at hb hv
  simp [results, h, hb, hv]
/-- Is the target of an OpTry an instruction? -/
def handB (op goal : Int) (n : Nat) : Bool := decide (op = 28) && (decide (0 ≤ goal) && decide (goal < n))
set_option maxRecDepth 100000 in
set_option maxHeartbeats 2000000 in
theorem hand48 (l : List In) (v : Value) (w : World) (h : InsAt w l v) (i : Nat) (hi : i < l.length) : Calls Tryd.prog 48 #[v, .int .i64 i] w fun e w' => e = .returned (.tuple #[.int .i64 (l[i]).to, .bool (handB (l[i]).op (l[i]).to l.length)]) ∧ Below w.heap.size w w' := by
  obtain ⟨hm, sa, cap, rfl⟩ := h.form
  obtain ⟨b, o, rfl, hb, hc⟩ := h.get (by omega)
  obtain ⟨f, hf, ha, hc⟩ := hc i hi
  obtain ⟨p0, _, _, _, p4, _, _, _, _, _⟩ := cells10 (W := w) (b := b) (p := o + i * 10) (f := f) (fun j hj => by rw [← hc j hj])
  rw [← hf]
  obtain ⟨op, hop⟩ : ∃ op, op = f.x.op := ⟨_, rfl⟩
  obtain ⟨goal, hgoal⟩ : ∃ goal, goal = f.x.to := ⟨_, rfl⟩
  rw [← hop] at p0 ⊢
  rw [← hgoal] at p4 ⊢
  obtain ⟨r, hr⟩ : ∃ r, r = handB op goal l.length := ⟨_, rfl⟩
  rw [← hr]
  unfold handB at hr
  obtain ⟨n, hn⟩ : ∃ n, n = l.length := ⟨_, rfl⟩
  rw [← hn] at hr hi hm ⊢
  clear hc ha hf hop hgoal hn h hb
  by_cases h28 : op = 28
  · subst h28
    obtain ⟨q1, hq1⟩ : ∃ q, q = decide (0 ≤ goal) := ⟨_, rfl⟩
    obtain ⟨q2, hq2⟩ : ∃ q, q = decide (goal < (n : Int)) := ⟨_, rfl⟩
    rw [← hq1, ← hq2] at hr
    have HR := Lib.hid hr
    have d1 := hq1.symm
    have d2 := hq2.symm
    clear hr hq1 hq2
    cases q1
    all_goals
      cases q2
      all_goals
          obtain rfl := HR.out
          clear HR
          go_enter Tryd.func48, Tryd.ntmps48
          go_wp2_with fail
          exact bodyPost_ret (results_tt (a := 4) (b := 5) rfl _ _ _ _ rfl rfl) rfl ⟨rfl, by first | exact Below.refl _ _ | exact below_drewN (Below.refl _ _) _⟩
  · have e28 : (op == 28) = false := by rw [beq_eq_false_iff_ne]; exact h28
    obtain rfl : r = false := by rw [hr, decide_eq_false h28]; rfl
    clear hr h28
    go_enter Tryd.func48, Tryd.ntmps48
    go_wp2_with fail
    exact bodyPost_ret (results_tt (a := 4) (b := 5) rfl _ _ _ _ rfl rfl) rfl ⟨rfl, by first | exact Below.refl _ _ | exact below_drewN (Below.refl _ _) _⟩
set_option maxRecDepth 100000 in
set_option maxHeartbeats 2000000 in
theorem hand49 (l : List In) (v : Value) (w : World) (h : InsAt w l v) (i : Nat) (hi : i < l.length) : Calls Tryd.prog 49 #[v, .int .i64 i] w fun e w' => e = .returned (.tuple #[.int .i64 (l[i]).to, .bool (handB (l[i]).op (l[i]).to l.length)]) ∧ Below w.heap.size w w' := by
  obtain ⟨hm, sa, cap, rfl⟩ := h.form
  obtain ⟨b, o, rfl, hb, hc⟩ := h.get (by omega)
  obtain ⟨f, hf, ha, hc⟩ := hc i hi
  obtain ⟨p0, _, _, _, p4, _, _, _, _, _⟩ := cells10 (W := w) (b := b) (p := o + i * 10) (f := f) (fun j hj => by rw [← hc j hj])
  rw [← hf]
  obtain ⟨op, hop⟩ : ∃ op, op = f.x.op := ⟨_, rfl⟩
  obtain ⟨goal, hgoal⟩ : ∃ goal, goal = f.x.to := ⟨_, rfl⟩
  rw [← hop] at p0 ⊢
  rw [← hgoal] at p4 ⊢
  obtain ⟨r, hr⟩ : ∃ r, r = handB op goal l.length := ⟨_, rfl⟩
  rw [← hr]
  unfold handB at hr
  obtain ⟨n, hn⟩ : ∃ n, n = l.length := ⟨_, rfl⟩
  rw [← hn] at hr hi hm ⊢
  clear hc ha hf hop hgoal hn h hb
  by_cases h28 : op = 28
  · subst h28
    obtain ⟨q1, hq1⟩ : ∃ q, q = decide (0 ≤ goal) := ⟨_, rfl⟩
    obtain ⟨q2, hq2⟩ : ∃ q, q = decide (goal < (n : Int)) := ⟨_, rfl⟩
    rw [← hq1, ← hq2] at hr
    have HR := Lib.hid hr
    have d1 := hq1.symm
    have d2 := hq2.symm
    clear hr hq1 hq2
    cases q1
    all_goals
      cases q2
      all_goals
          obtain rfl := HR.out
          clear HR
          go_enter Tryd.func49, Tryd.ntmps49
          go_wp2_with fail
          go_quiet (fail)
          go_wp2_with fail
          exact bodyPost_ret (results_tt (a := 4) (b := 5) rfl _ _ _ _ rfl rfl) rfl ⟨rfl, by first | exact Below.refl _ _ | exact below_drewN (Below.refl _ _) _⟩
  · have e28 : (op == 28) = false := by rw [beq_eq_false_iff_ne]; exact h28
    obtain rfl : r = false := by rw [hr, decide_eq_false h28]; rfl
    clear hr h28
    go_enter Tryd.func49, Tryd.ntmps49
    go_wp2_with fail
    go_quiet (fail)
    go_wp2_with fail
    exact bodyPost_ret (results_tt (a := 4) (b := 5) rfl _ _ _ _ rfl rfl) rfl ⟨rfl, by first | exact Below.refl _ _ | exact below_drewN (Below.refl _ _) _⟩
end Go.Proofs.YtekfnonjhcfdmaaDoor
