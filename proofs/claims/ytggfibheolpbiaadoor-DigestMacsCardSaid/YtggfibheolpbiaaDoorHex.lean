/- digest.Hex and digest.Equal. -/
import Derived.Test.YtggfibheolpbiaaDoorTailA
import Derived.Test.YtggfibheolpbiaaDoorRot
import Derived.Deep.RegionLaw
import Derived.Deep.RegionHeld3
import Derived.LoopTactic
import Derived.Deep.DrawnRows
namespace Go.Proofs.YtggfibheolpbiaaDoor
open Go.RowKit Go.Rt
attribute [local go_sem ↓] Go.wp_at_zero Go.wp_at_succ

/-- A hexadecimal digit. -/
def digF (n : Nat) : Nat := if n < 10 then 48 + n else 87 + n
def hexL (b : ByteArray) : List Nat := (bytesN b).flatMap fun c => [digF (c / 16), digF (c % 16)]
theorem digF_lt (n : Nat) (h : n < 16) : digF n < 256 := by unfold digF; split <;> omega
theorem hexL_lt (b : ByteArray) : ∀ x ∈ hexL b, x < 256 := by
  intro x hx
  obtain ⟨c, hc, h⟩ := List.mem_flatMap.1 hx
  obtain ⟨u, _, rfl⟩ := List.mem_map.1 hc
  have := u.toNat_lt
  simp only [List.mem_cons, List.not_mem_nil, or_false] at h
  rcases h with rfl | rfl
  · exact digF_lt _ (by omega)
  · exact digF_lt _ (by omega)
def hexK (b : ByteArray) (k : Nat) : List Nat := ((bytesN b).take k).flatMap fun c => [digF (c / 16), digF (c % 16)]
theorem hexK_succ (b : ByteArray) (k : Nat) (h : k < b.size) : hexK b (k + 1) = hexK b k ++ [digF (b[k].toNat / 16), digF (b[k].toNat % 16)] := by
  unfold hexK
  rw [List.take_succ_eq_append_getElem (by rw [bytesN_len]; exact h), List.flatMap_append]
  simp [bytesN]
  exact ⟨rfl, rfl⟩
theorem hexK_len (b : ByteArray) (k : Nat) (h : k ≤ b.size) : (hexK b k).length = 2 * k := by
  induction k with
  | zero => simp [hexK]
  | succ k ih => rw [hexK_succ b k (by omega), List.length_append, ih (by omega)]; simp; omega
theorem hexK_end (b : ByteArray) : hexK b b.size = hexL b := by
  unfold hexK hexL
  rw [List.take_of_length_le (by rw [bytesN_len]; exact Nat.le_refl _)]

theorem dig_run (n : Nat) (h : n < 16) (W : World) : (Instr.index 9 (.string ⟨#[48, 49, 50, 51, 52, 53, 54, 55, 56, 57, 97, 98, 99, 100, 101, 102]⟩) (.int .u8 (n : Int))).run Tryd.prog W = .ok (bv (digF n)) W := by
  have : n = 0 ∨ n = 1 ∨ n = 2 ∨ n = 3 ∨ n = 4 ∨ n = 5 ∨ n = 6 ∨ n = 7 ∨ n = 8 ∨ n = 9 ∨ n = 10 ∨ n = 11 ∨ n = 12 ∨ n = 13 ∨ n = 14 ∨ n = 15 := by omega
  rcases this with rfl | rfl | rfl | rfl | rfl | rfl | rfl | rfl | rfl | rfl | rfl | rfl | rfl | rfl | rfl | rfl <;> (show Sem.run _ _ _ = _; kernel_rfl)
theorem step_append_ts {ops : Array Oper} {o : Oper} {a : Act} {w : World} {K : Act → World → Prop} {Q : Exit → Act → World → Prop} {E : Prop} {g n cap b cc : Nat} {L : List Nat} {e' : TypeId} {fr' : Nat × Nat}
    (hg : o.guard = none) (s x : Operand) (hop : o.op = Op.call { callee := Callee.builtin Builtin.append, args := #[s, x], argTypes := #[29, 29] })
    (hs : a.eval s = .slice (some ⟨g, 0, none⟩) n cap) {m : Nat} (hx : a.eval x = .slice (some ⟨b, 0, none⟩) m cc) (hts : Ts w g n cap L) (A : List Nat) (hA : A.length = m ∧ 0 < m) (hb : w.heap[b]? = some (.cells (A.map bv).toArray e' fr')) (hl : n + m ≤ 1000000000000)
    (hK : ∀ g' cap' W', Ts W' g' (n + m) cap' (L ++ A) → Only [g] w W' → (g' = g ∨ w.heap.size ≤ g') → K (a.put o.dst (.slice (some ⟨g', 0, none⟩) (n + m) cap')) W') :
    if Region.wanted o (yielded ops a.tmps) = true then Oper.wp Tryd.prog o a w K Q else E := by
  obtain ⟨rfl, hA0⟩ := hA
  obtain ⟨g', cap', W', hrun, h1, h2, h3⟩ := Ts.pushA (P := Tryd.prog) (t := 29) (ty := o.type) und29 info5 hts A hA0 b hb hl cc
  have hw : Region.wanted o (yielded ops a.tmps) = true := by simp [Region.wanted, hg]
  rw [if_pos hw]
  unfold Oper.wp
  simp [execOp, hop, resolve, invoke, builtin, hs, hx, hrun, Result.andThen]
  exact hK _ _ _ h1 h2 h3
set_option maxRecDepth 100000 in
set_option maxHeartbeats 1000000 in
theorem hex_any (b : ByteArray) (hb : b.size ≤ 100000) (w : World) :
    Calls Tryd.prog 11 #[.string b] w fun e w' => e = .returned (.string ⟨((hexL b).map UInt8.ofNat).toArray⟩) ∧ Below w.heap.size w w' := by
  obtain ⟨w1, hmk, ts0, b0⟩ := ts_make w (2 * b.size) (by omega)
  have hmk2 : (Instr.makeSlice 29 (.int .i64 0) (.int .i64 (2 * (b.size : Int)))).run Tryd.prog w = .ok (.slice (some ⟨w.heap.size, 0, none⟩) 0 (2 * b.size)) w1 := by
    rw [← hmk, Int.natCast_mul]; rfl
  have HT0 := Lib.hid ts0
  have HB0 := Lib.hid b0
  clear hmk ts0 b0
  go_enter Tryd.func11, Tryd.ntmps11
  go_wp2
  clear hmk2
  go_loopw [3, 11] (fun v x wr => ∃ k g cap : Nat, k ≤ b.size ∧ x = .int .i64 k ∧ v = .slice (some ⟨g, 0, none⟩) (2 * k) cap ∧ Ts wr g (2 * k) cap (hexK b k) ∧ w.heap.size ≤ g ∧ Below w.heap.size w wr) (fun _ x _ => b.size - (intOf x).toNat)
  case atStart => exact ⟨0, w.heap.size, 2 * b.size, by omega, rfl, rfl, HT0.out, Nat.le_refl _, HB0.out⟩
  case round =>
    obtain ⟨k, g, cap, hk, rfl, rfl, ts, hg, bl⟩ := hrel
    clear HT0 HB0
    by_cases hlt : k < b.size
    · have hlt' : (k : Int) < b.size := by omega
      have hcl : b[k].toNat < 256 := b[k].toNat_lt
      have HS := Lib.hid (hexK_succ b k hlt)
      have hand : bits .and .u8 (b[k].toNat : Int) 15 = ((b[k].toNat % 16 : Nat) : Int) := by
        have := u8_and_nat b[k].toNat 15 hcl (by omega)
        rw [nat_mask4] at this
        exact this
      have hx1 := dig_run (b[k].toNat / 16) (by omega)
      have hx2 := dig_run (b[k].toNat % 16) (by omega)
      rw [Int.natCast_ediv] at hx1
      have hx1' : ∀ W, (Instr.index 9 (.string ⟨#[48, 49, 50, 51, 52, 53, 54, 55, 56, 57, 97, 98, 99, 100, 101, 102]⟩) (.int .u8 ((b[k].toNat : Int) / 16))).run Tryd.prog W = .ok (bv (digF (b[k].toNat / 16))) W := hx1
      have hx2' : ∀ W, (Instr.index 9 (.string ⟨#[48, 49, 50, 51, 52, 53, 54, 55, 56, 57, 97, 98, 99, 100, 101, 102]⟩) (.int .u8 ((b[k].toNat : Int) % 16))).run Tryd.prog W = .ok (bv (digF (b[k].toNat % 16))) W := by
        rw [Int.natCast_emod] at hx2; exact hx2
      clear hx1 hx2
      obtain ⟨d1, hd1⟩ : ∃ d, d = digF (b[k].toNat / 16) := ⟨_, rfl⟩
      obtain ⟨d2, hd2⟩ : ∃ d, d = digF (b[k].toNat % 16) := ⟨_, rfl⟩
      rw [← hd1] at hx1' HS
      rw [← hd2] at hx2' HS
      have HL := Lib.hid (hexK_len b k hk)
      clear hd1 hd2
      go_wp2
      go_region_held3 (fun _ => True) (trivial) ((refine step_append_ts (b := wr.heap.size) (m := 2) (by rfl) _ _ (by rfl) (by rfl) (by rfl) (ts.same (Below.heap_alloc _ _ _ ts.lt)) [d1, d2] ⟨rfl, by omega⟩ (World.alloc_heap_new _ _) (by omega) ?_; intro g2 cap2 W2 ts2 o2 wh2))
      all_goals
        go_wp2
        have hsz := bl.size
        have hg2 : w.heap.size ≤ g2 := by
          rcases wh2 with rfl | q
          · exact hg
          · simp at q; omega
        have hbl : Below w.heap.size w W2 := bl.trans (((Below.refl w.heap.size wr).alloc hsz (.cells #[bv d1, bv d2] 5)).drew.trans (o2.below (n := w.heap.size) (by simpa using hg) (by simp; omega)))
        rw [← HS.out] at ts2
        exact ⟨⟨k + 1, g2, cap2, by omega, by go_num, by rw [show 2 * (k + 1) = 2 * k + 2 by omega], ts2, hg2, hbl⟩, by simp [intOf]; omega⟩
    · obtain rfl : k = b.size := by omega
      have hcv := ts.conv (by rw [hexK_end]; exact hexL_lt b)
      rw [hexK_end] at hcv
      have HBL := Lib.hid bl
      clear ts bl
      go_wp2
      go_ret
      exact ⟨rfl, HBL.out⟩
end Go.Proofs.YtggfibheolpbiaaDoor
