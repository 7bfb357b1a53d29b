/- frags.pieces: the iterator's contract, over any loop body that keeps its two variables. -/
import Derived.Test.YtbddggdbhfmlnaaLists
import Derived.Test.YtbddggdbhfmlnaaRows
import Derived.Shelf.Abstract
import Derived.Shelf.RegionOpen
import Derived.WalkKit
import Derived.OwnWalkIn
import Derived.TacticsInMore
import Derived.LoopNIn
import Derived.LoopIn
import Derived.Maps.AppendAt
import Derived.Lib.Hide
import Derived.Outline
namespace Go.Proofs.Ytbddggdbhfmlnaa
open Go.RowKit Go.Shelf Go.Rt Go.Rw
attribute [local go_sem] Oper.semAt_some

abbrev FragD := Int × Bool × Int × ByteArray

/-- What is left of a message behind k pieces, and the next piece. -/
def restK (data : ByteArray) (most : Nat) : Nat → ByteArray
  | 0 => data
  | k + 1 => (restK data most k).extract (min most (restK data most k).size) (restK data most k).size
def partK (data : ByteArray) (most k : Nat) : ByteArray := (restK data most k).extract 0 (min most (restK data most k).size)
def manyK (data : ByteArray) (most : Nat) : Nat := max 1 ((data.size + most - 1) / most)
def piecesL (data : ByteArray) (most : Nat) : List (Int × ByteArray) := (List.range (manyK data most)).map fun k : Nat => ((manyK data most : Int) - (k : Int), partK data most k)

theorem piecesL_len (data : ByteArray) (most : Nat) : (piecesL data most).length = manyK data most := by simp [piecesL]
theorem piecesL_get (data : ByteArray) (most k : Nat) (h : k < (piecesL data most).length) : (piecesL data most)[k] = ((manyK data most : Int) - k, partK data most k) := by simp [piecesL]
theorem rest_size (data : ByteArray) (most k : Nat) : (restK data most k).size = data.size - k * most := by
  induction k with
  | zero => simp [restK]
  | succ k ih =>
    simp only [restK, ByteArray.size_extract, ih]
    have : (k + 1) * most = k * most + most := by rw [Nat.succ_mul]
    omega
theorem many_le (data : ByteArray) (most : Nat) (h : 1 ≤ most) : manyK data most ≤ data.size + 1 := by
  unfold manyK
  have : (data.size + most - 1) / most ≤ data.size + most - 1 := Nat.div_le_self _ _
  have h2 : (data.size + most - 1) / most ≤ data.size := by
    rw [Nat.div_le_iff_le_mul (by omega)]
    have : data.size * 1 ≤ data.size * most := Nat.mul_le_mul_left _ h
    omega
  omega

set_option maxRecDepth 100000 in
set_option maxHeartbeats 1000000 in
theorem pieces1_runs (F : Fence) (n : Nat) (h31 : F.fn 31) (hro : F.round = none) (hn : 1 ≤ n) (Bd Bm : Nat) (data : ByteArray) (most : Nat) (hm : 1 ≤ most) (hm2 : most ≤ 4096) (hd : data.size ≤ 262144) :
    SeqRuns F n Try.prog 31 #[.pointer (some ⟨Bd, 0, none⟩), .pointer (some ⟨Bm, 0, none⟩)] (fun x : Int × ByteArray => #[.int .i64 x.1, .string x.2]) (piecesL data most) [Bd, Bm]
      (fun W => Boxed W Bd 9 (.string data) ∧ Boxed W Bm 3 (.int .i64 most)) := by
  intro l J Jx W ⟨bd, bm⟩ hT hJ hJx hY h0
  refine callsIn_of_wp Try.func31 rfl h31 ?_ hro
  simp only [Try.ntmps31, List.size_toArray, List.length_cons, List.length_nil, Nat.reduceAdd, Nat.reduceSub, Array.replicate_succ, Array.replicate_zero, List.push_toArray, List.append_toArray, List.nil_append, List.cons_append]
  have cd := bd.cell
  have cm := bm.cell
  have hN : ((data.size : Int) + most - 1) / most ≤ 1 → (1 : Int) = (manyK data most : Int) - ((0 : Nat) : Int) := by
    intro h
    have e : (((data.size + most - 1) / most : Nat) : Int) = ((data.size : Int) + most - 1) / most := by
      rw [Int.natCast_ediv, Int.natCast_sub (by omega), Int.natCast_add]; rfl
    unfold manyK
    omega
  have hN2 : 1 < ((data.size : Int) + most - 1) / most → ((data.size : Int) + most - 1) / most = (manyK data most : Int) - ((0 : Nat) : Int) := by
    intro h
    have e : (((data.size + most - 1) / most : Nat) : Int) = ((data.size : Int) + most - 1) / most := by
      rw [Int.natCast_ediv, Int.natCast_sub (by omega), Int.natCast_add]; rfl
    unfold manyK
    omega
  have HN := Lib.hid hN
  have HN2 := Lib.hid hN2
  have HT := Lib.hid hT
  have HY := Lib.hid hY
  have hML := many_le data most hm
  obtain ⟨N, hNe⟩ : ∃ N, N = manyK data most := ⟨_, rfl⟩
  rw [← hNe] at hML
  have HNe := Lib.hid hNe
  clear hN hN2 hT hY hNe
  gi_wp2
  all_goals
    gi_loopw [4] (fun p wr => ∃ k : Nat, k ≤ N ∧ p = .int .i64 ((N : Int) - (k : Int)) ∧ J k [Bd, Bm] wr ∧ Boxed wr Bd 9 (.string (restK data most k)) ∧ Boxed wr Bm 3 (.int .i64 most)) (fun p _ => (intOf p).toNat)
    case atStart => first | exact ⟨0, Nat.zero_le _, by rw [HNe.out]; rw [← HN.out ‹_›], h0, bd, bm⟩ | exact ⟨0, Nat.zero_le _, by rw [HNe.out]; rw [← HN2.out ‹_›], h0, bd, bm⟩
    case round =>
      obtain ⟨k, hk, rfl, hj, bd1, bm1⟩ := hrel
      obtain ⟨R, hRe⟩ : ∃ R, R = restK data most k := ⟨_, rfl⟩
      have hR1 : restK data most (k + 1) = R.extract (min most R.size) R.size := by rw [restK, hRe]
      have hP1 : partK data most k = R.extract 0 (min most R.size) := by rw [partK, hRe]
      have hRs : R.size ≤ 262144 := by rw [hRe, rest_size]; omega
      rw [← hRe] at bd1
      clear hRe
      by_cases hlt : k < N
      · have hq := HY.out k (by rw [piecesL_len]; rw [← HNe.out]; exact hlt) [Bd, Bm] wr hj
        simp only [piecesL_get] at hq
        rw [← HNe.out, hP1] at hq
        have cd1 := bd1.cell
        have cm1 := bm1.cell
        have hpos : (0 : Int) < (N : Int) - k := by omega
        have HR1 := Lib.hid hR1
        clear hR1 hP1
        have hBm : Bm ≠ Bd := by
          rintro rfl
          have := bd1.symm.trans bm1
          simp at this
        by_cases hmin : most ≤ R.size
        · rw [Nat.min_eq_left hmin] at hq
          obtain ⟨fn, tmps, assign, body, hy, hR⟩ := hq
          gi_wp2
          refine hR.mono ?_
          rintro e W3 (⟨rfl, hJ3, hk3⟩ | ⟨rfl, hJx3⟩)
          · have bd3 : Boxed W3 Bd 9 (.string R) := (hk3.same Bd (by simp)).trans bd1
            have bm3 : Boxed W3 Bm 3 (.int .i64 most) := (hk3.same Bm (by simp)).trans bm1
            have cd3 := bd3.cell
            have cf3 := bd3.frozen
            gi_wp2
            go_roundw
            case rel =>
              refine ⟨k + 1, by omega, by rw [show ((N : Int) - k - 1) = (N : Int) - ((k + 1 : Nat) : Int) by omega], hJ (k + 1) _ W3 _ _ hJ3 (Only.setCell _ _ _ (by simp)) (fun r hr => .inl hr) ?_, ?_, ?_⟩
              · intro r hr
                simp only [List.mem_cons, List.not_mem_nil, or_false] at hr
                have l1 := bd3.lt
                have l2 := bm3.lt
                rcases hr with rfl | rfl
                · simpa [World.setCell] using l1
                · simpa [World.setCell] using l2
              · rw [HR1.out, Nat.min_eq_left hmin]; exact bd3.set _
              · exact (Below.heap_setCell _ _ _ _ hBm).trans bm3
            case measure => simp [intOf]; omega
          · gi_wp2
            refine bodyPost_ret (results_none rfl _ _ _) rfl ?_
            exact ⟨⟨_, rfl⟩, .inr ⟨k + 1, _, by rw [piecesL_len, ← HNe.out]; omega, hJx3⟩⟩
        · rw [Nat.min_eq_right (by omega), ByteArray.extract_zero_size] at hq
          obtain ⟨fn, tmps, assign, body, hy, hR⟩ := hq
          gi_wp2
          refine hR.mono ?_
          rintro e W3 (⟨rfl, hJ3, hk3⟩ | ⟨rfl, hJx3⟩)
          · have bd3 : Boxed W3 Bd 9 (.string R) := (hk3.same Bd (by simp)).trans bd1
            have bm3 : Boxed W3 Bm 3 (.int .i64 most) := (hk3.same Bm (by simp)).trans bm1
            have cd3 := bd3.cell
            have cf3 := bd3.frozen
            gi_wp2
            go_roundw
            case rel =>
              refine ⟨k + 1, by omega, by rw [show ((N : Int) - k - 1) = (N : Int) - ((k + 1 : Nat) : Int) by omega], hJ (k + 1) _ W3 _ _ hJ3 (Only.setCell _ _ _ (by simp)) (fun r hr => .inl hr) ?_, ?_, ?_⟩
              · intro r hr
                simp only [List.mem_cons, List.not_mem_nil, or_false] at hr
                have l1 := bd3.lt
                have l2 := bm3.lt
                rcases hr with rfl | rfl
                · simpa [World.setCell] using l1
                · simpa [World.setCell] using l2
              · rw [HR1.out, Nat.min_eq_right (by omega), show R.extract R.size R.size = ByteArray.empty by simp]; exact bd3.set _
              · exact (Below.heap_setCell _ _ _ _ hBm).trans bm3
            case measure => simp [intOf]; omega
          · gi_wp2
            refine bodyPost_ret (results_none rfl _ _ _) rfl ?_
            exact ⟨⟨_, rfl⟩, .inr ⟨k + 1, _, by rw [piecesL_len, ← HNe.out]; omega, hJx3⟩⟩
      · have hz : ¬ (0 : Int) < (N : Int) - k := by omega
        clear hR1 hP1
        gi_wp2
        go_end0
        exact ⟨⟨_, rfl⟩, .inl ⟨_, by rw [piecesL_len, ← HNe.out, show N = k by omega]; exact hj⟩⟩

/-- pieces(data, most). -/
theorem pieces_in (F : Fence) (n : Nat) (h25 : F.fn 25) (hro : F.round = none) (data : ByteArray) (most : Int) (w : World) :
    CallsIn F n Try.prog 25 #[.string data, .int .i64 most] w fun e w' => e = .returned (.func (.func 31) #[] #[.pointer (some ⟨w.heap.size, 0, none⟩), .pointer (some ⟨w.heap.size + 1, 0, none⟩)]) ∧ w' = (w.alloc (.cells #[.string data] 9)).alloc (.cells #[.int .i64 most] 3) := by
  refine callsIn_of_wp Try.func25 rfl h25 ?_ hro
  simp only [Try.ntmps25, List.size_toArray, List.length_cons, List.length_nil, Nat.reduceAdd, Nat.reduceSub, Array.replicate_succ, Array.replicate_zero, List.push_toArray, List.append_toArray, List.nil_append, List.cons_append]
  gi_wp2
  go_ret
  exact ⟨rfl, rfl⟩

end Go.Proofs.Ytbddggdbhfmlnaa
