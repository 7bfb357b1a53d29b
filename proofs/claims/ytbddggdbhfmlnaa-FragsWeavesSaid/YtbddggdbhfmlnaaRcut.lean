/- The reference's Cut hands back the same list. -/
import Derived.Test.YtbddggdbhfmlnaaSmall
import Derived.LoopTactic
namespace Go.Proofs.Ytbddggdbhfmlnaa
open Go.RowKit Go.Rt Go.Rw

/-- The list as the reference's first loop makes it: Left is still 0. -/
def rawL (id : Int) (data : ByteArray) (most n : Nat) : List FragD := (List.range n).map fun k : Nat => (id, decide (k = 0), 0, partK data most k)
theorem rawL_len (id : Int) (data : ByteArray) (most n : Nat) : (rawL id data most n).length = n := by simp [rawL]
theorem rawL_succ (id : Int) (data : ByteArray) (most n : Nat) : rawL id data most (n + 1) = rawL id data most n ++ [(id, decide (n = 0), 0, partK data most n)] := by simp [rawL, List.range_succ]
/-- .. and as its second loop has filled it up to i. -/
def midL (id : Int) (data : ByteArray) (most n i : Nat) : List FragD := (List.range n).map fun k : Nat => (id, decide (k = 0), if k < i then (n : Int) - (k : Int) else 0, partK data most k)
theorem midL_len (id : Int) (data : ByteArray) (most n i : Nat) : (midL id data most n i).length = n := by simp [midL]
theorem midL_zero (id : Int) (data : ByteArray) (most n : Nat) : midL id data most n 0 = rawL id data most n := by simp [midL, rawL]
theorem midL_end (id : Int) (data : ByteArray) (most : Nat) : midL id data most (manyK data most) (manyK data most) = cutL id data most := by
  unfold midL cutL
  refine List.map_congr_left fun k hk => ?_
  rw [if_pos (by simpa using hk)]
theorem midL_get (id : Int) (data : ByteArray) (most n i k : Nat) (hk : k < (midL id data most n i).length) : (midL id data most n i)[k] = (id, decide (k = 0), if k < i then (n : Int) - (k : Int) else 0, partK data most k) := by simp [midL]
theorem midL_set (id : Int) (data : ByteArray) (most n i : Nat) (_ : i < n) : (midL id data most n i).set i (id, decide (i = 0), (n : Int) - (i : Int), partK data most i) = midL id data most n (i + 1) := by
  apply List.ext_getElem
  · simp [midL_len]
  · intro k h1 h2
    rw [List.getElem_set]
    split
    · rename_i e; subst e; rw [midL_get, if_pos (by omega)]
    · rename_i e; rw [midL_get, midL_get]
      by_cases hk : k < i
      · rw [if_pos hk, if_pos (by omega)]
      · rw [if_neg hk, if_neg (by omega)]

/-- After k pieces something is left exactly if more pieces come. -/
theorem rest_more (data : ByteArray) (most k : Nat) (hm : 1 ≤ most) (hk : 1 ≤ k) : 0 < (restK data most k).size ↔ k < manyK data most := by
  rw [rest_size]
  have h2 : manyK data most = max 1 ((data.size + most - 1) / most) := rfl
  have h3 : k < (data.size + most - 1) / most ↔ k * most < data.size := by
    rw [Nat.lt_iff_add_one_le, Nat.le_div_iff_mul_le (by omega), Nat.succ_mul]
    omega
  omega
theorem many_pos (data : ByteArray) (most : Nat) : 1 ≤ manyK data most := by unfold manyK; omega

set_option maxRecDepth 100000 in
set_option maxHeartbeats 2000000 in
theorem rcut_ok (id : Int) (data : ByteArray) (most : Nat) (w : World) (hi1 : 1 ≤ id) (hi2 : id ≤ 2147483647) (hm : 1 ≤ most) (hm2 : most ≤ 4096) (hd : data.size ≤ 262144) :
    Calls Try.prog 13 #[.int .i64 id, .string data, .int .i64 most] w fun e w' => ∃ v, e = .returned (.tuple #[v, .int .i64 0]) ∧ Sl w' w.heap.size 30 4 fc v (cutL id data most) ∧ Below w.heap.size w w' := by
  have d1 : ¬ id < 1 := by omega
  have d2 : ¬ 2147483647 < id := by omega
  have d3 : ¬ (most : Int) < 1 := by omega
  have d4 : ¬ 4096 < (most : Int) := by omega
  have d5 : ¬ 262144 < (data.size : Int) := by omega
  have hml := many_le data most hm
  have hmp := many_pos data most
  have HR := Lib.hid (rest_more data most)
  have HE := Lib.hid (midL_end id data most)
  obtain ⟨N, hNe⟩ : ∃ N, N = manyK data most := ⟨_, rfl⟩
  rw [← hNe] at hml hmp HR HE
  clear hNe
  go_enter Try.func13, Try.ntmps13
  go_wp2
  go_loopw [1, 8] (fun s v wr => ∃ k : Nat, k ≤ N ∧ s = .string (restK data most k) ∧ Sl wr w.heap.size 30 4 fc v (rawL id data most k) ∧ Below w.heap.size w wr) (fun s v _ => match v with | .slice _ n _ => N - n | _ => 0)
  case atStart => exact ⟨0, Nat.zero_le _, rfl, Sl.nil _ _ _ _ _, Below.refl _ _⟩
  case round =>
    obtain ⟨k, hk, rfl, s1, bl⟩ := hrel
    have hw0 := bl.size
    obtain ⟨R, hRe⟩ : ∃ R, R = restK data most k := ⟨_, rfl⟩
    have hR1 : restK data most (k + 1) = R.extract (min most R.size) R.size := by rw [restK, hRe]
    have hP1 : partK data most k = R.extract 0 (min most R.size) := by rw [partK, hRe]
    have hRs : R.size ≤ 262144 := by rw [hRe, rest_size]; omega
    have hmore := fun h => HR.out k hm h
    rw [← hRe] at hmore ⊢
    clear hRe
    obtain ⟨sa, cp, hv⟩ : ∃ sa cp, u8 = .slice sa k cp := by
      rcases s1.form with ⟨rfl, h0⟩ | ⟨g0, cap0, rfl, _⟩
      · have := rawL_len id data most k; rw [h0] at this; exact ⟨none, 0, by rw [← this]; rfl⟩
      · exact ⟨_, _, by rw [rawL_len]⟩
    have HS1 := Lib.hid s1
    have HB := Lib.hid bl
    subst hv
    by_cases hlt : k < N
    · by_cases hk0 : k = 0
      · have hk1 : ((k : Int) == 0) = true := by simp [hk0]
        have hf : decide (k = 0) = true := by simp [hk0]
        by_cases hmin : most ≤ R.size
        · rw [Nat.min_eq_left hmin] at hR1 hP1
          obtain ⟨g, cap, W2, hrun, s2, hgrow, hwhere⟩ := Sl.push (P := Try.prog) (t := 23) (ty := 23) (s1.only (Only.alloc [] wr (.cells (fc (id, true, 0, R.extract 0 most)).toArray 30)) (fun g _ => by simp)) u23 info30 rfl (by omega) fc_len fc_one (id, true, 0, R.extract 0 most) (World.alloc_heap_new wr _) (by rw [rawL_len]; omega) (by rw [rawL_len]; omega) (by simp; omega) 1
          rw [rawL_len] at hrun s2
          have HS2 : Hid (Sl W2 w.heap.size 30 4 fc (.slice (some ⟨g, 0, none⟩) (k + 1) cap) (rawL id data most (k + 1))) := by
            refine Lib.hid ?_; rw [rawL_succ, hP1, hf]; exact s2
          have HB2 : Hid (Below w.heap.size w W2) := by
            refine bl.trans ?_
            refine ((Below.refl w.heap.size wr).alloc hw0 _).grown hgrow (by simp; omega) (fun r hr => (s1.lt r hr).1)
          have HR2 : Hid (restK data most (k + 1) = R.extract most R.size) := by refine Lib.hid ?_; rw [hR1]; try simp
          simp only [fc] at hrun
          have HRN := Lib.hid hrun
          clear hrun s2 hgrow hwhere s1 bl hR1 hP1 hmore hf hk0
          go_wp2_with (at_builtin; refine wpList_append_run rfl _ _ 23 23 rfl rfl rfl HRN.out ?_)
          go_roundw
          case rel => exact ⟨k + 1, by omega, by rw [HR2.out], HS2.out, HB2.out⟩
          case measure => simp; omega
        · rw [Nat.min_eq_right (by omega), ByteArray.extract_zero_size] at hP1
          rw [Nat.min_eq_right (by omega)] at hR1
          obtain ⟨g, cap, W2, hrun, s2, hgrow, hwhere⟩ := Sl.push (P := Try.prog) (t := 23) (ty := 23) (s1.only (Only.alloc [] wr (.cells (fc (id, true, 0, R)).toArray 30)) (fun g _ => by simp)) u23 info30 rfl (by omega) fc_len fc_one (id, true, 0, R) (World.alloc_heap_new wr _) (by rw [rawL_len]; omega) (by rw [rawL_len]; omega) (by simp; omega) 1
          rw [rawL_len] at hrun s2
          have HS2 : Hid (Sl W2 w.heap.size 30 4 fc (.slice (some ⟨g, 0, none⟩) (k + 1) cap) (rawL id data most (k + 1))) := by
            refine Lib.hid ?_; rw [rawL_succ, hP1, hf]; exact s2
          have HB2 : Hid (Below w.heap.size w W2) := by
            refine bl.trans ?_
            refine ((Below.refl w.heap.size wr).alloc hw0 _).grown hgrow (by simp; omega) (fun r hr => (s1.lt r hr).1)
          have HR2 : Hid (restK data most (k + 1) = ByteArray.empty) := by refine Lib.hid ?_; rw [hR1]; try simp
          simp only [fc] at hrun
          have HRN := Lib.hid hrun
          clear hrun s2 hgrow hwhere s1 bl hR1 hP1 hmore hf hk0
          go_wp2_with (at_builtin; refine wpList_append_run rfl _ _ 23 23 rfl rfl rfl HRN.out ?_)
          go_roundw
          case rel => exact ⟨k + 1, by omega, by rw [HR2.out], HS2.out, HB2.out⟩
          case measure => simp; omega
      · have hsz : 0 < R.size := (hmore (by omega)).2 hlt
        have hf : decide (k = 0) = false := by simp [hk0]
        have hk1 : ((k : Int) == 0) = false := by simp; omega
        have hsz' : (0 : Int) < R.size := by omega
        by_cases hmin : most ≤ R.size
        · rw [Nat.min_eq_left hmin] at hR1 hP1
          obtain ⟨g, cap, W2, hrun, s2, hgrow, hwhere⟩ := Sl.push (P := Try.prog) (t := 23) (ty := 23) (s1.only (Only.alloc [] wr (.cells (fc (id, false, 0, R.extract 0 most)).toArray 30)) (fun g _ => by simp)) u23 info30 rfl (by omega) fc_len fc_one (id, false, 0, R.extract 0 most) (World.alloc_heap_new wr _) (by rw [rawL_len]; omega) (by rw [rawL_len]; omega) (by simp; omega) 1
          rw [rawL_len] at hrun s2
          have HS2 : Hid (Sl W2 w.heap.size 30 4 fc (.slice (some ⟨g, 0, none⟩) (k + 1) cap) (rawL id data most (k + 1))) := by
            refine Lib.hid ?_; rw [rawL_succ, hP1, hf]; exact s2
          have HB2 : Hid (Below w.heap.size w W2) := by
            refine bl.trans ?_
            refine ((Below.refl w.heap.size wr).alloc hw0 _).grown hgrow (by simp; omega) (fun r hr => (s1.lt r hr).1)
          have HR2 : Hid (restK data most (k + 1) = R.extract most R.size) := by refine Lib.hid ?_; rw [hR1]; try simp
          simp only [fc] at hrun
          have HRN := Lib.hid hrun
          clear hrun s2 hgrow hwhere s1 bl hR1 hP1 hmore hf hk0
          go_wp2_with (at_builtin; refine wpList_append_run rfl _ _ 23 23 rfl rfl rfl HRN.out ?_)
          go_roundw
          case rel => exact ⟨k + 1, by omega, by rw [HR2.out], HS2.out, HB2.out⟩
          case measure => simp; omega
        · rw [Nat.min_eq_right (by omega), ByteArray.extract_zero_size] at hP1
          rw [Nat.min_eq_right (by omega)] at hR1
          obtain ⟨g, cap, W2, hrun, s2, hgrow, hwhere⟩ := Sl.push (P := Try.prog) (t := 23) (ty := 23) (s1.only (Only.alloc [] wr (.cells (fc (id, false, 0, R)).toArray 30)) (fun g _ => by simp)) u23 info30 rfl (by omega) fc_len fc_one (id, false, 0, R) (World.alloc_heap_new wr _) (by rw [rawL_len]; omega) (by rw [rawL_len]; omega) (by simp; omega) 1
          rw [rawL_len] at hrun s2
          have HS2 : Hid (Sl W2 w.heap.size 30 4 fc (.slice (some ⟨g, 0, none⟩) (k + 1) cap) (rawL id data most (k + 1))) := by
            refine Lib.hid ?_; rw [rawL_succ, hP1, hf]; exact s2
          have HB2 : Hid (Below w.heap.size w W2) := by
            refine bl.trans ?_
            refine ((Below.refl w.heap.size wr).alloc hw0 _).grown hgrow (by simp; omega) (fun r hr => (s1.lt r hr).1)
          have HR2 : Hid (restK data most (k + 1) = ByteArray.empty) := by refine Lib.hid ?_; rw [hR1]; try simp
          simp only [fc] at hrun
          have HRN := Lib.hid hrun
          clear hrun s2 hgrow hwhere s1 bl hR1 hP1 hmore hf hk0
          go_wp2_with (at_builtin; refine wpList_append_run rfl _ _ 23 23 rfl rfl rfl HRN.out ?_)
          go_roundw
          case rel => exact ⟨k + 1, by omega, by rw [HR2.out], HS2.out, HB2.out⟩
          case measure => simp; omega
    · have hsz : ¬ 0 < R.size := fun h => hlt ((hmore (by omega)).1 h)
      have hk1 : ((k : Int) == 0) = false := by simp; omega
      have hsz' : ¬ (0 : Int) < R.size := by omega
      obtain rfl : k = N := by omega
      obtain ⟨g, rfl⟩ : ∃ g, sa = some ⟨g, 0, none⟩ := by
        rcases s1.form with ⟨e, h0⟩ | ⟨g0, cap0, e, _⟩
        · have := rawL_len id data most k; rw [h0] at this; simp at this; omega
        · simp at e; exact ⟨g0, e.1⟩
      clear hR1 hP1 hmore s1 bl hsz
      go_wp2
      go_loopw [10] (fun p wq => ∃ i : Nat, i ≤ k ∧ p = .int .i64 i ∧ Sl wq w.heap.size 30 4 fc (.slice (some ⟨g, 0, none⟩) k cp) (midL id data most k i) ∧ Below w.heap.size w wq) (fun p _ => k - (intOf p).toNat)
      case atStart => exact ⟨0, Nat.zero_le _, rfl, by rw [midL_zero]; exact HS1.out, HB.out⟩
      case round =>
        obtain ⟨i, hi, rfl, s2, b2⟩ := hrel
        by_cases hil : i < k
        · have c2 := s2.cell fc_len i 2 (by rw [midL_len]; exact hil) (by omega)
          have f2 := s2.frozen (i * 4 + 2)
          have hg := s2.lt g rfl
          have HS3 : Hid (Sl (wr.setCell ⟨g, i * 4 + 2, none⟩ (.int .i64 ((k : Int) - (i : Int)))) w.heap.size 30 4 fc (.slice (some ⟨g, 0, none⟩) k cp) (midL id data most k (i + 1))) := by
            refine Lib.hid ?_
            have s2' : Sl wr w.heap.size 30 4 fc (.slice (some ⟨g, 0, none⟩) (midL id data most k i).length cp) (midL id data most k i) := by rw [midL_len]; exact s2
            have := s2'.store fc_len i 2 (by rw [midL_len]; exact hil) (by omega) (.int .i64 ((k : Int) - (i : Int))) (id, decide (i = 0), (k : Int) - (i : Int), partK data most i) (by rw [midL_get]; rfl)
            rw [midL_set _ _ _ _ _ hil, midL_len] at this
            exact this
          have HB3 : Hid (Below w.heap.size w (wr.setCell ⟨g, i * 4 + 2, none⟩ (.int .i64 ((k : Int) - (i : Int))))) := b2.setCell (p := ⟨g, i * 4 + 2, none⟩) hg.1 _
          simp only [midL_get, fc, List.getElem?_cons_zero, List.getElem?_cons_succ] at c2
          clear s2 b2
          go_wp2
          go_roundw
          case rel => exact ⟨i + 1, by omega, by go_num, HS3.out, HB3.out⟩
          case measure => simp [intOf]; omega
        · obtain rfl : i = k := by omega
          rw [HE.out] at s2
          go_wp2
          go_ret2
          exact ⟨_, rfl, s2, b2⟩
end Go.Proofs.Ytbddggdbhfmlnaa
