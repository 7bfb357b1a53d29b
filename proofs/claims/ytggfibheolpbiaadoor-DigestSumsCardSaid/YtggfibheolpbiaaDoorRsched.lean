/- The reference's Schedule. -/
import Derived.Test.YtggfibheolpbiaaDoorRstart
namespace Go.Proofs.YtggfibheolpbiaaDoor
open Go.RowKit Go.Rt Go.Rw

def rrK (k : Int) (x : Nat) : Nat := rotr k.toNat x
theorem rrK_any (k : Int) (x : Nat) (w : World) (hx : x < 4294967296) (h1 : 1 ≤ k) (h2 : k ≤ 31) :
    Calls Tryd.prog 33 #[.int .u32 x, .int .u64 k] w fun e w' => e = .returned (.int .u32 (rrK k x : Nat)) ∧ w' = w :=
  rr_any k.toNat k x w (by omega) hx (by omega) (by omega)
def rsK (k : Int) (x : Nat) : Nat := x / 2 ^ k.toNat
theorem rsK_any (k : Int) (x : Nat) (w : World) (hx : x < 4294967296) (h1 : 1 ≤ k) (h2 : k ≤ 31) :
    Calls Tryd.prog 35 #[.int .u32 x, .int .u64 k] w fun e w' => e = .returned (.int .u32 (rsK k x : Nat)) ∧ w' = w :=
  rs_any k.toNat k x w (by omega) hx (by omega)
def partF (p : List Nat) (k : Nat) : Nat → Nat
  | 0 => 0
  | j + 1 => 256 * partF p k j + p.getD (4 * k + j) 0
theorem und41 : Tryd.prog.underlying 41 = some (.slice 31) := u41
theorem part_bd (p : List Nat) (hb : ∀ x ∈ p, x < 256) (k j : Nat) (hj : j ≤ 3) : partF p k j < 16777216 := by
  have h : ∀ j, p.getD j 0 < 256 := by
    intro j
    rw [List.getD_eq_getElem?_getD]
    cases hj : p[j]? with
    | none => simp
    | some v => exact hb v (List.mem_of_getElem? hj)
  have h0 := h (4 * k); have h1 := h (4 * k + 1); have h2 := h (4 * k + 2)
  have : j = 0 ∨ j = 1 ∨ j = 2 ∨ j = 3 := by omega
  rcases this with rfl | rfl | rfl | rfl <;> simp only [partF, Nat.add_zero] <;> omega
theorem part_end (p : List Nat) (k : Nat) : partF p k 4 = wordF p k := by
  simp only [partF, wordF, Nat.add_zero]
  omega
theorem bytes_at (b : ByteArray) (i : Nat) (h : i < b.size) : (bytesN b).getD i 0 = b[i].toNat := by
  rw [List.getD_eq_getElem?_getD, List.getElem?_eq_getElem (by rw [bytesN_len]; exact h)]
  simp only [bytesN, List.getElem_map, Option.getD_some]
  rfl
theorem low_bits2 (x : Nat) (h : x < 4294967296) : bits .xor .u32 (bits .xor .u32 ↑(rrK 7 x) ↑(rrK 18 x)) ↑(rsK 3 x) = (lowF x : Int) := by
  have e : ((rsK 3 x : Nat) : Int) = (x : Int) / 8 := by rw [show rsK 3 x = x / 8 from rfl]; omega
  rw [e, show rrK 7 x = rotr 7 x from rfl, show rrK 18 x = rotr 18 x from rfl]
  exact low_bits x h
theorem high_bits2 (x : Nat) (h : x < 4294967296) : bits .xor .u32 (bits .xor .u32 ↑(rrK 17 x) ↑(rrK 19 x)) ↑(rsK 10 x) = (highF x : Int) := by
  have e : ((rsK 10 x : Nat) : Int) = (x : Int) / 1024 := by rw [show rsK 10 x = x / 1024 from rfl]; omega
  rw [e, show rrK 17 x = rotr 17 x from rfl, show rrK 19 x = rotr 19 x from rfl]
  exact high_bits x h

set_option maxRecDepth 100000 in
set_option maxHeartbeats 1000000 in
theorem rsched_any (b : ByteArray) (hb : b.size = 64) (w : World) :
    Calls Tryd.prog 32 #[.string b] w fun e w' => ∃ v, e = .returned v ∧ Sl w' w.heap.size 31 1 uc v (schedL (bytesN b) 64) ∧ Below w.heap.size w w' := by
  have hpb := bytesN_lt b
  have HBA := Lib.hid (bytes_at b)
  have HLEN := Lib.hid (schedL_len (bytesN b))
  have HSL := Lib.hid (sched_lt (bytesN b) hpb)
  have HPB := Lib.hid (part_bd (bytesN b) hpb)
  have HPE := Lib.hid (part_end (bytesN b))
  clear hpb
  obtain ⟨p, hp⟩ : ∃ p, p = bytesN b := ⟨_, rfl⟩
  rw [← hp] at HBA HLEN HSL HPB HPE ⊢
  clear hp
  go_enter Tryd.func32, Tryd.ntmps32
  go_wp2_with fail
  go_loopw [3, 4] (fun s i wr => ∃ k : Nat, k ≤ 64 ∧ i = .int .i64 k ∧ Sl wr w.heap.size 31 1 uc s (schedL p k) ∧ Below w.heap.size w wr) (fun _ i _ => 64 - (intOf i).toNat)
  case atStart => exact ⟨0, Nat.zero_le _, rfl, Sl.nil _ _ _ _ _, Below.refl _ _⟩
  case round =>
    obtain ⟨k, hk, rfl, s1, b1⟩ := hrel
    have hkl := HLEN.out k
    obtain ⟨_, sb, cb, rfl⟩ := (s1.at uc_len).len
    rw [hkl] at s1 ⊢
    have hw0 := b1.size
    by_cases hlt : k < 64
    · by_cases h16 : k < 16
      · have hsucc : Hid (schedL p (k + 1) = schedL p k ++ [wordF p k]) := by refine Lib.hid ?_; rw [schedL, if_pos h16]
        obtain ⟨x, hx⟩ : ∃ x, x = wordF p k := ⟨_, rfl⟩
        obtain ⟨g, cg, W2, hrun, s3, hgrow, hwhere⟩ := Sl.push (P := Tryd.prog) (t := 41) (ty := 41) (s1.only (Only.alloc [] wr (.cells (uc x).toArray 31)) (fun g _ => by simp)) und41 info31 rfl (by omega) uc_len uc_one x (World.alloc_heap_new wr _) (by rw [hkl]; omega) (by rw [hkl]; omega) (by simp; omega) 1
        rw [hkl] at hrun s3
        have HS3 : Hid (Sl W2 w.heap.size 31 1 uc (.slice (some ⟨g, 0, none⟩) (k + 1) cg) (schedL p (k + 1))) := by
          refine Lib.hid ?_; rw [hsucc.out, ← hx]; exact s3
        have HB3 : Hid (Below w.heap.size w W2) := Lib.hid (b1.trans (((Below.refl w.heap.size wr).alloc hw0 _).grown hgrow (by simp; omega) (fun r hr => (s1.lt r hr).1)))
        simp only [uc] at hrun
        have HRN := Lib.hid hrun
        have HX := Lib.hid hx
        clear hrun s3 hgrow hwhere s1 b1 hx hsucc
        have k1 : (k : Int) < 64 := by omega
        have k2 : (k : Int) < 16 := by omega
        go_wp2_with fail
        go_loopw [5, 6] (fun n kk wq => ∃ j : Nat, j ≤ 4 ∧ n = .int .u32 (partF p k j) ∧ kk = .int .i64 ((4 * k + j : Nat) : Int) ∧ wr = wq) (fun _ kk _ => 4 * k + 4 - (intOf kk).toNat)
        case atStart => exact ⟨0, by omega, rfl, by rw [Nat.add_zero, Int.natCast_mul]; rfl, rfl⟩
        case round =>
          obtain ⟨j, hj, rfl, rfl, rfl⟩ := hrel
          by_cases hj4 : j < 4
          · have hpb := HPB.out k j (by omega)
            have hba := HBA.out (4 * k + j) (by omega)
            have hps : partF p k (j + 1) = 256 * partF p k j + b[4 * k + j].toNat := by rw [partF, hba]
            have hcl : b[4 * k + j].toNat < 256 := b[4 * k + j].toNat_lt
            obtain ⟨y, hy⟩ : ∃ y, y = partF p k j := ⟨_, rfl⟩
            rw [← hy] at hpb hps ⊢
            have HPS := Lib.hid hps
            clear hy hps hba
            go_wp2_with fail
            go_roundw
            case rel => exact ⟨j + 1, by omega, by rw [HPS.out]; go_num, by go_num, trivial⟩
            case measure => simp [intOf]; omega
          · obtain rfl : j = 4 := by omega
            rw [HPE.out k, ← HX.out]
            go_wp2_with (at_builtin; refine wpList_append_run rfl _ _ 41 41 rfl rfl rfl HRN.out ?_)
            go_roundw
            case rel => exact ⟨k + 1, by omega, by go_num, HS3.out, HB3.out⟩
            case measure => simp [intOf]; omega
      · have hsucc : Hid (schedL p (k + 1) = schedL p k ++ [nextF (schedL p k) k]) := by refine Lib.hid ?_; rw [schedL, if_neg h16]
        obtain ⟨gs, rfl⟩ : ∃ gs, sb = some ⟨gs, 0, none⟩ := by
          rcases s1.form with ⟨e, h0⟩ | ⟨g0, cap0, e, _⟩
          · rw [h0] at hkl; simp at hkl; omega
          · simp at e; exact ⟨g0, e.1⟩
        have gt : ∀ i, i < k → wr.cell? ⟨gs, i, none⟩ = some (wv ((schedL p k).getD i 0)) := by
          intro i hi
          have hi' : i < (schedL p k).length := by rw [hkl]; exact hi
          have := s1.cell uc_len i 0 hi' (by omega)
          rw [Nat.mul_one, Nat.add_zero] at this
          rw [this, List.getD_eq_getElem?_getD, List.getElem?_eq_getElem hi']
          rfl
        have c16 := gt (k - 16) (by omega)
        have c15 := gt (k - 15) (by omega)
        have c7 := gt (k - 7) (by omega)
        have c2 := gt (k - 2) (by omega)
        have HN : Hid (nextF (schedL p k) k = _) := Lib.hid (by unfold nextF; rfl)
        have l15 := HSL.out k (k - 15)
        have l2 := HSL.out k (k - 2)
        have l16 := HSL.out k (k - 16)
        have l7 := HSL.out k (k - 7)
        generalize (schedL p k).getD (k - 16) 0 = x16 at *
        generalize (schedL p k).getD (k - 15) 0 = x15 at *
        generalize (schedL p k).getD (k - 7) 0 = x7 at *
        generalize (schedL p k).getD (k - 2) 0 = x2 at *
        have k0 : (0 : Int) ≤ (k : Int) := by omega
        have k1 : (k : Int) < 64 := by omega
        have m1 : (16 : Int) ≤ (k : Int) := by omega
        have m2 : (15 : Int) ≤ (k : Int) := by omega
        have m3 : (7 : Int) ≤ (k : Int) := by omega
        have m4 : (2 : Int) ≤ (k : Int) := by omega
        have m5 : (k : Int) - 16 < (k : Int) := by omega
        have m6 : (k : Int) - 15 < (k : Int) := by omega
        have m7 : (k : Int) - 7 < (k : Int) := by omega
        have m8 : (k : Int) - 2 < (k : Int) := by omega
        have q1 : IntKind.i64.wrap ((k : Int) - 16) = (k : Int) - 16 := IntWalk.i64_in _ (by omega)
        have q2 : IntKind.i64.wrap ((k : Int) - 15) = (k : Int) - 15 := IntWalk.i64_in _ (by omega)
        have q3 : IntKind.i64.wrap ((k : Int) - 7) = (k : Int) - 7 := IntWalk.i64_in _ (by omega)
        have q4 : IntKind.i64.wrap ((k : Int) - 2) = (k : Int) - 2 := IntWalk.i64_in _ (by omega)
        have t1 : ((k : Int) - 16).toNat = k - 16 := by omega
        have t2 : ((k : Int) - 15).toNat = k - 15 := by omega
        have t3 : ((k : Int) - 7).toNat = k - 7 := by omega
        have t4 : ((k : Int) - 2).toNat = k - 2 := by omega
        have HS1 := Lib.hid s1
        have HB1 := Lib.hid b1
        clear gt s1 b1
        go_upto_region 14 with fail
        go_quiet (first
          | (go_at_call 33; exact Calls.quiet_of_same (rrK_any _ _ _ (by first | exact l15 | exact l2) (by decide) (by decide)))
          | (go_at_call 35; exact Calls.quiet_of_same (rsK_any _ _ _ (by first | exact l15 | exact l2) (by decide) (by decide))))
        rw [low_bits2 x15 l15, high_bits2 x2 l2]
        have hv : (((x16 : Int) + (lowF x15 : Int) + (x7 : Int)) % 4294967296 + (highF x2 : Int)) % 4294967296 = ((nextF (schedL p k) k : Nat) : Int) := by
          rw [HN.out]; omega
        rw [hv]
        obtain ⟨x, hx⟩ : ∃ x, x = nextF (schedL p k) k := ⟨_, rfl⟩
        rw [← hx]
        obtain ⟨wq, hwq⟩ : ∃ wq, wq = wr.drewN nq := ⟨_, rfl⟩
        have s1 : Sl wq w.heap.size 31 1 uc (.slice (some ⟨gs, 0, none⟩) k cb) (schedL p k) := by rw [hwq]; exact HS1.out.same (Nat.le_refl _) (fun _ _ => rfl)
        have b1 : Below w.heap.size w wq := by rw [hwq]; exact ⟨HB1.out.os, HB1.out.tape, HB1.out.output, HB1.out.size, HB1.out.block⟩
        rw [← hwq]
        have hw1 := b1.size
        obtain ⟨g, cg, W2, hrun, s3, hgrow, hwhere⟩ := Sl.push (P := Tryd.prog) (t := 41) (ty := 41) (s1.only (Only.alloc [] wq (.cells (uc x).toArray 31)) (fun g _ => by simp)) und41 info31 rfl (by omega) uc_len uc_one x (World.alloc_heap_new wq _) (by rw [hkl]; omega) (by rw [hkl]; omega) (by simp; omega) 1
        rw [hkl] at hrun s3
        have HS3 : Hid (Sl W2 w.heap.size 31 1 uc (.slice (some ⟨g, 0, none⟩) (k + 1) cg) (schedL p (k + 1))) := by
          refine Lib.hid ?_; rw [hsucc.out, ← hx]; exact s3
        have HB3 : Hid (Below w.heap.size w W2) := Lib.hid (b1.trans (((Below.refl w.heap.size wq).alloc hw1 _).grown hgrow (by simp; omega) (fun r hr => (s1.lt r hr).1)))
        simp only [uc] at hrun
        have HRN := Lib.hid hrun
        clear hrun s3 hgrow hwhere s1 b1 hx hsucc hwq hv HN HS1 HB1
        go_wp2_with (at_builtin; refine wpList_append_run rfl _ _ 41 41 rfl rfl rfl HRN.out ?_)
        go_roundw
        case rel => exact ⟨k + 1, by omega, by go_num, HS3.out, HB3.out⟩
        case measure => simp [intOf]; omega
    · obtain rfl : k = 64 := by omega
      have HS1 := Lib.hid s1
      have HB1 := Lib.hid b1
      clear s1 b1
      go_wp2_with fail
      go_ret
      exact ⟨_, rfl, HS1.out, HB1.out⟩
end Go.Proofs.YtggfibheolpbiaaDoor
