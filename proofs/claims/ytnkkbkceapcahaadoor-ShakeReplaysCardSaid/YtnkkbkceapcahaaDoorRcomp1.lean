/- The reference's Schedule. The reference's compress. -/
import Derived.Test.YtnkkbkceapcahaaDoorRprim1
import Derived.StillTailTactics
namespace Go.Proofs.YtnkkbkceapcahaaDoor
open Go.RowKit Go.Rt Go.Rw

def rrK (k : Int) (x : Nat) : Nat := rotr k.toNat x
theorem rrK_any (k : Int) (x : Nat) (w : World) (hx : x < 4294967296) (h1 : 1 ≤ k) (h2 : k ≤ 31) :
    Calls Tryd.prog 71 #[.int .u32 x, .int .u64 k] w fun e w' => e = .returned (.int .u32 (rrK k x : Nat)) ∧ w' = w :=
  rr_any k.toNat k x w (by omega) hx (by omega) (by omega)
def rsK (k : Int) (x : Nat) : Nat := x / 2 ^ k.toNat
theorem rsK_any (k : Int) (x : Nat) (w : World) (hx : x < 4294967296) (h1 : 1 ≤ k) (h2 : k ≤ 31) :
    Calls Tryd.prog 75 #[.int .u32 x, .int .u64 k] w fun e w' => e = .returned (.int .u32 (rsK k x : Nat)) ∧ w' = w :=
  rs_any k.toNat k x w (by omega) hx (by omega)
def partF (p : List Nat) (k : Nat) : Nat → Nat
  | 0 => 0
  | j + 1 => 256 * partF p k j + p.getD (4 * k + j) 0
theorem und41 : Tryd.prog.underlying 98 = some (.slice 100) := u41
theorem part_bd (p : List Nat) (hb : ∀ x ∈ p, x < 256) (k j : Nat) (hj : j ≤ 3) : partF p k j < 16777216 := by
  have h : ∀ j, p.getD j 0 < 256 := by
    intro j
    rw [List.getD_eq_getElem?_getD]
    cases hj : p[j]? with
    | none => simp
    | some v => exact hb v (List.mem_of_getElem? hj)
  have h0 := h (4 * k); have h1 := h (4 * k + 1); have h2 := h (4 * k + 2)
  have : j = 0 ∨ j = 1 ∨ j = 2 ∨ j = 3 := by omega
  rcases this with rfl | rfl | rfl | rfl <;> simp only [partF, Nat.add_zero] <;> omega
theorem part_end (p : List Nat) (k : Nat) : partF p k 4 = wordF p k := by
  simp only [partF, wordF, Nat.add_zero]
  omega
theorem bytes_at (b : ByteArray) (i : Nat) (h : i < b.size) : (bytesN b).getD i 0 = b[i].toNat := by
  rw [List.getD_eq_getElem?_getD, List.getElem?_eq_getElem (by rw [bytesN_len]; exact h)]
  simp only [bytesN, List.getElem_map, Option.getD_some]
  rfl
theorem low_bits2 (x : Nat) (h : x < 4294967296) : bits .xor .u32 (bits .xor .u32 ↑(rrK 7 x) ↑(rrK 18 x)) ↑(rsK 3 x) = (lowF x : Int) := by
  have e : ((rsK 3 x : Nat) : Int) = (x : Int) / 8 := by rw [show rsK 3 x = x / 8 from rfl]; omega
  rw [e, show rrK 7 x = rotr 7 x from rfl, show rrK 18 x = rotr 18 x from rfl]
  exact low_bits x h
theorem high_bits2 (x : Nat) (h : x < 4294967296) : bits .xor .u32 (bits .xor .u32 ↑(rrK 17 x) ↑(rrK 19 x)) ↑(rsK 10 x) = (highF x : Int) := by
  have e : ((rsK 10 x : Nat) : Int) = (x : Int) / 1024 := by rw [show rsK 10 x = x / 1024 from rfl]; omega
  rw [e, show rrK 17 x = rotr 17 x from rfl, show rrK 19 x = rotr 19 x from rfl]
  exact high_bits x h

set_option maxRecDepth 100000 in
set_option maxHeartbeats 1000000 in
theorem rsched_any (b : ByteArray) (hb : b.size = 64) (w : World) :
    Calls Tryd.prog 70 #[.string b] w fun e w' => ∃ v, e = .returned v ∧ Sl w' w.heap.size 100 1 uc v (schedL (bytesN b) 64) ∧ Below w.heap.size w w' := by
  have hpb := bytesN_lt b
  have HBA := Lib.hid (bytes_at b)
  have HLEN := Lib.hid (schedL_len (bytesN b))
  have HSL := Lib.hid (sched_lt (bytesN b) hpb)
  have HPB := Lib.hid (part_bd (bytesN b) hpb)
  have HPE := Lib.hid (part_end (bytesN b))
  clear hpb
  obtain ⟨p, hp⟩ : ∃ p, p = bytesN b := ⟨_, rfl⟩
  rw [← hp] at HBA HLEN HSL HPB HPE ⊢
  clear hp
  go_enter Tryd.func70, Tryd.ntmps70
  go_wp2_with fail
  go_loopw [3, 4] (fun s i wr => ∃ k : Nat, k ≤ 64 ∧ i = .int .i64 k ∧ Sl wr w.heap.size 100 1 uc s (schedL p k) ∧ Below w.heap.size w wr) (fun _ i _ => 64 - (intOf i).toNat)
  case atStart => exact ⟨0, Nat.zero_le _, rfl, Sl.nil _ _ _ _ _, Below.refl _ _⟩
  case round =>
    obtain ⟨k, hk, rfl, s1, b1⟩ := hrel
    have hkl := HLEN.out k
    obtain ⟨_, sb, cb, rfl⟩ := (s1.at uc_len).len
    rw [hkl] at s1 ⊢
    have hw0 := b1.size
    by_cases hlt : k < 64
    · by_cases h16 : k < 16
      · have hsucc : Hid (schedL p (k + 1) = schedL p k ++ [wordF p k]) := by refine Lib.hid ?_; rw [schedL, if_pos h16]
        obtain ⟨x, hx⟩ : ∃ x, x = wordF p k := ⟨_, rfl⟩
        obtain ⟨g, cg, W2, hrun, s3, hgrow, hwhere⟩ := Sl.push (P := Tryd.prog) (t := 98) (ty := 98) (s1.only (Only.alloc [] wr (.cells (uc x).toArray 100)) (fun g _ => by simp)) und41 info31 rfl (by omega) uc_len uc_one x (World.alloc_heap_new wr _) (by rw [hkl]; omega) (by rw [hkl]; omega) (by simp; omega) 1
        rw [hkl] at hrun s3
        have HS3 : Hid (Sl W2 w.heap.size 100 1 uc (.slice (some ⟨g, 0, none⟩) (k + 1) cg) (schedL p (k + 1))) := by
          refine Lib.hid ?_; rw [hsucc.out, ← hx]; exact s3
        have HB3 : Hid (Below w.heap.size w W2) := Lib.hid (b1.trans (((Below.refl w.heap.size wr).alloc hw0 _).grown hgrow (by simp; omega) (fun r hr => (s1.lt r hr).1)))
        simp only [uc] at hrun
        have HRN := Lib.hid hrun
        have HX := Lib.hid hx
        clear hrun s3 hgrow hwhere s1 b1 hx hsucc
        have k1 : (k : Int) < 64 := by omega
        have k2 : (k : Int) < 16 := by omega
        go_wp2_with fail
        go_loopw [5, 6] (fun n kk wq => ∃ j : Nat, j ≤ 4 ∧ n = .int .u32 (partF p k j) ∧ kk = .int .i64 ((4 * k + j : Nat) : Int) ∧ wr = wq) (fun _ kk _ => 4 * k + 4 - (intOf kk).toNat)
        case atStart => exact ⟨0, by omega, rfl, by rw [Nat.add_zero, Int.natCast_mul]; rfl, rfl⟩
        case round =>
          obtain ⟨j, hj, rfl, rfl, rfl⟩ := hrel
          by_cases hj4 : j < 4
          · have hpb := HPB.out k j (by omega)
            have hba := HBA.out (4 * k + j) (by omega)
            have hps : partF p k (j + 1) = 256 * partF p k j + b[4 * k + j].toNat := by rw [partF, hba]
            have hcl : b[4 * k + j].toNat < 256 := b[4 * k + j].toNat_lt
            obtain ⟨y, hy⟩ : ∃ y, y = partF p k j := ⟨_, rfl⟩
            rw [← hy] at hpb hps ⊢
            have HPS := Lib.hid hps
            clear hy hps hba
            go_wp2_with fail
            go_roundw
            case rel => exact ⟨j + 1, by omega, by rw [HPS.out]; go_num, by go_num, trivial⟩
            case measure => simp [intOf]; omega
          · obtain rfl : j = 4 := by omega
            rw [HPE.out k, ← HX.out]
            go_wp2_with (at_builtin; refine wpList_append_run rfl _ _ 98 98 rfl rfl rfl HRN.out ?_)
            go_roundw
            case rel => exact ⟨k + 1, by omega, by go_num, HS3.out, HB3.out⟩
            case measure => simp [intOf]; omega
      · have hsucc : Hid (schedL p (k + 1) = schedL p k ++ [nextF (schedL p k) k]) := by refine Lib.hid ?_; rw [schedL, if_neg h16]
        obtain ⟨gs, rfl⟩ : ∃ gs, sb = some ⟨gs, 0, none⟩ := by
          rcases s1.form with ⟨e, h0⟩ | ⟨g0, cap0, e, _⟩
          · rw [h0] at hkl; simp at hkl; omega
          · simp at e; exact ⟨g0, e.1⟩
        have gt : ∀ i, i < k → wr.cell? ⟨gs, i, none⟩ = some (wv ((schedL p k).getD i 0)) := by
          intro i hi
          have hi' : i < (schedL p k).length := by rw [hkl]; exact hi
          have := s1.cell uc_len i 0 hi' (by omega)
          rw [Nat.mul_one, Nat.add_zero] at this
          rw [this, List.getD_eq_getElem?_getD, List.getElem?_eq_getElem hi']
          rfl
        have c16 := gt (k - 16) (by omega)
        have c15 := gt (k - 15) (by omega)
        have c7 := gt (k - 7) (by omega)
        have c2 := gt (k - 2) (by omega)
        have HN : Hid (nextF (schedL p k) k = _) := Lib.hid (by unfold nextF; rfl)
        have l15 := HSL.out k (k - 15)
        have l2 := HSL.out k (k - 2)
        have l16 := HSL.out k (k - 16)
        have l7 := HSL.out k (k - 7)
        generalize (schedL p k).getD (k - 16) 0 = x16 at *
        generalize (schedL p k).getD (k - 15) 0 = x15 at *
        generalize (schedL p k).getD (k - 7) 0 = x7 at *
        generalize (schedL p k).getD (k - 2) 0 = x2 at *
        have k0 : (0 : Int) ≤ (k : Int) := by omega
        have k1 : (k : Int) < 64 := by omega
        have m1 : (16 : Int) ≤ (k : Int) := by omega
        have m2 : (15 : Int) ≤ (k : Int) := by omega
        have m3 : (7 : Int) ≤ (k : Int) := by omega
        have m4 : (2 : Int) ≤ (k : Int) := by omega
        have m5 : (k : Int) - 16 < (k : Int) := by omega
        have m6 : (k : Int) - 15 < (k : Int) := by omega
        have m7 : (k : Int) - 7 < (k : Int) := by omega
        have m8 : (k : Int) - 2 < (k : Int) := by omega
        have q1 : IntKind.i64.wrap ((k : Int) - 16) = (k : Int) - 16 := IntWalk.i64_in _ (by omega)
        have q2 : IntKind.i64.wrap ((k : Int) - 15) = (k : Int) - 15 := IntWalk.i64_in _ (by omega)
        have q3 : IntKind.i64.wrap ((k : Int) - 7) = (k : Int) - 7 := IntWalk.i64_in _ (by omega)
        have q4 : IntKind.i64.wrap ((k : Int) - 2) = (k : Int) - 2 := IntWalk.i64_in _ (by omega)
        have t1 : ((k : Int) - 16).toNat = k - 16 := by omega
        have t2 : ((k : Int) - 15).toNat = k - 15 := by omega
        have t3 : ((k : Int) - 7).toNat = k - 7 := by omega
        have t4 : ((k : Int) - 2).toNat = k - 2 := by omega
        have HS1 := Lib.hid s1
        have HB1 := Lib.hid b1
        clear gt s1 b1
        go_upto_region 14 with fail
        go_quiet (first
          | (go_at_call 71; exact Calls.quiet_of_same (rrK_any _ _ _ (by first | exact l15 | exact l2) (by decide) (by decide)))
          | (go_at_call 75; exact Calls.quiet_of_same (rsK_any _ _ _ (by first | exact l15 | exact l2) (by decide) (by decide))))
        rw [low_bits2 x15 l15, high_bits2 x2 l2]
        have hv : (((x16 : Int) + (lowF x15 : Int) + (x7 : Int)) % 4294967296 + (highF x2 : Int)) % 4294967296 = ((nextF (schedL p k) k : Nat) : Int) := by
          rw [HN.out]; omega
        rw [hv]
        obtain ⟨x, hx⟩ : ∃ x, x = nextF (schedL p k) k := ⟨_, rfl⟩
        rw [← hx]
        obtain ⟨wq, hwq⟩ : ∃ wq, wq = wr.drewN nq := ⟨_, rfl⟩
        have s1 : Sl wq w.heap.size 100 1 uc (.slice (some ⟨gs, 0, none⟩) k cb) (schedL p k) := by rw [hwq]; exact HS1.out.same (Nat.le_refl _) (fun _ _ => rfl)
        have b1 : Below w.heap.size w wq := by rw [hwq]; exact ⟨HB1.out.os, HB1.out.tape, HB1.out.output, HB1.out.size, HB1.out.block⟩
        rw [← hwq]
        have hw1 := b1.size
        obtain ⟨g, cg, W2, hrun, s3, hgrow, hwhere⟩ := Sl.push (P := Tryd.prog) (t := 98) (ty := 98) (s1.only (Only.alloc [] wq (.cells (uc x).toArray 100)) (fun g _ => by simp)) und41 info31 rfl (by omega) uc_len uc_one x (World.alloc_heap_new wq _) (by rw [hkl]; omega) (by rw [hkl]; omega) (by simp; omega) 1
        rw [hkl] at hrun s3
        have HS3 : Hid (Sl W2 w.heap.size 100 1 uc (.slice (some ⟨g, 0, none⟩) (k + 1) cg) (schedL p (k + 1))) := by
          refine Lib.hid ?_; rw [hsucc.out, ← hx]; exact s3
        have HB3 : Hid (Below w.heap.size w W2) := Lib.hid (b1.trans (((Below.refl w.heap.size wq).alloc hw1 _).grown hgrow (by simp; omega) (fun r hr => (s1.lt r hr).1)))
        simp only [uc] at hrun
        have HRN := Lib.hid hrun
        clear hrun s3 hgrow hwhere s1 b1 hx hsucc hwq hv HN HS1 HB1
        go_wp2_with (at_builtin; refine wpList_append_run rfl _ _ 98 98 rfl rfl rfl HRN.out ?_)
        go_roundw
        case rel => exact ⟨k + 1, by omega, by go_num, HS3.out, HB3.out⟩
        case measure => simp [intOf]; omega
    · obtain rfl : k = 64 := by omega
      have HS1 := Lib.hid s1
      have HB1 := Lib.hid b1
      clear s1 b1
      go_wp2_with fail
      go_ret
      exact ⟨_, rfl, HS1.out, HB1.out⟩
end Go.Proofs.YtnkkbkceapcahaaDoor
namespace Go.Proofs.YtnkkbkceapcahaaDoor
open Go.RowKit Go.Rt Go.Rw
attribute [local go_sem ↓] Go.wp_at_zero Go.wp_at_succ

theorem add_comm8 (s t : S8) : addF s t = addF t s := by
  unfold addF
  simp only [Nat.add_comm]
theorem mix_zero (s t : S8) : mixL s t 0 = s.l := by simp [mixL, S8.l]
theorem mix_end (s t : S8) : mixL s t 8 = (addF s t).l := by simp [mixL, S8.l]
theorem mix_len (s t : S8) (j : Nat) : (mixL s t j).length = 8 := rfl
theorem l_len (s : S8) : s.l.length = 8 := rfl
theorem mix_at (s t : S8) (j : Nat) (h : j < 8) : (mixL s t j)[j]? = some (s.l.getD j 0) ∧ s.l[j]? = some (s.l.getD j 0) := by
  have : j = 0 ∨ j = 1 ∨ j = 2 ∨ j = 3 ∨ j = 4 ∨ j = 5 ∨ j = 6 ∨ j = 7 := by omega
  rcases this with rfl | rfl | rfl | rfl | rfl | rfl | rfl | rfl <;> simp [mixL, S8.l]
theorem mix_set (s t : S8) (j : Nat) (h : j < 8) : (mixL s t j).set j ((s.l.getD j 0 + t.l.getD j 0) % 4294967296) = mixL s t (j + 1) := by
  have : j = 0 ∨ j = 1 ∨ j = 2 ∨ j = 3 ∨ j = 4 ∨ j = 5 ∨ j = 6 ∨ j = 7 := by omega
  rcases this with rfl | rfl | rfl | rfl | rfl | rfl | rfl | rfl <;> simp [mixL, S8.l, addF]
theorem i32m {s t : S8} {j : Nat} : (Tryd.prog.info? 101).map (·.size) = some (((mixL s t j).map wv).toArray).size := i32l rfl

theorem only_drewN {bs : List Nat} {a b : World} (h : Only bs a b) (n : Nat) : Only bs a (b.drewN n) := ⟨h.os, h.tape, h.output, h.size, h.block⟩
theorem t_bits2 (s : S8) (k w : Nat) (hs : s.ok) (hk : k < 4294967296) (hw : w < 4294967296) : ∃ t : Nat, (((s.h : Int) + bits .xor .u32 (bits .xor .u32 ↑(rrK 6 s.e) ↑(rrK 11 s.e)) ↑(rrK 25 s.e) +
      bits .xor .u32 (bits .and .u32 ↑s.e ↑s.f) (bits .and .u32 (bits .xor .u32 (if IntKind.u32.signed = true then -1 else IntKind.u32.max) ↑s.e) ↑s.g) + (k : Int)) % 4294967296 + (w : Int)) % 4294967296 = (t : Int) ∧ t = tF s k w ∧ t < 4294967296 :=
  t_bits s k w hs hk hw
theorem u_bits2 (s : S8) (hs : s.ok) : (bits .xor .u32 (bits .xor .u32 ↑(rrK 2 s.a) ↑(rrK 13 s.a)) ↑(rrK 22 s.a) + bits .xor .u32 (bits .xor .u32 (bits .and .u32 ↑s.a ↑s.b) (bits .and .u32 ↑s.a ↑s.c)) (bits .and .u32 ↑s.b ↑s.c)) % 4294967296 = (uF s : Int) := u_bits s hs
set_option maxRecDepth 100000 in
set_option maxHeartbeats 1000000 in
theorem rcomp_any (s : S8) (hs : s.ok) (b : ByteArray) (hb : b.size = 64) (vK : Value) (w : World) (hK : SlAt w 1 uc vK KL) :
    Calls Tryd.prog 65 #[.agg (s.l.map wv).toArray, .string b, vK] w fun e w' => e = .returned (.agg ((compF s (bytesN b)).l.map wv).toArray) ∧ Below w.heap.size w w' := by
  obtain ⟨_, sK, cK, rfl⟩ := hK.len
  obtain ⟨bK, oK, rfl, hbK, hcK⟩ := hK.get (by rw [KL_len]; omega)
  rw [KL_len]
  have HCK : Hid (∀ (W : World), Below w.heap.size w W → ∀ k, k < 64 → W.cell? ⟨bK, oK + k, none⟩ = some (wv (KL.getD k 0))) := by
    refine Lib.hid fun W hW k hk => ?_
    have hk' : k < KL.length := by rw [KL_len]; exact hk
    have := (hW.cell (p := ⟨bK, oK + k * 1 + 0, none⟩) hbK).trans (hcK k 0 hk' (by omega))
    rw [Nat.mul_one, Nat.add_zero] at this
    rw [this, List.getD_eq_getElem?_getD, List.getElem?_eq_getElem hk']
    rfl
  have HSC := Lib.hid (fun W => rsched_any b hb W)
  have HSL := Lib.hid (sched_lt (bytesN b) (bytesN_lt b) 64)
  have hln := schedL_len (bytesN b) 64
  have HCO : Hid (compF s (bytesN b) = addF (roundsF KL (schedL (bytesN b) 64) s 64) s) := by refine Lib.hid ?_; rw [add_comm8]; rfl
  have HOK := Lib.hid (rounds_ok KL (schedL (bytesN b) 64) s hs)
  obtain ⟨SL, hSL⟩ : ∃ SL, SL = schedL (bytesN b) 64 := ⟨_, rfl⟩
  rw [← hSL] at HSC HSL hln HCO HOK
  obtain ⟨RES, hRES⟩ : ∃ R, R = compF s (bytesN b) := ⟨_, rfl⟩
  rw [← hRES] at HCO ⊢
  have HS0 := Lib.hid hs
  clear hSL hRES hcK hK hs
  go_enter Tryd.func65, Tryd.ntmps65
  go_wp2_with fail
  refine (HSC.out _).mono ?_
  rintro e w1 ⟨v, rfl, s1, b1⟩
  obtain ⟨_, sp, cp, rfl⟩ := (s1.at uc_len).len
  rw [hln] at s1 ⊢
  have hz := b1.size
  simp only [World.size_alloc] at hz
  have m0 : Blk w1 w.heap.size 101 (s.l.map wv).toArray := by
    have := (Blk.new w 101 (s.l.map wv).toArray).alloc (.cells ((List.replicate 8 0).map wv).toArray 101)
    exact Blk.below (w' := w1) this b1 (by simp; omega)
  have m1 : Blk w1 (w.heap.size + 1) 101 ((List.replicate 8 0).map wv).toArray := by
    have := Blk.new (w.alloc (.cells (s.l.map wv).toArray 101)) 101 ((List.replicate 8 0).map wv).toArray
    rw [World.size_alloc] at this
    exact Blk.below (w' := w1) this b1 (by simp)
  have bw : Below w.heap.size w w1 := (((Below.refl _ w).alloc (Nat.le_refl _) _).alloc (by simp) _).trans (b1.mono (by simp; omega))
  obtain ⟨gs, rfl⟩ : ∃ gs, sp = some ⟨gs, 0, none⟩ := by
    rcases s1.form with ⟨e, h0⟩ | ⟨g0, cap0, e, _⟩
    · rw [h0] at hln; simp at hln
    · simp at e; exact ⟨g0, e.1⟩
  have hgs := (s1.lt gs rfl).2
  have HCS : Hid (∀ (W : World), Below w1.heap.size w1 W → ∀ k, k < 64 → W.cell? ⟨gs, k, none⟩ = some (wv (SL.getD k 0))) := by
    refine Lib.hid fun W hW k hk => ?_
    have hk' : k < SL.length := by rw [hln]; exact hk
    have := (hW.cell (p := ⟨gs, k * 1 + 0, none⟩) hgs).trans (s1.cell uc_len k 0 hk' (by omega))
    rw [Nat.mul_one, Nat.add_zero] at this
    rw [this, List.getD_eq_getElem?_getD, List.getElem?_eq_getElem hk']
    rfl
  have M0 := Lib.hid m0
  have M1 := Lib.hid m1
  have HBW := Lib.hid bw
  clear m0 m1 bw s1 b1
  go_wp2_with (first
    | (refine wpList_load_blk rfl 101 _ rfl w.heap.size rfl _ 101 _ M0.out Tryd.underlying101 rfl (i32l (l_len s)) ?_)
    | (refine wpList_store_blk rfl 101 _ _ rfl rfl w1.heap.size _ _ 101 rfl rfl (Blk.new w1 101 ((List.replicate 8 0).map wv).toArray) rfl (i32l (l_len s)) (one_map (fun _ => rfl) _) ?_
       intro w2 b2 o2
       have HB2 := Lib.hid b2
       have HO2 := Lib.hid o2
       clear b2 o2))
  have hB2w : ∀ W, Only [w1.heap.size] w2 W → Below w1.heap.size w1 W ∧ Below w.heap.size w W := fun W o => by
    have q : Below w1.heap.size w1 W := ((Below.refl _ w1).alloc (Nat.le_refl _) _).trans ((HO2.out.trans o).below (by simp) (by simp))
    exact ⟨q, HBW.out.trans (q.mono HBW.out.size)⟩
  have HBB := Lib.hid hB2w
  clear hB2w
  have hz2 : w1.heap.size < w2.heap.size := HB2.out.lt
  go_loopw [9] (fun i wr => ∃ k : Nat, k ≤ 64 ∧ i = .int .i64 k ∧ ∃ S, S = roundsF KL SL s k ∧ Blk wr w1.heap.size 101 (S.l.map wv).toArray ∧ Only [w1.heap.size] w2 wr) (fun i _ => 64 - (intOf i).toNat)
  case atStart => exact ⟨0, by omega, rfl, _, rfl, HB2.out, Only.refl _ _⟩
  case round =>
    obtain ⟨k, hk, rfl, S, hS, mv, ov⟩ := hrel
    have ok := HOK.out k
    rw [← hS] at ok
    by_cases hlt : k < 64
    · have HSS : Hid (roundsF KL SL s (k + 1) = stepF S (KL.getD k 0) (SL.getD k 0)) := by refine Lib.hid ?_; rw [roundsF, hS]
      clear hS
      obtain ⟨sa, sb, sc, sd, se, sf, sg, sh⟩ := S
      obtain ⟨oa, ob, oc, od, oe, of, og, oh⟩ := ok
      simp only at oa ob oc od oe of og oh
      have s0 := mv.cell 0
      have s1 := mv.cell 1
      have s2 := mv.cell 2
      have s3 := mv.cell 3
      have s4 := mv.cell 4
      have s5 := mv.cell 5
      have s6 := mv.cell 6
      have s7 := mv.cell 7
      simp only [S8.l, List.map_cons, List.map_nil, List.getElem?_toArray, List.getElem?_cons_zero, List.getElem?_cons_succ] at s0 s1 s2 s3 s4 s5 s6 s7
      have MV := Lib.hid mv
      have OV := Lib.hid ov
      clear mv ov
      have k0 : (0 : Int) ≤ (k : Int) := by omega
      have k1 : (k : Int) < 64 := by omega
      go_upto_region 6 with fail
      go_quiet (fail)
      obtain ⟨wq, hwq⟩ : ∃ wq, wq = wr.drewN nq := ⟨_, rfl⟩
      rw [← hwq]
      have mq : Hid (Blk wq w1.heap.size 101 #[wv sa, wv sb, wv sc, wv sd, wv se, wv sf, wv sg, wv sh]) := by rw [hwq]; exact Lib.hid MV.out
      have oq : Hid (Only [w1.heap.size] w2 wq) := by rw [hwq]; exact Lib.hid (only_drewN OV.out nq)
      clear hwq MV OV s0 s1 s2 s3 s4 s5 s6 s7
      obtain ⟨qb1, qb2⟩ := HBB.out wq oq.out
      have gk := HCK.out wq qb2 k hlt
      have gw := HCS.out wq qb1 k hlt
      have lk := KL_lt k
      have lw := HSL.out k
      obtain ⟨kk, hkk⟩ : ∃ kk, kk = KL.getD k 0 := ⟨_, rfl⟩
      obtain ⟨ww, hww⟩ : ∃ ww, ww = SL.getD k 0 := ⟨_, rfl⟩
      rw [← hkk] at gk lk
      rw [← hww] at gw lw
      rw [← hkk, ← hww] at HSS
      clear hkk hww qb1 qb2
      go_upto_region 7 with fail
      go_quiet ((go_at_call 71; exact Calls.quiet_of_same (rrK_any _ se _ oe (by decide) (by decide))))
      obtain ⟨tt, ht1, ht2, ht3⟩ := t_bits2 ⟨sa, sb, sc, sd, se, sf, sg, sh⟩ kk ww ⟨oa, ob, oc, od, oe, of, og, oh⟩ lk lw
      simp only at ht1
      rw [ht1]
      have HT3 := Lib.hid ht2
      clear ht1 ht2
      go_wp2_with fail
      refine (rrK_any 2 sa _ oa (by decide) (by decide)).mono ?_
      rintro e1 w' ⟨rfl, rfl⟩
      go_wp2_with fail
      refine (rrK_any 13 sa _ oa (by decide) (by decide)).mono ?_
      rintro e1 w' ⟨rfl, rfl⟩
      go_wp2_with fail
      refine (rrK_any 22 sa _ oa (by decide) (by decide)).mono ?_
      rintro e1 w' ⟨rfl, rfl⟩
      go_upto_region 9 with fail
      have hu := u_bits2 ⟨sa, sb, sc, sd, se, sf, sg, sh⟩ ⟨oa, ob, oc, od, oe, of, og, oh⟩
      simp only at hu
      rw [hu]
      obtain ⟨uu, huu⟩ : ∃ uu, uu = uF ⟨sa, sb, sc, sd, se, sf, sg, sh⟩ := ⟨_, rfl⟩
      rw [← huu]
      have HUU := Lib.hid huu
      have HTL := Lib.hid ht3
      clear hu huu ht3
      go_wp2_with (refine wpList_store_blk rfl 101 _ _ rfl rfl w1.heap.size _ _ 101 rfl rfl (mq.out.drewN nq) rfl (i32l (l_len ⟨sa, sb, sc, sd, se, sf, sg, sh⟩)) (by simp [Value.oneCell']) ?_
                   intro w3 b3 o3
                   have HB3 := Lib.hid b3
                   have HO3 := Lib.hid o3
                   clear b3 o3)
      go_roundw
      case rel =>
        refine ⟨k + 1, by omega, by go_num, _, rfl, ?_, (only_drewN oq.out nq).trans HO3.out⟩
        have e : ((roundsF KL SL s (k + 1)).l.map wv).toArray = #[.int .u32 (((tt : Int) + (uu : Int)) % 4294967296), wv sa, wv sb, wv sc, .int .u32 (((sd : Int) + (tt : Int)) % 4294967296), wv se, wv sf, wv sg] := by
          rw [HSS.out, wv_add, wv_add]
          simp only [stepF, ← HT3.out, ← HUU.out]
          rfl
        rw [e]
        exact HB3.out
      case measure => simp [intOf]; omega
    · obtain rfl : k = 64 := by omega
      rw [← hS] at HCO
      have HBW2 := Lib.hid (HBB.out wr ov).2
      have m0 : Blk wr w.heap.size 101 (s.l.map wv).toArray := ((M0.out.alloc _).only HO2.out (by simp; omega)).only ov (by simp; omega)
      have mr : Blk wr (w.heap.size + 1) 101 ((List.replicate 8 0).map wv).toArray := ((M1.out.alloc _).only HO2.out (by simp; omega)).only ov (by simp; omega)
      have MM0 := Lib.hid m0
      have MMR := Lib.hid mr
      have MV := Lib.hid mv
      have HZR := Lib.hid ov.size
      clear hS mv ov m0 mr
      rw [show ((64 : Nat) : Int) = 64 from rfl]
      go_wp2_with fail
      go_loopw [20] (fun i wq => ∃ j : Nat, j ≤ 8 ∧ i = .int .i64 j ∧ Blk wq w1.heap.size 101 ((mixL S s j).map wv).toArray ∧ Only [w1.heap.size] wr wq) (fun i _ => 8 - (intOf i).toNat)
      case atStart => exact ⟨0, by omega, rfl, by rw [mix_zero]; exact MV.out, Only.refl _ _⟩
      case round =>
        obtain ⟨j, hj, rfl, mv, ov⟩ := hrel
        by_cases hlt8 : j < 8
        · obtain ⟨g1, g2⟩ := mix_at S s j hlt8
          have g3 := (mix_at s S j hlt8).2
          have c1 := mv.cell j
          have c2 := (MM0.out.only ov (by simp; omega)).cell j
          have f1 := mv.frozen j
          have hset := mix_set S s j hlt8
          obtain ⟨xv, hxv⟩ : ∃ x, x = S.l.getD j 0 := ⟨_, rfl⟩
          obtain ⟨xw, hxw⟩ : ∃ x, x = s.l.getD j 0 := ⟨_, rfl⟩
          rw [← hxv] at g1 hset
          rw [← hxw] at g3 hset
          simp only [List.getElem?_toArray, List.getElem?_map, g1, g3, Option.map_some] at c1 c2
          have HSE := Lib.hid hset
          have MMV := Lib.hid mv
          have OOV := Lib.hid ov
          have j0 : (0 : Int) ≤ (j : Int) := by omega
          have j1 : (j : Int) < 8 := by omega
          clear mv ov hset hxv hxw g1 g2 g3
          go_upto_region 13 with fail
          go_still_tail 9, (by kernel_rfl)
          go_wp2_with fail
          go_roundw
          case rel =>
            rw [wv_add]
            have := MMV.out.set_ j (wv ((xv + xw) % 4294967296))
            rw [map_set, HSE.out] at this
            have o := OOV.out.trans (Only.setCell wr ⟨w1.heap.size, j, none⟩ (wv ((xv + xw) % 4294967296)) (by simp))
            exact ⟨j + 1, by omega, by go_num, this.drew, ⟨o.os, o.tape, o.output, o.size, o.block⟩⟩
          case measure => simp [intOf]; omega
        · obtain rfl : j = 8 := by omega
          rw [show ((8 : Nat) : Int) = 8 from rfl]
          rw [mix_end, ← HCO.out] at mv
          have NV := Lib.hid mv
          have NR := Lib.hid (MMR.out.only ov (by simp; omega))
          have NB := Lib.hid (HBW2.out.trans (ov.below (n := w.heap.size) (by simp; omega) (by have := HBW2.out.size; omega)))
          clear mv ov
          go_wp2_with (first
            | (refine wpList_load_blk rfl 101 _ rfl w1.heap.size rfl _ 101 _ NV.out Tryd.underlying101 rfl (i32l (l_len _)) ?_)
            | (refine wpList_store_blk rfl 101 _ _ rfl rfl (w.heap.size + 1) _ _ 101 rfl rfl NR.out rfl (i32l (l_len _)) (one_map (fun _ => rfl) _) ?_; intro w4 b4 o4))
          refine bodyPost_ret (results_blk Tryd.results65 _ _ (w.heap.size + 1) _ _ rfl b4 Tryd.underlying101 rfl (i32l (l_len _))) rfl ?_
          exact ⟨rfl, NB.out.trans (o4.below (by simp) (by have := NB.out.size; omega))⟩
end Go.Proofs.YtnkkbkceapcahaaDoor
