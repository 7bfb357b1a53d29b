/- digest.compress. -/
import Derived.Test.YtnkkbkceapcahaaDoorCompP1
namespace Go.Proofs.YtnkkbkceapcahaaDoor
open Go.RowKit Go.Rt
attribute [local go_sem ↓] Go.wp_at_zero Go.wp_at_succ

/-- The two tables lie where the program's start lays them. -/
structure Tabs (w : World) : Prop where
  st : ∀ i, i < 8 → w.cell? ⟨0, i, none⟩ = some (wv (startF.l.getD i 0))
  kl : ∀ i, i < 64 → w.cell? ⟨1, i, none⟩ = some (wv (KL.getD i 0))
theorem Tabs.two {w : World} (h : Tabs w) : 2 ≤ w.heap.size := World.block_lt_of_cell? w _ (h.kl 0 (by omega))
theorem Tabs.below {w w' : World} {n : Nat} (h : Tabs w) (hb : Below n w w') (hn : 2 ≤ n) : Tabs w' :=
  ⟨fun i hi => (hb.cell (p := ⟨0, i, none⟩) (by simp; omega)).trans (h.st i hi), fun i hi => (hb.cell (p := ⟨1, i, none⟩) (by simp; omega)).trans (h.kl i hi)⟩
def rotK (k : Int) (x : Nat) : Nat := rotr k.natAbs x
theorem rotK_any (k : Int) (x : Nat) (w : World) (hx : x < 4294967296) (h1 : k ≤ -1) (h2 : -31 ≤ k) :
    Calls Tryd.prog 81 #[.int .u32 x, .int .i64 k] w fun e w' => e = .returned (.int .u32 (rotK k x : Nat)) ∧ w' = w :=
  (rot_at k.natAbs k x w (by omega) hx (by omega) (by omega)).mono fun _ _ ⟨h1, h2⟩ => ⟨h1, h2.symm⟩

theorem not_word (x : Nat) (h : x < 4294967296) : 4294967295 ^^^ x = 4294967295 - x := by
  have q := congrArg BitVec.toNat (BitVec.allOnes_xor (x := BitVec.ofNat 32 x))
  rw [BitVec.toNat_xor, BitVec.toNat_not, BitVec.toNat_allOnes, BitVec.toNat_ofNat, Nat.mod_eq_of_lt (by simpa using h)] at q
  exact q
theorem t_bits (s : S8) (k w : Nat) (hs : s.ok) (_ : k < 4294967296) (_ : w < 4294967296) : ∃ t : Nat, (((s.h : Int) + bits .xor .u32 (bits .xor .u32 ↑(rotK (-6) s.e) ↑(rotK (-11) s.e)) ↑(rotK (-25) s.e) +
      bits .xor .u32 (bits .and .u32 ↑s.e ↑s.f) (bits .and .u32 (bits .xor .u32 (if IntKind.u32.signed = true then -1 else IntKind.u32.max) ↑s.e) ↑s.g) + (k : Int)) % 4294967296 + (w : Int)) % 4294967296 = (t : Int) ∧ t = tF s k w ∧ t < 4294967296 := by
  obtain ⟨ha, hb, hc, hd, he, hf, hg, hh⟩ := hs
  refine ⟨tF s k w, ?_, rfl, Nat.mod_lt _ (by omega)⟩
  have e1 := e_bits s.e he
  have e2 : bits .xor .u32 (bits .and .u32 ↑s.e ↑s.f) (bits .and .u32 (bits .xor .u32 (if IntKind.u32.signed = true then -1 else IntKind.u32.max) ↑s.e) ↑s.g) = (chF s.e s.f s.g : Int) := by
    have e3 : bits .xor .u32 (if IntKind.u32.signed = true then -1 else IntKind.u32.max) ↑s.e = ((4294967295 - s.e : Nat) : Int) := by
      have e4 : (if IntKind.u32.signed = true then (-1 : Int) else IntKind.u32.max) = ((4294967295 : Nat) : Int) := by decide
      rw [e4, u32_xor_nat _ _ (by omega) he]
      rw [not_word s.e he]
    rw [e3, u32_and_nat _ _ he hf, u32_and_nat _ _ (by omega) hg, u32_xor_nat _ _ (and_lt he) (and_lt (by omega))]
    rfl
  rw [show rotK (-6) s.e = rotr 6 s.e from rfl, show rotK (-11) s.e = rotr 11 s.e from rfl, show rotK (-25) s.e = rotr 25 s.e from rfl, e1, e2]
  unfold tF
  omega
theorem u_bits (s : S8) (hs : s.ok) : (bits .xor .u32 (bits .xor .u32 ↑(rotK (-2) s.a) ↑(rotK (-13) s.a)) ↑(rotK (-22) s.a) + bits .xor .u32 (bits .xor .u32 (bits .and .u32 ↑s.a ↑s.b) (bits .and .u32 ↑s.a ↑s.c)) (bits .and .u32 ↑s.b ↑s.c)) % 4294967296 = (uF s : Int) := by
  obtain ⟨ha, hb, hc, hd, he, hf, hg, hh⟩ := hs
  rw [show rotK (-2) s.a = rotr 2 s.a from rfl, show rotK (-13) s.a = rotr 13 s.a from rfl, show rotK (-22) s.a = rotr 22 s.a from rfl, a_bits s.a ha, maj_bits s.a s.b s.c ha hb hc]
  unfold uF
  omega
theorem wv_add (a b : Nat) : Value.int .u32 (((a : Int) + (b : Int)) % 4294967296) = wv ((a + b) % 4294967296) := by
  unfold wv
  congr 1
/-- The state, as far as it has been added up. -/
def mixL (s t : S8) (j : Nat) : List Nat :=
  [if 0 < j then (addF s t).a else s.a, if 1 < j then (addF s t).b else s.b, if 2 < j then (addF s t).c else s.c, if 3 < j then (addF s t).d else s.d,
    if 4 < j then (addF s t).e else s.e, if 5 < j then (addF s t).f else s.f, if 6 < j then (addF s t).g else s.g, if 7 < j then (addF s t).h else s.h]
theorem i37 {L : List Nat} (h : L.length = 64) : (Tryd.prog.info? 110).map (·.size) = some ((L.map bv).toArray).size := by
  have : (Tryd.prog.info? 110).map (·.size) = some 64 := by kernel_rfl
  rw [this]; simp [h]
theorem i32 {s t : S8} {j : Nat} : (Tryd.prog.info? 101).map (·.size) = some (((mixL s t j).map wv).toArray).size := by
  have : (Tryd.prog.info? 101).map (·.size) = some 8 := by kernel_rfl
  rw [this]; simp [mixL]
set_option maxRecDepth 100000 in
set_option maxHeartbeats 1000000 in
theorem compress_any (s : S8) (p : List Nat) (hs : s.ok) (hp : p.length = 64) (hb : ∀ x ∈ p, x < 256) (w : World) (ht : Tabs w) :
    Calls Tryd.prog 77 #[.agg (s.l.map wv).toArray, .agg (p.map bv).toArray] w fun e w' => e = .returned (.agg ((compF s p).l.map wv).toArray) ∧ Below w.heap.size w w' := by
  obtain ⟨ha, hbb, hc, hd, he, hf, hg, hh⟩ := hs
  obtain ⟨a, b, c, d, e, f, g, h⟩ := s
  simp only [S8.l, List.map_cons, List.map_nil]
  have HBP : ∀ o, Blk (((w.alloc (.cells #[wv a, wv b, wv c, wv d, wv e, wv f, wv g, wv h] 101)).alloc (.cells (p.map bv).toArray 110)).alloc o) (w.heap.size + 1) 110 (p.map bv).toArray := by
    intro o
    have := Blk.new (w.alloc (.cells #[wv a, wv b, wv c, wv d, wv e, wv f, wv g, wv h] 101)) 110 (p.map bv).toArray
    rw [World.size_alloc] at this
    exact this.alloc o
  have HP := Lib.hid HBP
  have HT := Lib.hid ht
  clear HBP ht
  go_enter Tryd.func77, Tryd.ntmps77
  go_wp2_with (first
    | (refine wpList_load_blk rfl 110 _ rfl (w.heap.size + 1) rfl _ 110 _ (HP.out _) Tryd.underlying110 rfl (i37 hp) ?_)
    | (go_at_call 80
       refine (schedule_any p hp hb _).mono ?_
       rintro e1 w1 ⟨rfl, b1⟩
       have B1 := Lib.hid b1
       clear b1)
    | (refine wpList_store_blk rfl 120 _ _ rfl rfl w1.heap.size _ _ 120 rfl rfl (Blk.new _ 120 _) (by simp [schedL_len]) (i47 (by simp [schedL_len])) (one_map (fun _ => rfl) _) ?_
       intro w2 b2 o2
       have HB2 := Lib.hid b2
       have HO2 := Lib.hid o2
       clear b2 o2))
  have hz1 : w.heap.size + 3 ≤ w1.heap.size := by have := B1.out.size; simp at this; omega
  have q1 := HO2.out.below (n := w.heap.size) (by simp; omega) (by simp; omega)
  have BW : Below w.heap.size w w2 :=
    ((((Below.refl _ w).alloc (Nat.le_refl _) _).alloc (by simp) _).alloc (by simp; omega) _).trans ((B1.out.mono (by simp; omega)).trans (((Below.refl _ w1).alloc (by omega) _).trans q1))
  clear q1
  have hs2 : Blk w2 w.heap.size 101 #[wv a, wv b, wv c, wv d, wv e, wv f, wv g, wv h] := by
    have b0 : Blk w1 w.heap.size 101 #[wv a, wv b, wv c, wv d, wv e, wv f, wv g, wv h] := (((Blk.new w 101 _).alloc _).alloc _).below B1.out (by simp; omega)
    exact (b0.alloc _).only HO2.out (by simp; omega)
  have hr2 : Blk w2 (w.heap.size + 1 + 1) 101 #[wv 0, wv 0, wv 0, wv 0, wv 0, wv 0, wv 0, wv 0] := by
    have q := Blk.new ((w.alloc (.cells #[wv a, wv b, wv c, wv d, wv e, wv f, wv g, wv h] 101)).alloc (.cells (p.map bv).toArray 110)) 101 #[wv 0, wv 0, wv 0, wv 0, wv 0, wv 0, wv 0, wv 0]
    rw [World.size_alloc, World.size_alloc] at q
    have b0 := Blk.below (w' := w1) q B1.out (by simp)
    exact (b0.alloc _).only HO2.out (by simp; omega)
  have ht2 : Tabs w2 := HT.out.below BW HT.out.two
  have s0 := hs2.cell 0
  have s1 := hs2.cell 1
  have s2 := hs2.cell 2
  have s3 := hs2.cell 3
  have s4 := hs2.cell 4
  have s5 := hs2.cell 5
  have s6 := hs2.cell 6
  have s7 := hs2.cell 7
  simp only [List.getElem?_toArray, List.getElem?_cons_zero, List.getElem?_cons_succ] at s0 s1 s2 s3 s4 s5 s6 s7
  have HS2 := Lib.hid hs2
  have HR2 := Lib.hid hr2
  have HT2 := Lib.hid ht2
  have HBW := Lib.hid BW
  clear BW hs2 hr2 ht2 B1 HO2 HP HT
  go_quiet (fail)
  go_wp2_with fail
  clear s0 s1 s2 s3 s4 s5 s6 s7
  go_loopw [6, 7, 8, 9, 10, 11, 12, 13, 37] (fun x6 x7 x8 x9 x10 x11 x12 x13 x37 wr => ∃ k n : Nat, k ≤ 64 ∧ x37 = .int .i64 k ∧ wr = w2.drewN n ∧
    ∃ S, S = roundsF KL (schedL p 64) ⟨a, b, c, d, e, f, g, h⟩ k ∧ x6 = wv S.a ∧ x7 = wv S.b ∧ x8 = wv S.c ∧ x9 = wv S.d ∧ x10 = wv S.e ∧ x11 = wv S.f ∧ x12 = wv S.g ∧ x13 = wv S.h) (fun _ _ _ _ _ _ _ _ s _ => 64 - (intOf s).toNat)
  case atStart => exact ⟨0, _, by omega, rfl, rfl, _, rfl, rfl, rfl, rfl, rfl, rfl, rfl, rfl, rfl⟩
  case round =>
    obtain ⟨k, n, hk, rfl, rfl, S, hS, rfl, rfl, rfl, rfl, rfl, rfl, rfl, rfl⟩ := hrel
    by_cases hlt : k < 64
    · have ok := rounds_ok KL (schedL p 64) ⟨a, b, c, d, e, f, g, h⟩ ⟨ha, hbb, hc, hd, he, hf, hg, hh⟩ k
      rw [← hS] at ok
      have HSS := Lib.hid hS
      clear hS
      obtain ⟨sa, sb, sc, sd, se, sf, sg, sh⟩ := S
      obtain ⟨oa, ob, oc, od, oe, of, og, oh⟩ := ok
      simp only at oa ob oc od oe of og oh
      obtain ⟨wq, hwq⟩ : ∃ wq, wq = w2.drewN n := ⟨_, rfl⟩
      rw [← hwq]
      have gk : wq.cell? ⟨1, k, none⟩ = some (wv (KL.getD k 0)) := by rw [hwq]; exact HT2.out.kl k hlt
      have gw : wq.cell? ⟨w1.heap.size, k, none⟩ = some (wv ((schedL p 64).getD k 0)) := by
        rw [hwq]
        refine (HB2.out.cell k).trans ?_
        rw [map_get _ _ (by rw [schedL_len]; exact hlt), List.getD_eq_getElem?_getD, List.getElem?_eq_getElem (by rw [schedL_len]; exact hlt)]; rfl
      have HWQ := Lib.hid hwq
      clear hwq
      have lk := KL_lt k
      have lw := sched_lt p hb 64 k
      obtain ⟨kk, hkk⟩ : ∃ kk, kk = KL.getD k 0 := ⟨_, rfl⟩
      obtain ⟨ww, hww⟩ : ∃ ww, ww = (schedL p 64).getD k 0 := ⟨_, rfl⟩
      rw [← hkk] at gk lk
      rw [← hww] at gw lw
      have HKK := Lib.hid hkk
      have HWW := Lib.hid hww
      clear hkk hww
      have k0 : (0 : Int) ≤ (k : Int) := by omega
      have k1 : (k : Int) < 64 := by omega
      go_wp2_with fail
      go_quiet ((go_at_call 81; exact Calls.quiet_of_same (rotK_any _ se _ oe (by decide) (by decide))))
      obtain ⟨tt, ht1, ht2, ht3⟩ := t_bits ⟨sa, sb, sc, sd, se, sf, sg, sh⟩ kk ww ⟨oa, ob, oc, od, oe, of, og, oh⟩ lk lw
      simp only at ht1
      rw [ht1]
      have HT3 := Lib.hid ht2
      clear ht1 ht2
      go_wp2_with fail
      refine (rotK_any (-2) sa _ oa (by decide) (by decide)).mono ?_
      rintro e1 w' ⟨rfl, rfl⟩
      go_wp2_with fail
      refine (rotK_any (-13) sa _ oa (by decide) (by decide)).mono ?_
      rintro e1 w' ⟨rfl, rfl⟩
      go_wp2_with fail
      refine (rotK_any (-22) sa _ oa (by decide) (by decide)).mono ?_
      rintro e1 w' ⟨rfl, rfl⟩
      go_wp2_with fail
      go_roundw
      case rel =>
        have hu := u_bits ⟨sa, sb, sc, sd, se, sf, sg, sh⟩ ⟨oa, ob, oc, od, oe, of, og, oh⟩
        simp only at hu
        rw [hu]
        refine ⟨k + 1, n + nq, by omega, by go_num, by rw [HWQ.out, World.drewN_drewN], stepF ⟨sa, sb, sc, sd, se, sf, sg, sh⟩ kk ww, by rw [HSS.out, HKK.out, HWW.out]; rfl, ?_, rfl, rfl, rfl, ?_, rfl, rfl, rfl⟩
        · simp only [stepF, ← HT3.out]
          rw [wv_add]
        · simp only [stepF, ← HT3.out]
          rw [wv_add]
      case measure => simp [intOf]; omega
    · obtain rfl : k = 64 := by omega
      rw [show ((64 : Nat) : Int) = 64 from rfl]
      have HSS := Lib.hid hS
      clear hS
      obtain ⟨sa, sb, sc, sd, se, sf, sg, sh⟩ := S
      obtain ⟨wq, hwq⟩ : ∃ wq, wq = w2.drewN n := ⟨_, rfl⟩
      rw [← hwq]
      have r1 : Blk wq w.heap.size 101 ((mixL ⟨a, b, c, d, e, f, g, h⟩ ⟨sa, sb, sc, sd, se, sf, sg, sh⟩ 0).map wv).toArray := by
        rw [hwq]; exact HS2.out.drewN n
      have r2 : Blk wq (w.heap.size + 1 + 1) 101 #[wv 0, wv 0, wv 0, wv 0, wv 0, wv 0, wv 0, wv 0] := by rw [hwq]; exact HR2.out.drewN n
      have r3 : Below w.heap.size w wq := by rw [hwq]; exact ⟨HBW.out.os, HBW.out.tape, HBW.out.output, HBW.out.size, HBW.out.block⟩
      clear hwq HS2 HR2 HBW HT2 HB2
      simp only
      go_wp2_with fail
      go_loopw [109] (fun x wr => ∃ j : Nat, j ≤ 8 ∧ x = .int .i64 j ∧ Blk wr w.heap.size 101 ((mixL ⟨a, b, c, d, e, f, g, h⟩ ⟨sa, sb, sc, sd, se, sf, sg, sh⟩ j).map wv).toArray ∧ Blk wr (w.heap.size + 1 + 1) 101 #[wv 0, wv 0, wv 0, wv 0, wv 0, wv 0, wv 0, wv 0] ∧ Below w.heap.size w wr) (fun s _ => 8 - (intOf s).toNat)
      case atStart => exact ⟨0, by omega, rfl, r1, r2, r3⟩
      case round =>
        obtain ⟨j, hj, rfl, m1, m2, m3⟩ := hrel
        clear r1 r2 r3
        by_cases hlt : j < 8
        · have hcase : j = 0 ∨ j = 1 ∨ j = 2 ∨ j = 3 ∨ j = 4 ∨ j = 5 ∨ j = 6 ∨ j = 7 := by omega
          have hx0 : ∀ W, (Instr.index 101 (.agg #[wv sa, wv sb, wv sc, wv sd, wv se, wv sf, wv sg, wv sh]) (.int .i64 0)).run Tryd.prog W = .ok (wv sa) W := fun _ => by kernel_rfl
          have hx1 : ∀ W, (Instr.index 101 (.agg #[wv sa, wv sb, wv sc, wv sd, wv se, wv sf, wv sg, wv sh]) (.int .i64 1)).run Tryd.prog W = .ok (wv sb) W := fun _ => by kernel_rfl
          have hx2 : ∀ W, (Instr.index 101 (.agg #[wv sa, wv sb, wv sc, wv sd, wv se, wv sf, wv sg, wv sh]) (.int .i64 2)).run Tryd.prog W = .ok (wv sc) W := fun _ => by kernel_rfl
          have hx3 : ∀ W, (Instr.index 101 (.agg #[wv sa, wv sb, wv sc, wv sd, wv se, wv sf, wv sg, wv sh]) (.int .i64 3)).run Tryd.prog W = .ok (wv sd) W := fun _ => by kernel_rfl
          have hx4 : ∀ W, (Instr.index 101 (.agg #[wv sa, wv sb, wv sc, wv sd, wv se, wv sf, wv sg, wv sh]) (.int .i64 4)).run Tryd.prog W = .ok (wv se) W := fun _ => by kernel_rfl
          have hx5 : ∀ W, (Instr.index 101 (.agg #[wv sa, wv sb, wv sc, wv sd, wv se, wv sf, wv sg, wv sh]) (.int .i64 5)).run Tryd.prog W = .ok (wv sf) W := fun _ => by kernel_rfl
          have hx6 : ∀ W, (Instr.index 101 (.agg #[wv sa, wv sb, wv sc, wv sd, wv se, wv sf, wv sg, wv sh]) (.int .i64 6)).run Tryd.prog W = .ok (wv sg) W := fun _ => by kernel_rfl
          have hx7 : ∀ W, (Instr.index 101 (.agg #[wv sa, wv sb, wv sc, wv sd, wv se, wv sf, wv sg, wv sh]) (.int .i64 7)).run Tryd.prog W = .ok (wv sh) W := fun _ => by kernel_rfl
          have cf := m1.frozen j
          have cc := m1.cell j
          have M1 := Lib.hid m1
          have M2 := Lib.hid m2
          have M3 := Lib.hid m3
          clear m1 m2 m3
          rcases hcase with rfl | rfl | rfl | rfl | rfl | rfl | rfl | rfl
          · simp [mixL] at cc
            simp only [Int.cast_ofNat_Int]
            go_wp2_with fail
            go_roundw
            case rel =>
              rw [wv_add a sa]
              exact ⟨1, by omega, by go_num, by simpa [mixL, addF] using M1.out.set_ 0 (wv ((a + sa) % 4294967296)), M2.out.far (by show w.heap.size + 1 + 1 ≠ w.heap.size; omega) _, M3.out.setCell (by simp) _⟩
            case measure => simp [intOf]
          · simp [mixL] at cc
            simp only [Int.cast_ofNat_Int]
            go_wp2_with fail
            go_roundw
            case rel =>
              rw [wv_add b sb]
              exact ⟨2, by omega, by go_num, by simpa [mixL, addF] using M1.out.set_ 1 (wv ((b + sb) % 4294967296)), M2.out.far (by show w.heap.size + 1 + 1 ≠ w.heap.size; omega) _, M3.out.setCell (by simp) _⟩
            case measure => simp [intOf]
          · simp [mixL] at cc
            simp only [Int.cast_ofNat_Int]
            go_wp2_with fail
            go_roundw
            case rel =>
              rw [wv_add c sc]
              exact ⟨3, by omega, by go_num, by simpa [mixL, addF] using M1.out.set_ 2 (wv ((c + sc) % 4294967296)), M2.out.far (by show w.heap.size + 1 + 1 ≠ w.heap.size; omega) _, M3.out.setCell (by simp) _⟩
            case measure => simp [intOf]
          · simp [mixL] at cc
            simp only [Int.cast_ofNat_Int]
            go_wp2_with fail
            go_roundw
            case rel =>
              rw [wv_add d sd]
              exact ⟨4, by omega, by go_num, by simpa [mixL, addF] using M1.out.set_ 3 (wv ((d + sd) % 4294967296)), M2.out.far (by show w.heap.size + 1 + 1 ≠ w.heap.size; omega) _, M3.out.setCell (by simp) _⟩
            case measure => simp [intOf]
          · simp [mixL] at cc
            simp only [Int.cast_ofNat_Int]
            go_wp2_with fail
            go_roundw
            case rel =>
              rw [wv_add e se]
              exact ⟨5, by omega, by go_num, by simpa [mixL, addF] using M1.out.set_ 4 (wv ((e + se) % 4294967296)), M2.out.far (by show w.heap.size + 1 + 1 ≠ w.heap.size; omega) _, M3.out.setCell (by simp) _⟩
            case measure => simp [intOf]
          · simp [mixL] at cc
            simp only [Int.cast_ofNat_Int]
            go_wp2_with fail
            go_roundw
            case rel =>
              rw [wv_add f sf]
              exact ⟨6, by omega, by go_num, by simpa [mixL, addF] using M1.out.set_ 5 (wv ((f + sf) % 4294967296)), M2.out.far (by show w.heap.size + 1 + 1 ≠ w.heap.size; omega) _, M3.out.setCell (by simp) _⟩
            case measure => simp [intOf]
          · simp [mixL] at cc
            simp only [Int.cast_ofNat_Int]
            go_wp2_with fail
            go_roundw
            case rel =>
              rw [wv_add g sg]
              exact ⟨7, by omega, by go_num, by simpa [mixL, addF] using M1.out.set_ 6 (wv ((g + sg) % 4294967296)), M2.out.far (by show w.heap.size + 1 + 1 ≠ w.heap.size; omega) _, M3.out.setCell (by simp) _⟩
            case measure => simp [intOf]
          · simp [mixL] at cc
            simp only [Int.cast_ofNat_Int]
            go_wp2_with fail
            go_roundw
            case rel =>
              rw [wv_add h sh]
              exact ⟨8, by omega, by go_num, by simpa [mixL, addF] using M1.out.set_ 7 (wv ((h + sh) % 4294967296)), M2.out.far (by show w.heap.size + 1 + 1 ≠ w.heap.size; omega) _, M3.out.setCell (by simp) _⟩
            case measure => simp [intOf]
        · obtain rfl : j = 8 := by omega
          rw [show ((8 : Nat) : Int) = 8 from rfl]
          have M1 := Lib.hid m1
          have M2 := Lib.hid m2
          have M3 := Lib.hid m3
          have HC : Hid (mixL ⟨a, b, c, d, e, f, g, h⟩ ⟨sa, sb, sc, sd, se, sf, sg, sh⟩ 8 = (compF ⟨a, b, c, d, e, f, g, h⟩ p).l) := by
            refine Lib.hid ?_
            unfold compF
            rw [← HSS.out]
            rfl
          clear m1 m2 m3
          go_wp2_with (first
            | (refine wpList_load_blk rfl 101 _ rfl w.heap.size rfl _ 101 _ M1.out Tryd.underlying101 rfl i32 ?_)
            | (refine wpList_store_blk rfl 101 _ _ rfl rfl (w.heap.size + 1 + 1) _ _ 101 rfl rfl M2.out rfl i32 (one_map (fun _ => rfl) _) ?_; intro w4 b4 o4))
          refine bodyPost_ret (results_blk Tryd.results77 _ _ (w.heap.size + 1 + 1) _ _ rfl b4 Tryd.underlying101 rfl i32) rfl ?_
          refine ⟨?_, M3.out.trans (o4.below (by simp; omega) M3.out.size)⟩
          rw [HC.out]
          rfl
end Go.Proofs.YtnkkbkceapcahaaDoor
