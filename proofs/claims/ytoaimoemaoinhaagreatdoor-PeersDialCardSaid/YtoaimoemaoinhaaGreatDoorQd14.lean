/- PeersX: a part of the proof. No condition beyond the premises of each theorem. -/
import Derived.Test.YtoaimoemaoinhaaGreatDoorQd13
import Derived.Test.YtoaimoemaoinhaaGreatDoorQd11
namespace Go.Proofs.YtoaimoemaoinhaaGreatDoor.Sk
open Go.RowKit Go.Rt
attribute [local go_sem ↓] Go.wp_at_zero Go.wp_at_succ
structure Tabs (w : World) : Prop where
  st : ∀ i, i < 8 → w.cell? ⟨0, i, none⟩ = some (wv (startF.l.getD i 0))
  kl : ∀ i, i < 64 → w.cell? ⟨1, i, none⟩ = some (wv (KL.getD i 0))
theorem Tabs.two {w : World} (h : Tabs w) : 2 ≤ w.heap.size := World.block_lt_of_cell? w _ (h.kl 0 (by omega))
theorem Tabs.below {w w' : World} {n : Nat} (h : Tabs w) (hb : Below n w w') (hn : 2 ≤ n) : Tabs w' :=
  ⟨fun i hi => (hb.cell (p := ⟨0, i, none⟩) (by simp; omega)).trans (h.st i hi), fun i hi => (hb.cell (p := ⟨1, i, none⟩) (by simp; omega)).trans (h.kl i hi)⟩
def rotK (k : Int) (x : Nat) : Nat := rotr k.natAbs x
theorem rotK_any (k : Int) (x : Nat) (w : World) (hx : x < 4294967296) (h1 : k ≤ -1) (h2 : -31 ≤ k) :
    Calls Tryz.prog 266 #[.int .u32 x, .int .i64 k] w fun e w' => e = .returned (.int .u32 (rotK k x : Nat)) ∧ w' = w :=
  (rot_at k.natAbs k x w (by omega) hx (by omega) (by omega)).mono fun _ _ ⟨h1, h2⟩ => ⟨h1, h2.symm⟩
theorem not_word (x : Nat) (h : x < 4294967296) : 4294967295 ^^^ x = 4294967295 - x := by
  have q := congrArg BitVec.toNat (BitVec.allOnes_xor (x := BitVec.ofNat 32 x))
  rw [BitVec.toNat_xor, BitVec.toNat_not, BitVec.toNat_allOnes, BitVec.toNat_ofNat, Nat.mod_eq_of_lt (by simpa using h)] at q
  exact q
theorem t_bits (s : S8) (k w : Nat) (hs : s.ok) (_ : k < 4294967296) (_ : w < 4294967296) : ∃ t : Nat, (((s.h : Int) + bits .xor .u32 (bits .xor .u32 ↑(rotK (-6) s.e) ↑(rotK (-11) s.e)) ↑(rotK (-25) s.e) +
      bits .xor .u32 (bits .and .u32 ↑s.e ↑s.f) (bits .and .u32 (bits .xor .u32 (if IntKind.u32.signed = true then -1 else IntKind.u32.max) ↑s.e) ↑s.g) + (k : Int)) % 4294967296 + (w : Int)) % 4294967296 = (t : Int) ∧ t = tF s k w ∧ t < 4294967296 := by
  obtain ⟨ha, hb, hc, hd, he, hf, hg, hh⟩ := hs
  refine ⟨tF s k w, ?_, rfl, Nat.mod_lt _ (by omega)⟩
  have e1 := e_bits s.e he
  have e2 : bits .xor .u32 (bits .and .u32 ↑s.e ↑s.f) (bits .and .u32 (bits .xor .u32 (if IntKind.u32.signed = true then -1 else IntKind.u32.max) ↑s.e) ↑s.g) = (chF s.e s.f s.g : Int) := by
    have e3 : bits .xor .u32 (if IntKind.u32.signed = true then -1 else IntKind.u32.max) ↑s.e = ((4294967295 - s.e : Nat) : Int) := by
      have e4 : (if IntKind.u32.signed = true then (-1 : Int) else IntKind.u32.max) = ((4294967295 : Nat) : Int) := by decide
      rw [e4, u32_xor_nat _ _ (by omega) he]
      rw [not_word s.e he]
    rw [e3, u32_and_nat _ _ he hf, u32_and_nat _ _ (by omega) hg, u32_xor_nat _ _ (and_lt he) (and_lt (by omega))]
    rfl
  rw [show rotK (-6) s.e = rotr 6 s.e from rfl, show rotK (-11) s.e = rotr 11 s.e from rfl, show rotK (-25) s.e = rotr 25 s.e from rfl, e1, e2]
  unfold tF
  omega
theorem u_bits (s : S8) (hs : s.ok) : (bits .xor .u32 (bits .xor .u32 ↑(rotK (-2) s.a) ↑(rotK (-13) s.a)) ↑(rotK (-22) s.a) + bits .xor .u32 (bits .xor .u32 (bits .and .u32 ↑s.a ↑s.b) (bits .and .u32 ↑s.a ↑s.c)) (bits .and .u32 ↑s.b ↑s.c)) % 4294967296 = (uF s : Int) := by
  obtain ⟨ha, hb, hc, hd, he, hf, hg, hh⟩ := hs
  rw [show rotK (-2) s.a = rotr 2 s.a from rfl, show rotK (-13) s.a = rotr 13 s.a from rfl, show rotK (-22) s.a = rotr 22 s.a from rfl, a_bits s.a ha, maj_bits s.a s.b s.c ha hb hc]
  unfold uF
  omega
theorem wv_add (a b : Nat) : Value.int .u32 (((a : Int) + (b : Int)) % 4294967296) = wv ((a + b) % 4294967296) := by
  unfold wv
  congr 1
def mixL (s t : S8) (j : Nat) : List Nat :=
  [if 0 < j then (addF s t).a else s.a, if 1 < j then (addF s t).b else s.b, if 2 < j then (addF s t).c else s.c, if 3 < j then (addF s t).d else s.d,
    if 4 < j then (addF s t).e else s.e, if 5 < j then (addF s t).f else s.f, if 6 < j then (addF s t).g else s.g, if 7 < j then (addF s t).h else s.h]
theorem i37 {L : List Nat} (h : L.length = 64) : (Tryz.prog.info? 303).map (·.size) = some ((L.map bv).toArray).size := by
  have : (Tryz.prog.info? 303).map (·.size) = some 64 := by kernel_rfl
  rw [this]; simp [h]
theorem i32 {s t : S8} {j : Nat} : (Tryz.prog.info? 310).map (·.size) = some (((mixL s t j).map wv).toArray).size := by
  have : (Tryz.prog.info? 310).map (·.size) = some 8 := by kernel_rfl
  rw [this]; simp [mixL]
set_option maxRecDepth 100000 in
set_option maxHeartbeats 1000000 in
theorem compress_any (s : S8) (p : List Nat) (hs : s.ok) (hp : p.length = 64) (hb : ∀ x ∈ p, x < 256) (w : World) (ht : Tabs w) :
    Calls Tryz.prog 254 #[.agg (s.l.map wv).toArray, .agg (p.map bv).toArray] w fun e w' => e = .returned (.agg ((compF s p).l.map wv).toArray) ∧ Below w.heap.size w w' := by
  obtain ⟨ha, hbb, hc, hd, he, hf, hg, hh⟩ := hs
  obtain ⟨a, b, c, d, e, f, g, h⟩ := s
  simp only [S8.l, List.map_cons, List.map_nil]
  have HBP : ∀ o, Blk (((w.alloc (.cells #[wv a, wv b, wv c, wv d, wv e, wv f, wv g, wv h] 310)).alloc (.cells (p.map bv).toArray 303)).alloc o) (w.heap.size + 1) 303 (p.map bv).toArray := by
    intro o
    have := Blk.new (w.alloc (.cells #[wv a, wv b, wv c, wv d, wv e, wv f, wv g, wv h] 310)) 303 (p.map bv).toArray
    rw [World.size_alloc] at this
    exact this.alloc o
  have HP := Lib.hid HBP
  have HT := Lib.hid ht
  clear HBP ht
  go_enter Tryz.func254, Tryz.ntmps254
  go_wp2_with (first
    | (refine wpList_load_blk rfl 303 _ rfl (w.heap.size + 1) rfl _ 303 _ (HP.out _) Tryz.underlying303 rfl (i37 hp) ?_)
    | (go_at_call 265
       refine (schedule_any p hp hb _).mono ?_
       rintro e1 w1 ⟨rfl, b1⟩
       have B1 := Lib.hid b1
       clear b1)
    | (refine wpList_store_blk rfl 323 _ _ rfl rfl w1.heap.size _ _ 323 rfl rfl (Blk.new _ 323 _) (by simp [schedL_len]) (i47 (by simp [schedL_len])) (one_map (fun _ => rfl) _) ?_
       intro w2 b2 o2
       have HB2 := Lib.hid b2
       have HO2 := Lib.hid o2
       clear b2 o2))
  have hz1 : w.heap.size + 3 ≤ w1.heap.size := by have := B1.out.size; simp at this; omega
  have q1 := HO2.out.below (n := w.heap.size) (by simp; omega) (by simp; omega)
  have BW : Below w.heap.size w w2 :=
    ((((Below.refl _ w).alloc (Nat.le_refl _) _).alloc (by simp) _).alloc (by simp; omega) _).trans ((B1.out.mono (by simp; omega)).trans (((Below.refl _ w1).alloc (by omega) _).trans q1))
  clear q1
  have hs2 : Blk w2 w.heap.size 310 #[wv a, wv b, wv c, wv d, wv e, wv f, wv g, wv h] := by
    have b0 : Blk w1 w.heap.size 310 #[wv a, wv b, wv c, wv d, wv e, wv f, wv g, wv h] := (((Blk.new w 310 _).alloc _).alloc _).below B1.out (by simp; omega)
    exact (b0.alloc _).only HO2.out (by simp; omega)
  have hr2 : Blk w2 (w.heap.size + 1 + 1) 310 #[wv 0, wv 0, wv 0, wv 0, wv 0, wv 0, wv 0, wv 0] := by
    have q := Blk.new ((w.alloc (.cells #[wv a, wv b, wv c, wv d, wv e, wv f, wv g, wv h] 310)).alloc (.cells (p.map bv).toArray 303)) 310 #[wv 0, wv 0, wv 0, wv 0, wv 0, wv 0, wv 0, wv 0]
    rw [World.size_alloc, World.size_alloc] at q
    have b0 := Blk.below (w' := w1) q B1.out (by simp)
    exact (b0.alloc _).only HO2.out (by simp; omega)
  have ht2 : Tabs w2 := HT.out.below BW HT.out.two
  have s0 := hs2.cell 0
  have s1 := hs2.cell 1
  have s2 := hs2.cell 2
  have s3 := hs2.cell 3
  have s4 := hs2.cell 4
  have s5 := hs2.cell 5
  have s6 := hs2.cell 6
  have s7 := hs2.cell 7
  simp only [List.getElem?_toArray, List.getElem?_cons_zero, List.getElem?_cons_succ] at s0 s1 s2 s3 s4 s5 s6 s7
  have HS2 := Lib.hid hs2
  have HR2 := Lib.hid hr2
  have HT2 := Lib.hid ht2
  have HBW := Lib.hid BW
  clear BW hs2 hr2 ht2 B1 HO2 HP HT
  go_quiet (fail)
  go_wp2_with fail
  clear s0 s1 s2 s3 s4 s5 s6 s7
  go_loopw [6, 7, 8, 9, 10, 11, 12, 13, 37] (fun x6 x7 x8 x9 x10 x11 x12 x13 x37 wr => ∃ k n : Nat, k ≤ 64 ∧ x37 = .int .i64 k ∧ wr = w2.drewN n ∧
    ∃ S, S = roundsF KL (schedL p 64) ⟨a, b, c, d, e, f, g, h⟩ k ∧ x6 = wv S.a ∧ x7 = wv S.b ∧ x8 = wv S.c ∧ x9 = wv S.d ∧ x10 = wv S.e ∧ x11 = wv S.f ∧ x12 = wv S.g ∧ x13 = wv S.h) (fun _ _ _ _ _ _ _ _ s _ => 64 - (intOf s).toNat)
  case atStart => exact ⟨0, _, by omega, rfl, rfl, _, rfl, rfl, rfl, rfl, rfl, rfl, rfl, rfl, rfl⟩
  case round =>
    obtain ⟨k, n, hk, rfl, rfl, S, hS, rfl, rfl, rfl, rfl, rfl, rfl, rfl, rfl⟩ := hrel
    by_cases hlt : k < 64
    · have ok := rounds_ok KL (schedL p 64) ⟨a, b, c, d, e, f, g, h⟩ ⟨ha, hbb, hc, hd, he, hf, hg, hh⟩ k
      rw [← hS] at ok
      have HSS := Lib.hid hS
      clear hS
      obtain ⟨sa, sb, sc, sd, se, sf, sg, sh⟩ := S
      obtain ⟨oa, ob, oc, od, oe, of, og, oh⟩ := ok
      simp only at oa ob oc od oe of og oh
      obtain ⟨wq, hwq⟩ : ∃ wq, wq = w2.drewN n := ⟨_, rfl⟩
      rw [← hwq]
      have gk : wq.cell? ⟨1, k, none⟩ = some (wv (KL.getD k 0)) := by rw [hwq]; exact HT2.out.kl k hlt
      have gw : wq.cell? ⟨w1.heap.size, k, none⟩ = some (wv ((schedL p 64).getD k 0)) := by
        rw [hwq]
        refine (HB2.out.cell k).trans ?_
        rw [map_get _ _ (by rw [schedL_len]; exact hlt), List.getD_eq_getElem?_getD, List.getElem?_eq_getElem (by rw [schedL_len]; exact hlt)]; rfl
      have HWQ := Lib.hid hwq
      clear hwq
      have lk := KL_lt k
      have lw := sched_lt p hb 64 k
      obtain ⟨kk, hkk⟩ : ∃ kk, kk = KL.getD k 0 := ⟨_, rfl⟩
      obtain ⟨ww, hww⟩ : ∃ ww, ww = (schedL p 64).getD k 0 := ⟨_, rfl⟩
      rw [← hkk] at gk lk
      rw [← hww] at gw lw
      have HKK := Lib.hid hkk
      have HWW := Lib.hid hww
      clear hkk hww
      have k0 : (0 : Int) ≤ (k : Int) := by omega
      have k1 : (k : Int) < 64 := by omega
      go_wp2_with fail
      go_quiet ((go_at_call 266; exact Calls.quiet_of_same (rotK_any _ se _ oe (by decide) (by decide))))
      obtain ⟨tt, ht1, ht2, ht3⟩ := t_bits ⟨sa, sb, sc, sd, se, sf, sg, sh⟩ kk ww ⟨oa, ob, oc, od, oe, of, og, oh⟩ lk lw
      simp only at ht1
      rw [ht1]
      have HT3 := Lib.hid ht2
      clear ht1 ht2
      go_wp2_with fail
      refine (rotK_any (-2) sa _ oa (by decide) (by decide)).mono ?_
      rintro e1 w' ⟨rfl, rfl⟩
      go_wp2_with fail
      refine (rotK_any (-13) sa _ oa (by decide) (by decide)).mono ?_
      rintro e1 w' ⟨rfl, rfl⟩
      go_wp2_with fail
      refine (rotK_any (-22) sa _ oa (by decide) (by decide)).mono ?_
      rintro e1 w' ⟨rfl, rfl⟩
      go_wp2_with fail
      go_roundw
      case rel =>
        have hu := u_bits ⟨sa, sb, sc, sd, se, sf, sg, sh⟩ ⟨oa, ob, oc, od, oe, of, og, oh⟩
        simp only at hu
        rw [hu]
        refine ⟨k + 1, n + nq, by omega, by go_num, by rw [HWQ.out, World.drewN_drewN], stepF ⟨sa, sb, sc, sd, se, sf, sg, sh⟩ kk ww, by rw [HSS.out, HKK.out, HWW.out]; rfl, ?_, rfl, rfl, rfl, ?_, rfl, rfl, rfl⟩
        · simp only [stepF, ← HT3.out]
          rw [wv_add]
        · simp only [stepF, ← HT3.out]
          rw [wv_add]
      case measure => simp [intOf]; omega
    · obtain rfl : k = 64 := by omega
      rw [show ((64 : Nat) : Int) = 64 from rfl]
      have HSS := Lib.hid hS
      clear hS
      obtain ⟨sa, sb, sc, sd, se, sf, sg, sh⟩ := S
      obtain ⟨wq, hwq⟩ : ∃ wq, wq = w2.drewN n := ⟨_, rfl⟩
      rw [← hwq]
      have r1 : Blk wq w.heap.size 310 ((mixL ⟨a, b, c, d, e, f, g, h⟩ ⟨sa, sb, sc, sd, se, sf, sg, sh⟩ 0).map wv).toArray := by
        rw [hwq]; exact HS2.out.drewN n
      have r2 : Blk wq (w.heap.size + 1 + 1) 310 #[wv 0, wv 0, wv 0, wv 0, wv 0, wv 0, wv 0, wv 0] := by rw [hwq]; exact HR2.out.drewN n
      have r3 : Below w.heap.size w wq := by rw [hwq]; exact ⟨HBW.out.os, HBW.out.tape, HBW.out.output, HBW.out.size, HBW.out.block⟩
      clear hwq HS2 HR2 HBW HT2 HB2
      simp only
      go_wp2_with fail
      go_loopw [109] (fun x wr => ∃ j : Nat, j ≤ 8 ∧ x = .int .i64 j ∧ Blk wr w.heap.size 310 ((mixL ⟨a, b, c, d, e, f, g, h⟩ ⟨sa, sb, sc, sd, se, sf, sg, sh⟩ j).map wv).toArray ∧ Blk wr (w.heap.size + 1 + 1) 310 #[wv 0, wv 0, wv 0, wv 0, wv 0, wv 0, wv 0, wv 0] ∧ Below w.heap.size w wr) (fun s _ => 8 - (intOf s).toNat)
      case atStart => exact ⟨0, by omega, rfl, r1, r2, r3⟩
      case round =>
        obtain ⟨j, hj, rfl, m1, m2, m3⟩ := hrel
        clear r1 r2 r3
        by_cases hlt : j < 8
        · have hcase : j = 0 ∨ j = 1 ∨ j = 2 ∨ j = 3 ∨ j = 4 ∨ j = 5 ∨ j = 6 ∨ j = 7 := by omega
          have hx0 : ∀ W, (Instr.index 310 (.agg #[wv sa, wv sb, wv sc, wv sd, wv se, wv sf, wv sg, wv sh]) (.int .i64 0)).run Tryz.prog W = .ok (wv sa) W := fun _ => by kernel_rfl
          have hx1 : ∀ W, (Instr.index 310 (.agg #[wv sa, wv sb, wv sc, wv sd, wv se, wv sf, wv sg, wv sh]) (.int .i64 1)).run Tryz.prog W = .ok (wv sb) W := fun _ => by kernel_rfl
          have hx2 : ∀ W, (Instr.index 310 (.agg #[wv sa, wv sb, wv sc, wv sd, wv se, wv sf, wv sg, wv sh]) (.int .i64 2)).run Tryz.prog W = .ok (wv sc) W := fun _ => by kernel_rfl
          have hx3 : ∀ W, (Instr.index 310 (.agg #[wv sa, wv sb, wv sc, wv sd, wv se, wv sf, wv sg, wv sh]) (.int .i64 3)).run Tryz.prog W = .ok (wv sd) W := fun _ => by kernel_rfl
          have hx4 : ∀ W, (Instr.index 310 (.agg #[wv sa, wv sb, wv sc, wv sd, wv se, wv sf, wv sg, wv sh]) (.int .i64 4)).run Tryz.prog W = .ok (wv se) W := fun _ => by kernel_rfl
          have hx5 : ∀ W, (Instr.index 310 (.agg #[wv sa, wv sb, wv sc, wv sd, wv se, wv sf, wv sg, wv sh]) (.int .i64 5)).run Tryz.prog W = .ok (wv sf) W := fun _ => by kernel_rfl
          have hx6 : ∀ W, (Instr.index 310 (.agg #[wv sa, wv sb, wv sc, wv sd, wv se, wv sf, wv sg, wv sh]) (.int .i64 6)).run Tryz.prog W = .ok (wv sg) W := fun _ => by kernel_rfl
          have hx7 : ∀ W, (Instr.index 310 (.agg #[wv sa, wv sb, wv sc, wv sd, wv se, wv sf, wv sg, wv sh]) (.int .i64 7)).run Tryz.prog W = .ok (wv sh) W := fun _ => by kernel_rfl
          have cf := m1.frozen j
          have cc := m1.cell j
          have M1 := Lib.hid m1
          have M2 := Lib.hid m2
          have M3 := Lib.hid m3
          clear m1 m2 m3
          rcases hcase with rfl | rfl | rfl | rfl | rfl | rfl | rfl | rfl
          · simp [mixL] at cc
            simp only [Int.cast_ofNat_Int]
            go_wp2_with fail
            go_roundw
            case rel =>
              rw [wv_add a sa]
              exact ⟨1, by omega, by go_num, by simpa [mixL, addF] using M1.out.set_ 0 (wv ((a + sa) % 4294967296)), M2.out.far (by show w.heap.size + 1 + 1 ≠ w.heap.size; omega) _, M3.out.setCell (by simp) _⟩
            case measure => simp [intOf]
          · simp [mixL] at cc
            simp only [Int.cast_ofNat_Int]
            go_wp2_with fail
            go_roundw
            case rel =>
              rw [wv_add b sb]
              exact ⟨2, by omega, by go_num, by simpa [mixL, addF] using M1.out.set_ 1 (wv ((b + sb) % 4294967296)), M2.out.far (by show w.heap.size + 1 + 1 ≠ w.heap.size; omega) _, M3.out.setCell (by simp) _⟩
            case measure => simp [intOf]
          · simp [mixL] at cc
            simp only [Int.cast_ofNat_Int]
            go_wp2_with fail
            go_roundw
            case rel =>
              rw [wv_add c sc]
              exact ⟨3, by omega, by go_num, by simpa [mixL, addF] using M1.out.set_ 2 (wv ((c + sc) % 4294967296)), M2.out.far (by show w.heap.size + 1 + 1 ≠ w.heap.size; omega) _, M3.out.setCell (by simp) _⟩
            case measure => simp [intOf]
          · simp [mixL] at cc
            simp only [Int.cast_ofNat_Int]
            go_wp2_with fail
            go_roundw
            case rel =>
              rw [wv_add d sd]
              exact ⟨4, by omega, by go_num, by simpa [mixL, addF] using M1.out.set_ 3 (wv ((d + sd) % 4294967296)), M2.out.far (by show w.heap.size + 1 + 1 ≠ w.heap.size; omega) _, M3.out.setCell (by simp) _⟩
            case measure => simp [intOf]
          · simp [mixL] at cc
            simp only [Int.cast_ofNat_Int]
            go_wp2_with fail
            go_roundw
            case rel =>
              rw [wv_add e se]
              exact ⟨5, by omega, by go_num, by simpa [mixL, addF] using M1.out.set_ 4 (wv ((e + se) % 4294967296)), M2.out.far (by show w.heap.size + 1 + 1 ≠ w.heap.size; omega) _, M3.out.setCell (by simp) _⟩
            case measure => simp [intOf]
          · simp [mixL] at cc
            simp only [Int.cast_ofNat_Int]
            go_wp2_with fail
            go_roundw
            case rel =>
              rw [wv_add f sf]
              exact ⟨6, by omega, by go_num, by simpa [mixL, addF] using M1.out.set_ 5 (wv ((f + sf) % 4294967296)), M2.out.far (by show w.heap.size + 1 + 1 ≠ w.heap.size; omega) _, M3.out.setCell (by simp) _⟩
            case measure => simp [intOf]
          · simp [mixL] at cc
            simp only [Int.cast_ofNat_Int]
            go_wp2_with fail
            go_roundw
            case rel =>
              rw [wv_add g sg]
              exact ⟨7, by omega, by go_num, by simpa [mixL, addF] using M1.out.set_ 6 (wv ((g + sg) % 4294967296)), M2.out.far (by show w.heap.size + 1 + 1 ≠ w.heap.size; omega) _, M3.out.setCell (by simp) _⟩
            case measure => simp [intOf]
          · simp [mixL] at cc
            simp only [Int.cast_ofNat_Int]
            go_wp2_with fail
            go_roundw
            case rel =>
              rw [wv_add h sh]
              exact ⟨8, by omega, by go_num, by simpa [mixL, addF] using M1.out.set_ 7 (wv ((h + sh) % 4294967296)), M2.out.far (by show w.heap.size + 1 + 1 ≠ w.heap.size; omega) _, M3.out.setCell (by simp) _⟩
            case measure => simp [intOf]
        · obtain rfl : j = 8 := by omega
          rw [show ((8 : Nat) : Int) = 8 from rfl]
          have M1 := Lib.hid m1
          have M2 := Lib.hid m2
          have M3 := Lib.hid m3
          have HC : Hid (mixL ⟨a, b, c, d, e, f, g, h⟩ ⟨sa, sb, sc, sd, se, sf, sg, sh⟩ 8 = (compF ⟨a, b, c, d, e, f, g, h⟩ p).l) := by
            refine Lib.hid ?_
            unfold compF
            rw [← HSS.out]
            rfl
          clear m1 m2 m3
          go_wp2_with (first
            | (refine wpList_load_blk rfl 310 _ rfl w.heap.size rfl _ 310 _ M1.out Tryz.underlying310 rfl i32 ?_)
            | (refine wpList_store_blk rfl 310 _ _ rfl rfl (w.heap.size + 1 + 1) _ _ 310 rfl rfl M2.out rfl i32 (one_map (fun _ => rfl) _) ?_; intro w4 b4 o4))
          refine bodyPost_ret (results_blk Tryz.results254 _ _ (w.heap.size + 1 + 1) _ _ rfl b4 Tryz.underlying310 rfl i32) rfl ?_
          refine ⟨?_, M3.out.trans (o4.below (by simp; omega) M3.out.size)⟩
          rw [HC.out]
          rfl
end Go.Proofs.YtoaimoemaoinhaaGreatDoor.Sk
namespace Go.Rw
open Go Go.RowKit Go.Rt
theorem wpListIn_store_run {F : Fence} {n : Nat} {P : Program} {w w' : World} {ops : Array Oper} {rest : List Oper} {o : Oper} {a : Act} {Q : Exit → Act → World → Prop} {v1 v2 : Value}
  (hg : o.guard = none) (ty : TypeId) (x y : Operand) (hop : o.op = Op.store ty x y) (hdst : o.dst = none) (hx : a.eval x = v1) (hy : a.eval y = v2) (hrun : (Instr.storeAt ty v1 v2).run P w = .ok () w') (hK : wpListIn F n P ops Q rest a w') :
  wpListIn F n P ops Q (o :: rest) a w := by
 refine wpListIn_plain hg fun K hK' => ?_
 unfold Oper.wpIn
 refine ⟨?_, ?_⟩
 ·
  simp [Oper.about, hop]
 ·
  rw [Oper.semAt_plain F _ _ (by rw [hop]; intro c hc'; cases hc')]
  simp [execOp, hop, hx, hy, hrun, Result.andThen]
  have e : a.put o.dst undef = a := by rw [hdst]; rfl
  have := hK' _ _ hK
  simpa [Oper.uponIn, e] using this
end Go.Rw
namespace Go.Proofs.YtoaimoemaoinhaaGreatDoor.Sk
open Go.RowKit Go.Shelf Go.Rt Go.Rw
attribute [local go_sem] Oper.semAt_some
theorem load_blk {P : Program} {w : World} {b : Nat} {ty t : TypeId} {cs : Array Value} {d : TypeDesc} (hc : Blk w b t cs) (hu : P.underlying ty = some d) (hd : d.isRow = true) (hi : (P.info? ty).map (·.size) = some cs.size) :
  (Instr.loadAt ty (.pointer (some ⟨b, 0, none⟩))).run P w = .ok (.agg cs) w := by
 have := run_loadAt_mid (P := P) w b 0 ty cs.toList d hc.range hu hd (by simpa using hi)
 simpa using this
theorem store_blk {P : Program} {w : World} {b : Nat} {ty t : TypeId} {cs cells : Array Value} (hc : Blk w b t cs) (hs : cells.size = cs.size) (hi : (P.info? ty).map (·.size) = some cells.size) (h1 : cells.all (·.oneCell') = true) :
  ∃ w', (Instr.storeAt ty (.pointer (some ⟨b, 0, none⟩)) (.agg cells)).run P w = .ok () w' ∧ Blk w' b t cells ∧ Only [b] w w' :=
 ⟨_, run_storeAt_mid (P := P) w b 0 ty cells (by rw [hs]; exact hc.there) hi h1, by simpa using hc.setCells cells.toList (by simpa using hs), only_setCells b _ 0 w⟩
def stF (b : ByteArray) : Nat → S8
 | 0 => startF
 | k + 1 => compF (stF b k) (blkL (allL b) k)
theorem start_ok : startF.ok := by unfold S8.ok startF; decide
theorem st_ok (b : ByteArray) (k : Nat) : (stF b k).ok := by
 cases k with
 | zero => exact start_ok
 | succ k => exact comp_ok _ _
def outF (s : S8) : List Nat := (List.range 32).map fun i => s.l.getD (i / 4) 0 / 2 ^ (24 - i % 4 * 8) % 256
def outK (s : S8) (i : Nat) : List Nat := (outF s).take i ++ List.replicate (32 - i) 0
theorem outF_len (s : S8) : (outF s).length = 32 := by simp [outF]
theorem outK_set (s : S8) (i : Nat) (hi : i < 32) : (outK s i).set i (s.l.getD (i / 4) 0 / 2 ^ (24 - i % 4 * 8) % 256) = outK s (i + 1) := by
 unfold outK
 rw [List.set_append_right _ _ (by simp [outF_len]; omega), List.take_succ_eq_append_getElem (by rw [outF_len]; exact hi), List.append_assoc]
 congr 1
 rw [show 32 - i = (32 - (i + 1)) + 1 by omega, List.replicate_succ]
 have : i - ((outF s).take i).length = 0 := by rw [List.length_take, outF_len]; omega
 rw [this]
 simp [outF]
theorem outK_end (s : S8) : outK s 32 = outF s := by
 unfold outK
 rw [List.take_of_length_le (by rw [outF_len]; omega)]
 simp
def sumF (b : ByteArray) : List Nat := outF (stF b (manyN b))
def toBytes (l : List Nat) : ByteArray := ⟨(l.map UInt8.ofNat).toArray⟩
theorem l_size (s : S8) : ((s.l.map wv).toArray).size = 8 := rfl
theorem i32s {s : S8} : (Tryz.prog.info? 310).map (·.size) = some ((s.l.map wv).toArray).size := by
 have : (Tryz.prog.info? 310).map (·.size) = some 8 := by kernel_rfl
 rw [this]; rfl
theorem blocks_in (F : Fence) (n : Nat) (h19 : F.fn 253) (hro : F.round = none) (b : ByteArray) (w : World) :
  CallsIn F n Tryz.prog 253 #[.string b] w fun e w' => e = .returned (.func (.func 264) #[] #[.pointer (some ⟨w.heap.size, 0, none⟩)]) ∧ w' = w.alloc (.cells #[.string b] 9) := by
 refine callsIn_of_wp Tryz.func253 rfl h19 ?_ hro
 simp only [Tryz.ntmps253, List.size_toArray, List.length_cons, List.length_nil, Nat.reduceAdd, Nat.reduceSub, Array.replicate_succ, Array.replicate_zero, List.push_toArray, List.append_toArray, List.nil_append, List.cons_append]
 gi_wp2
 go_ret
 exact ⟨rfl, rfl⟩
def SumI (w : World) (Bs : Nat) (b : ByteArray) (k : Nat) (T : List Nat) (W : World) : Prop :=
 Blk W Bs 310 ((stF b k).l.map wv).toArray ∧ Bs ∉ T ∧ Below w.heap.size w W ∧ (∀ r ∈ T, w.heap.size ≤ r) ∧ w.heap.size ≤ Bs
def SumA (w : World) (b : ByteArray) (Bp k : Nat) : Act := ⟨#[.string b, undef, .string ⟨#[]⟩, .pointer (some ⟨w.heap.size, 0, none⟩), .pointer (some ⟨Bp, 0, none⟩), undef, undef, .agg #[wv 1779033703, wv 3144134277, wv 1013904242, wv 2773480762, wv 1359893119, wv 2600822924, wv 528734635, wv 1541459225], .string b, .func (.func 264) #[] #[.pointer (some ⟨w.heap.size + 1, 0, none⟩)], .agg ((blkL (allL b) k).map bv).toArray, undef, undef, undef, undef, undef, undef, undef, undef, undef, undef, undef, undef, undef, undef, undef, undef, undef, undef, undef, undef, undef], []⟩
def SumJ (w : World) (b : ByteArray) (a' : Act) (k : Nat) (T : List Nat) (W : World) : Prop :=
 ∃ Bp, a' = SumA w b Bp k ∧ Blk W Bp 303 ((blkL (allL b) k).map bv).toArray ∧ Bp ∉ T ∧ w.heap.size < Bp ∧ SumI w w.heap.size b k T W
theorem blk_more {W : World} {B : Nat} {t : TypeId} {cs : Array Value} (h : Blk W B t cs) {T T' : List Nat} (ho : B ∉ T) (hT : ∀ r ∈ T', r ∈ T ∨ W.heap.size ≤ r) : B ∉ T' := by
 intro hm
 have := h.lt
 rcases hT B hm with q | q
 ·
  exact ho q
 ·
  omega
theorem sumI_abides (w : World) (Bs : Nat) (b : ByteArray) : Rt.Abides (SumI w Bs b) := by
 rintro k T A T' B ⟨h1, h2, h3, h4, h5⟩ ho hT hlt
 have hz := h3.size
 exact ⟨h1.only ho h2, blk_more h1 h2 hT, h3.trans (ho.below h4 hz), fun r hr => (hT r hr).elim (h4 r) (fun q => by omega), h5⟩
theorem sumJ_abides (w : World) (b : ByteArray) (a' : Act) : Rt.Abides (SumJ w b a') := by
 rintro k T A T' B ⟨Bp, h1, h2, h3, h4, h5⟩ ho hT hlt
 exact ⟨Bp, h1, h2.only ho h3, blk_more h2 h3 hT, h4, sumI_abides w w.heap.size b k T A T' B h5 ho hT hlt⟩
set_option maxRecDepth 100000 in
set_option maxHeartbeats 2000000 in
theorem sum_any (b : ByteArray) (hb : b.size ≤ 100000) (w : World) (ht : Tabs w) :
  Calls Tryz.prog 243 #[.string b] w fun e w' => e = .returned (.string (toBytes (sumF b))) ∧ Below w.heap.size w w' := by
 refine (callsIn_wide (n := 4)).1 ?_
 refine callsIn_of_wp_marks Tryz.func243 rfl trivial ?_ rfl
 simp only [Tryz.ntmps243, List.size_toArray, List.length_cons, List.length_nil, Nat.reduceAdd, Nat.reduceSub, Array.replicate_succ, Array.replicate_zero, List.push_toArray, List.append_toArray, List.nil_append, List.cons_append]
 have s0 := ht.st 0 (by omega)
 have s1 := ht.st 1 (by omega)
 have s2 := ht.st 2 (by omega)
 have s3 := ht.st 3 (by omega)
 have s4 := ht.st 4 (by omega)
 have s5 := ht.st 5 (by omega)
 have s6 := ht.st 6 (by omega)
 have s7 := ht.st 7 (by omega)
 simp only [S8.l, startF, List.getD_cons_zero, List.getD_cons_succ] at s0 s1 s2 s3 s4 s5 s6 s7
 have HT := Lib.hid ht
 clear ht
 gi_wp2_with (refine ⟨trivial, ?_⟩; gi_at_call 253; refine (blocks_in Fence.wide _ trivial rfl _ _).mono ?_; rintro e w' ⟨rfl, rfl⟩)
 clear s0 s1 s2 s3 s4 s5 s6 s7
 obtain ⟨W0, hW0⟩ : ∃ W0, (w.alloc (.cells (startF.l.map wv).toArray 310)).alloc (.cells #[.string b] 9) = W0 := ⟨_, rfl⟩
 have bS : Blk W0 w.heap.size 310 (startF.l.map wv).toArray := by rw [← hW0]; exact (Blk.new w 310 _).alloc _
 have bB : Boxed W0 (w.heap.size + 1) 9 (.string b) := by
  rw [← hW0]; have := Boxed.new (w.alloc (.cells (startF.l.map wv).toArray 310)) 9 (.string b); rw [World.size_alloc] at this; exact this
 have hB0 : Below w.heap.size w W0 := by rw [← hW0]; exact ((Below.refl _ w).alloc (Nat.le_refl _) _).alloc (by simp) _
 have hsz : W0.heap.size = w.heap.size + 2 := by rw [← hW0]; simp
 have hW1 : (w.alloc (.cells #[.int .u32 1779033703, .int .u32 3144134277, .int .u32 1013904242, .int .u32 2773480762, .int .u32 1359893119, .int .u32 2600822924, .int .u32 528734635, .int .u32 1541459225] 310)).alloc (.cells #[.string b] 9) = W0 := hW0
 rw [hW1]
 clear hW0 hW1
 refine wpIn_rangeFunc_TB (F := Fence.wide) (n := 4) rfl (by omega) (gf := 264) (lb := #[.pointer (some ⟨w.heap.size + 1, 0, none⟩)]) rfl trivial (enters_of Tryz.func264 (by kernel_rfl) rfl)
  (blocks1_runs Fence.wide 3 trivial rfl (by omega) (w.heap.size + 1) b hb) ?pre ?lt (fun _ => rfl) (SumI w w.heap.size b) (fun _ _ _ _ => False) (sumI_abides w w.heap.size b) ?abx ?start
  (SumJ w b) (sumJ_abides w b) ?assign ?body ?done ?stop
 case pre => intro W hW; exact (hW.block _ bB.lt).trans bB
 case lt => intro r hr; simp only [List.mem_singleton] at hr; subst hr; exact bB.lt
 case abx => intro c k T A T' B h; exact h.elim
 case start => exact ⟨bS, by simp, hB0, by intro r hr; simp only [List.mem_singleton] at hr; omega, Nat.le_refl _⟩
 case assign =>
  intro l k hk T W K hI hTl hK
  rw [blocks_len] at hk
  obtain ⟨W2, hrun, b2, o2⟩ := store_blk (P := Tryz.prog) (ty := 303) (cells := ((blkL (allL b) k).map bv).toArray) (Blk.new W 303 (List.replicate 64 (bv 0)).toArray) (by simp [blk_len b k hk]) (i37 (blk_len b k hk)) (one_map (fun _ => rfl) _)
  have HRN := Lib.hid hrun
  have fin : KeepsT T W W2 ∧ SumJ w b (SumA w b W.heap.size k) k T W2 := by
   obtain ⟨h1, h2, h3, h4, h5⟩ := hI
   have hn : W.heap.size ∉ T := fun hm => by have := hTl _ hm; omega
   have oo : Only [W.heap.size] W W2 := (Only.alloc _ _ _).trans o2
   have hlt := h1.lt
   refine ⟨KeepsT.of_only oo (fun r hr => by have := hTl r hr; simp; omega) hTl, W.heap.size, rfl, b2, hn, by omega, h1.only oo (by simp; omega), h2, h3.trans (oo.below (by simp; exact h3.size) h3.size), h4, h5⟩
  have HK := Lib.hid (hK _ W2 fin.1 fin.2)
  clear hK fin hrun b2 o2 hI
  simp only [blocks_get]
  gi_wp2_with (refine wpListIn_store_run rfl 303 _ _ rfl rfl rfl rfl HRN.out ?_)
  exact HK.out
 case body =>
  rintro l k hk T a' W ⟨Bp, rfl, bp, hn, hlt, h1, h2, h3, h4, h5⟩ hTl
  rw [blocks_len] at hk
  unfold SumA
  have ld1 := Lib.hid (load_blk (P := Tryz.prog) h1 Tryz.underlying310 rfl i32s)
  have ld2 := Lib.hid (load_blk (P := Tryz.prog) bp Tryz.underlying303 rfl (i37 (blk_len b k hk)))
  have hc := Lib.hid (compress_any (stF b k) (blkL (allL b) k) (st_ok b k) (blk_len b k hk) (blk_lt b k) W (HT.out.below h3 HT.out.two))
  have H1 := Lib.hid h1
  have H3 := Lib.hid h3
  have H4 := Lib.hid h4
  clear bp hn h1 h3 h4
  gi_wp2_with (first
   | (refine wpListIn_load_run rfl 310 _ rfl rfl ld1.out ?_)
   | (refine wpListIn_load_run rfl 303 _ rfl rfl ld2.out ?_))
  refine ⟨trivial, ?_⟩
  refine (CallsIn.inRound l ((callsIn_wide (n := 1)).2 hc.out)).mono ?_
  rintro e w2 ⟨rfl, b2⟩
  have hBs := H1.out.lt
  obtain ⟨W3, hrun3, b3, o3⟩ := store_blk (P := Tryz.prog) (ty := 310) (cells := ((stF b (k + 1)).l.map wv).toArray) (H1.out.below b2 hBs) (by rw [l_size, l_size]) i32s (one_map (fun _ => rfl) _)
  have HRN := Lib.hid hrun3
  have fin : KeepsT T W W3 ∧ SumI w w.heap.size b (k + 1) T W3 := by
   have oo : Only [w.heap.size] W W3 := (Only.of_below b2).trans o3
   refine ⟨KeepsT.of_only oo (fun r hr hm => ?_) hTl, b3, h2, H3.out.trans (oo.below (by simp) H3.out.size), H4.out, Nat.le_refl _⟩
   simp only [List.mem_singleton] at hm
   subst hm
   exact h2 hr
  have FIN := Lib.hid fin
  clear fin hrun3 b3 o3 b2
  gi_wp2_with (refine wpListIn_store_run rfl 310 _ _ rfl rfl rfl rfl HRN.out ?_)
  exact FIN.out
 case done =>
  rintro D T W hD hTl ⟨h1, h2, h3, h4, h5⟩ hK
  rw [blocks_len] at h1
  obtain ⟨S, hS⟩ : ∃ S, S = stF b (manyN b) := ⟨_, rfl⟩
  rw [← hS] at h1
  have HS := Lib.hid hS
  have H1 := Lib.hid h1
  have H3 := Lib.hid h3
  have HK := Lib.hid hK
  have hDl := hTl D hD
  have hBl := h1.lt
  have hDb := h4 D hD
  have h4' := Lib.hid h4
  clear hS h1 h3 hK h4 h5
  gi_wp2
  gi_loopw [14] (fun x wr => ∃ i : Nat, i ≤ 32 ∧ x = .int .i64 i ∧ Blk wr W.heap.size 315 ((outK S i).map bv).toArray ∧ Only [W.heap.size] W wr) (fun s _ => 32 - (intOf s).toNat)
  case atStart =>
   refine ⟨0, by omega, rfl, ?_, Only.alloc _ _ _⟩
   exact Blk.new W 315 ((outK S 0).map bv).toArray
  case round =>
   obtain ⟨i, hi, rfl, b1, o1⟩ := hrel
   by_cases hlt : i < 32
   ·
    have hst : Blk wr w.heap.size 310 (S.l.map wv).toArray := H1.out.only o1 (by simp; omega)
    have hSl : S.l.length = 8 := rfl
    have c1 := hst.cell (i / 4)
    rw [map_get _ _ (by rw [hSl]; omega)] at c1
    have hx : S.l[i / 4]'(by rw [hSl]; omega) = S.l.getD (i / 4) 0 := by rw [List.getD_eq_getElem?_getD, List.getElem?_eq_getElem (by rw [hSl]; omega)]; rfl
    rw [hx] at c1
    obtain ⟨x, hxe⟩ : ∃ x, x = S.l.getD (i / 4) 0 := ⟨_, rfl⟩
    rw [← hxe] at c1
    have HX := Lib.hid hxe
    have c2 : wr.cell? ⟨W.heap.size, i, none⟩ = some (bv 0) := by
     refine (b1.cell i).trans ?_
     rw [map_get _ _ (by simp [outK, outF]; omega)]
     unfold outK
     rw [List.getElem_append_right (by simp [outF]; omega)]
     simp
    have f2 := b1.frozen i
    have HB1 := Lib.hid b1
    have HO1 := Lib.hid o1
    clear b1 o1 hst hx hxe hSl
    have r0 : 0 ≤ (i : Int) / 4 := by omega
    have r1 : (i : Int) / 4 < 8 := by omega
    have r2 : ((i : Int) / 4).toNat = i / 4 := by omega
    have r3 : (0 : Int) ≤ (i : Int) := by omega
    have r4 : (i : Int) < 32 := by omega
    have r5 : 0 ≤ 24 - (i : Int) % 4 * 8 := by omega
    have r6 : (i : Int) % 4 * 8 ≤ 24 := by omega
    have r7 : (24 - (i : Int) % 4 * 8).toNat = 24 - i % 4 * 8 := by omega
    gi_wp2
    go_roundw
    case rel =>
     have ev : Value.int .u8 ((x : Int) / 2 ^ (24 - i % 4 * 8) % 256) = bv (x / 2 ^ (24 - i % 4 * 8) % 256) := by
      unfold bv
      rw [Int.natCast_emod, Int.natCast_ediv, Int.natCast_pow]
      rfl
     rw [ev]
     have q := HB1.out.set_ i (bv (x / 2 ^ (24 - i % 4 * 8) % 256))
     rw [map_set, HX.out, outK_set S i hlt] at q
     rw [HX.out]
     exact ⟨i + 1, by omega, by go_num, q, HO1.out.trans (Only.setCell _ _ _ (by simp))⟩
    case measure => simp [intOf]; omega
   ·
    obtain rfl : i = 32 := by omega
    rw [outK_end] at b1
    have hcv : (convert 124 9 (.slice (some ⟨W.heap.size, 0, none⟩) 32 32)).run Tryz.prog wr = .ok (.string (toBytes (outF S))) wr := by
     have hl : ((outF S).map UInt8.ofNat).length = 32 := by rw [List.length_map, outF_len]
     have q := run_convert_bytes_back (P := Tryz.prog) wr 124 9 5 ⟨W.heap.size, 0, none⟩ 32 ((outF S).map UInt8.ofNat) und29 und5 und9 ?_
     ·
      rw [hl] at q; exact q
     ·
      intro j hj
      rw [hl] at hj
      have e : (⟨W.heap.size, 0, none⟩ : Addr).add j = ⟨W.heap.size, j, none⟩ := by unfold Addr.add; split <;> simp_all
      rw [e, b1.cell j, map_get _ _ (by rw [outF_len]; exact hj), List.getElem_map]
      have hlt : (outF S)[j]'(by rw [outF_len]; exact hj) < 256 := by simp only [outF, List.getElem_map]; exact Nat.mod_lt _ (by omega)
      rw [UInt8.toNat_ofNat', Nat.mod_eq_of_lt hlt]
    have HCV := Lib.hid hcv
    have HO1 := Lib.hid o1
    clear b1 hcv o1
    gi_wp2_with (refine wpListIn_conv_run rfl 124 9 _ rfl rfl HCV.out ?_)
    have hKr : wr.heap[D]? = some (.deferred (some [])) := (HO1.out.block D hDl (by simp; omega)).trans HK.out
    refine ⟨by simp, .inl ⟨_, _, rfl, run_takeDeferred hKr, ?_⟩⟩
    refine ⟨_, results_tmp rfl _ _ _, ?_, ?_⟩
    ·
     rw [HS.out]; rfl
    ·
     exact (H3.out.trans (HO1.out.below (by simp; omega) (by omega))).trans ((Only.putObj (bs := T) _ _ _ hD).below h4'.out (by have := HO1.out.size; omega))
 case stop =>
  rintro D T c k W _ _ _ h _
  exact h.elim
end Go.Proofs.YtoaimoemaoinhaaGreatDoor.Sk
