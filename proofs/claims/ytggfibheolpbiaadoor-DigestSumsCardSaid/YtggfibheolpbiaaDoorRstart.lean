/- The reference's Start. -/
import Derived.Test.YtggfibheolpbiaaDoorRprimes
import Derived.Test.YtggfibheolpbiaaDoorSum
namespace Go.Proofs.YtggfibheolpbiaaDoor
open Go.RowKit Go.Rt Go.Rw

def startK (k : Nat) : List Nat := startF.l.take k ++ List.replicate (8 - k) 0
theorem start_len : startF.l.length = 8 := rfl
theorem startK_len (k : Nat) (h : k ≤ 8) : (startK k).length = 8 := by
  unfold startK
  rw [List.length_append, List.length_take, start_len, List.length_replicate]
  omega
theorem startK_set (k : Nat) (h : k < 8) : (startK k).set k (startF.l[k]'(by rw [start_len]; exact h)) = startK (k + 1) := by
  unfold startK
  have hl : (startF.l.take k).length = k := by rw [List.length_take, start_len]; omega
  rw [List.set_append_right _ _ (by omega), hl, Nat.sub_self, List.take_succ_eq_append_getElem (by rw [start_len]; exact h), List.append_assoc]
  congr 1
  rw [show 8 - k = (8 - (k + 1)) + 1 by omega, List.replicate_succ]
  rfl
theorem startK_get (k : Nat) (h : k < 8) : (startK k)[k]? = some 0 := by
  unfold startK
  rw [List.getElem?_append_right (by rw [List.length_take]; omega), List.length_take, start_len, Nat.min_eq_left (by omega), Nat.sub_self, show 8 - k = (8 - (k + 1)) + 1 by omega, List.replicate_succ]
  rfl
theorem i32l {L : List Nat} (h : L.length = 8) : (Tryd.prog.info? 32).map (·.size) = some ((L.map wv).toArray).size := by
  have : (Tryd.prog.info? 32).map (·.size) = some 8 := by kernel_rfl
  rw [this]; simp [h]
theorem P8_bd {i : Nat} (h : i < 8) : (P64.take 8)[i]'(by rw [List.length_take, P64_len]; omega) < 400 := by
  have := (P64_bd _ (List.mem_of_mem_take (List.getElem_mem (l := P64.take 8) (n := i) (by rw [List.length_take, P64_len]; omega)))).2
  omega

set_option maxRecDepth 100000 in
set_option maxHeartbeats 1000000 in
theorem start_any (w : World) :
    Calls Tryd.prog 23 #[] w fun e w' => e = .returned (.agg (startF.l.map wv).toArray) ∧ Below w.heap.size w w' := by
  have HPR := Lib.hid (fun w => primes_any 8 w (by omega))
  have HRT := Lib.hid (fun (i : Nat) (h : i < 8) w => root2 _ w (P8_bd h))
  have h8 : (P64.take 8).length = 8 := rfl
  go_enter Tryd.func23, Tryd.ntmps23
  go_wp2_with fail
  refine (HPR.out _).mono ?_
  rintro e w1 ⟨v, rfl, s1, b1⟩
  obtain ⟨_, sp, cp, rfl⟩ := (s1.at qc_len).len
  rw [h8] at s1 ⊢
  have hz := b1.size
  simp only [World.size_alloc] at hz
  have m1 : Blk w1 (w.heap.size + 1) 32 ((startK 0).map wv).toArray := by
    have := Blk.new (w.alloc (.cells ((startK 0).map wv).toArray 32)) 32 ((startK 0).map wv).toArray
    rw [World.size_alloc] at this
    exact Blk.below (w' := w1) this b1 (by simp)
  have m0 : Blk w1 w.heap.size 32 ((startK 0).map wv).toArray := by
    have := (Blk.new w 32 ((startK 0).map wv).toArray).alloc (.cells ((startK 0).map wv).toArray 32)
    exact Blk.below (w' := w1) this b1 (by simp; omega)
  have bw : Below w.heap.size w w1 := (((Below.refl _ w).alloc (Nat.le_refl _) _).alloc (by simp) _).trans (b1.mono (by simp; omega))
  have HS1 := Lib.hid (s1.at qc_len)
  have HLT := Lib.hid (s1.lt)
  have M0 := Lib.hid m0
  have M1 := Lib.hid m1
  have HBW := Lib.hid bw
  clear s1 b1 m0 m1 bw
  obtain ⟨bq, oq, rfl, q0, cL⟩ := HS1.out.get (by rw [h8]; omega)
  have hbq : w.heap.size + 2 ≤ bq := by have := (HLT.out bq rfl).1; simp at this; omega
  have HCL := Lib.hid cL
  clear cL HLT
  go_wp2_with fail
  go_loopw [3] (fun i wr => ∃ k : Nat, k ≤ 8 ∧ i = .int .i64 k ∧ Blk wr (w.heap.size + 1) 32 ((startK k).map wv).toArray ∧ Only [w.heap.size + 1] w1 wr) (fun i _ => 8 - (intOf i).toNat)
  case atStart => exact ⟨0, Nat.zero_le _, rfl, M1.out, Only.refl _ _⟩
  case round =>
    obtain ⟨k, hk, rfl, m1, o1⟩ := hrel
    by_cases hlt : k < 8
    · have k0 := (World.cell?_of_block (a := ⟨bq, oq + k * 1 + 0, none⟩) (o1.block bq q0 (by simp; omega))).trans (HCL.out k 0 (by rw [h8]; exact hlt) (by omega))
      simp only [qc, List.getElem?_cons_zero, Nat.add_zero, Nat.mul_one] at k0
      have hroot := HRT.out k hlt
      rw [root_H hlt] at hroot
      have hset := startK_set k hlt
      obtain ⟨q, hq⟩ : ∃ q, q = (P64.take 8)[k]'(by rw [h8]; exact hlt) := ⟨_, rfl⟩
      obtain ⟨x, hx⟩ : ∃ x, x = startF.l[k]'(by rw [start_len]; exact hlt) := ⟨_, rfl⟩
      rw [← hq] at k0 hroot
      rw [← hx] at hroot hset
      have HRO := Lib.hid hroot
      have c1 : wr.cell? ⟨w.heap.size + 1, k, none⟩ = some (wv 0) := by
        rw [m1.cell k]
        simp [startK_get k hlt]
      have f1 := m1.frozen k
      have HSE := Lib.hid hset
      have N1 := Lib.hid m1
      have O1 := Lib.hid o1
      clear hq hx hroot hset m1 o1
      go_wp2_with fail
      refine (HRO.out _).mono ?_
      rintro e w2 ⟨rfl, rfl⟩
      go_wp2_with fail
      go_roundw
      case rel =>
        have := N1.out.set_ k (wv x)
        rw [map_set, HSE.out] at this
        exact ⟨k + 1, by omega, by go_num, this, O1.out.trans (Only.setCell _ _ _ (by simp))⟩
      case measure => simp [intOf]; omega
    · obtain rfl : k = 8 := by omega
      have N1 := Lib.hid m1
      have N0 := Lib.hid (M0.out.only o1 (by simp))
      have NB := Lib.hid (HBW.out.trans (o1.below (n := w.heap.size) (by simp) HBW.out.size))
      clear m1 o1
      go_wp2_with (first
        | (refine wpList_load_blk rfl 32 _ rfl (w.heap.size + 1) rfl _ 32 _ N1.out Tryd.underlying32 rfl (i32l rfl) ?_)
        | (refine wpList_store_blk rfl 32 _ _ rfl rfl w.heap.size _ _ 32 rfl rfl N0.out rfl (i32l rfl) (one_map (fun _ => rfl) _) ?_; intro w4 b4 o4))
      refine bodyPost_ret (results_blk Tryd.results23 _ _ w.heap.size _ _ rfl b4 Tryd.underlying32 rfl (i32l rfl)) rfl ?_
      exact ⟨rfl, NB.out.trans (o4.below (by simp) NB.out.size)⟩
end Go.Proofs.YtggfibheolpbiaaDoor
