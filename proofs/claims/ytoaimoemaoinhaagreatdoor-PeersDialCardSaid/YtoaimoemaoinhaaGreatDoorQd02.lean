/- PeersX: a part of the proof. No condition beyond the premises of each theorem. -/
import Derived.Test.YtoaimoemaoinhaaGreatDoorQd01
import Derived.Laws.RangeAny
import Derived.Lib.OthersKept
import Derived.LoopTactic
import Derived.WalkSmall
import Derived.Laws.BitsAllLaws
namespace Go.Proofs.YtoaimoemaoinhaaGreatDoor
open Go.RowKit Go.Rt
theorem atB_get (s : ByteArray) (i : Nat) (h : i < s.size) : atB s i = s[i].toNat := by
  have hd : i < s.data.size := h
  unfold atB Array.getD
  rw [dif_pos hd]
  rfl
theorem nameF_no (s : ByteArray) (i : Nat) (h : i < s.size) (hf : okAt s i = false) : nameF s = false := by
  unfold nameF
  cases hh : (List.range s.size).all (okAt s) with
  | false => simp
  | true => rw [List.all_eq_true] at hh; rw [hh i (List.mem_range.2 h)] at hf; cases hf
theorem nameF_yes (s : ByteArray) (h0 : 0 < s.size) (h1 : s.size ≤ 32) (h : ∀ i, i < s.size → okAt s i = true) : nameF s = true := by
  unfold nameF
  rw [decide_eq_true h0, decide_eq_true h1]
  simp only [Bool.and_true, Bool.true_and, List.all_eq_true]
  intro i hi
  exact h i (List.mem_range.1 hi)
theorem nameF_size (s : ByteArray) (h : nameF s = true) : 0 < s.size ∧ s.size ≤ 32 := by
  unfold nameF at h
  simp only [Bool.and_eq_true, decide_eq_true_eq] at h
  exact h.1
set_option maxRecDepth 100000 in
set_option maxHeartbeats 1000000 in
theorem nameV_any (s : ByteArray) (w : World) :
    Calls Tryz.prog 64 #[.string s] w fun e w' => e = .returned (.bool (nameF s)) ∧ Below w.heap.size w w' := by
  have RN := Lib.hid (fun i (h : i < s.size) => nameF_no s i h)
  have RY := Lib.hid (nameF_yes s)
  have RS := Lib.hid (nameF_size s)
  obtain ⟨r, hr⟩ : ∃ r, r = nameF s := ⟨_, rfl⟩
  rw [← hr] at RN RY RS ⊢
  clear hr
  by_cases h0 : s.size = 0
  · have hs : s.toList = [] := by
      have : s = ByteArray.mk #[] := ByteArray.ext (Array.eq_empty_of_size_eq_zero h0)
      subst this; simp
    have hs2 : s.toList.isEmpty = true := by rw [hs]; rfl
    obtain rfl : r = false := by
      cases r with
      | false => rfl
      | true => have := (RS.out rfl).1; omega
    go_enter Tryz.func64, Tryz.ntmps64
    go_wp2
    go_ret
    exact ⟨rfl, Below.refl _ _⟩
  · have hs : ¬ s.toList = [] := by
      intro h
      have h2 : s.toList.length = 0 := by rw [h]; rfl
      rw [ByteArray.toList_eq] at h2
      exact h0 h2
    have hs2 : s.toList.isEmpty = false := by rw [List.isEmpty_eq_false_iff]; exact hs
    by_cases h1 : s.size ≤ 32
    · have h1' : ¬ (32 : Int) < s.size := by omega
      go_enter Tryz.func64, Tryz.ntmps64
      go_wp2
      have hi0 := World.iter_heap w s 0
      have HI := Lib.hid hi0
      clear hi0
      go_loopw [3, 4, 18, 25] (fun _ _ _ _ wr => ∃ pos : Nat, pos ≤ s.size ∧ wr.heap[w.heap.size]? = some (.stringIter s pos) ∧ Below w.heap.size w wr ∧ Hid (∀ i, i < pos → okAt s i = true)) (fun _ _ _ _ wr => s.size - wr.iterPos w.heap.size)
      case atStart => exact ⟨0, Nat.zero_le _, HI.out, (Below.refl _ _).alloc (Nat.le_refl _) _, Lib.hid (fun i hi => by omega)⟩
      case round =>
        obtain ⟨pos, hps, hit, hbw, HO⟩ := hrel
        have hpos0 := iterPos_of hit
        by_cases hp : pos < s.size
        · have hne := RN.out pos hp
          have hst := fun (h : okAt s pos = true) => (fun i (hi : i < pos + 1) => (by rcases Nat.lt_succ_iff_lt_or_eq.1 hi with q | q; exact HO.out i q; rw [q]; exact h : okAt s i = true))
          have HST := Lib.hid hst
          have HNE := Lib.hid hne
          clear hst hne RN
          by_cases hasc : s[pos].toNat < 128
          · have hnx := fun ty => Lib.run_next_ascii_at (P := Tryz.prog) wr w.heap.size s pos ty hit hp hasc
            have hit2 := Lib.iterAt_heap wr w.heap.size s pos (pos + 1) hit
            have hbw2 := Lib.below_iterAt hbw (k := w.heap.size) (Nat.le_refl _) s (pos + 1)
            obtain ⟨W1, hW1⟩ : ∃ W1, W1 = wr.iterAt w.heap.size s (pos + 1) := ⟨_, rfl⟩
            rw [← hW1] at hnx hit2 hbw2
            have HIT := Lib.hid hit2
            have HBW := Lib.hid hbw2
            have hat := atB_get s pos hp
            obtain ⟨c, hc⟩ : ∃ c, c = s[pos].toNat := ⟨_, rfl⟩
            rw [← hc] at hat hnx hasc
            have HAT := Lib.hid hat
            have HP0 := Lib.hid hpos0
            clear hit2 hbw2 hW1 hit hbw hat hc hpos0
            cases hok : okAt s pos with
            | true =>
              have hh := HST.out hok
              have hh2 := Lib.hid hh
              unfold okAt low oth at hok
              rw [HAT.out] at hok
              clear hh
              simp only [Bool.or_eq_true, Bool.and_eq_true, decide_eq_true_eq, beq_iff_eq] at hok
              have HOK := Lib.hid hok
              clear hok
              go_wp2
              all_goals first
                | (go_roundw
                   case rel => exact ⟨pos + 1, by omega, HIT.out, HBW.out, hh2⟩
                   case measure => rw [iterPos_of HIT.out, HP0.out]; omega)
                | (exfalso
                   have hk := HOK.out
                   clear hnx
                   try simp only [beq_eq_false_iff_ne, ne_eq] at *
                   omega)
            | false =>
              obtain rfl := HNE.out hok
              unfold okAt low oth at hok
              rw [HAT.out] at hok
              simp only [Bool.or_eq_false_iff, Bool.and_eq_false_iff, decide_eq_false_iff_not, beq_eq_false_iff_ne] at hok
              have HOK := Lib.hid hok
              clear hok
              go_wp2
              all_goals first
                | (go_ret
                   exact ⟨rfl, HBW.out⟩)
                | (exfalso
                   have hk := HOK.out
                   clear hnx
                   try simp only [ne_eq, beq_iff_eq] at *
                   omega)
          · have hnx := fun ty => Lib.run_next_any_at (P := Tryz.prog) wr w.heap.size s pos ty hit hp
            have hhi := (decode_high s pos hp (by omega)).1
            have hhi2 := decode_le s pos
            have hbw2 := Lib.below_iterAt hbw (k := w.heap.size) (Nat.le_refl _) s (pos + (Utf8.decode s pos).2)
            obtain ⟨W1, hW1⟩ : ∃ W1, W1 = wr.iterAt w.heap.size s (pos + (Utf8.decode s pos).2) := ⟨_, rfl⟩
            rw [← hW1] at hnx hbw2
            obtain ⟨c, hc⟩ : ∃ c, c = (Utf8.decode s pos).1 := ⟨_, rfl⟩
            rw [← hc] at hnx hhi hhi2
            have HBW := Lib.hid hbw2
            have hat := atB_get s pos hp
            have hno : okAt s pos = false := by
              unfold okAt low oth
              rw [hat]
              simp only [Bool.or_eq_false_iff, Bool.and_eq_false_iff, decide_eq_false_iff_not, beq_eq_false_iff_ne]
              omega
            obtain rfl := HNE.out hno
            clear hbw2 hW1 hc hat hno hit hbw
            go_wp2
            all_goals first
              | (go_ret
                 exact ⟨rfl, HBW.out⟩)
              | (exfalso
                 clear hnx
                 try simp only [beq_iff_eq] at *
                 omega)
        · have hnx := fun ty => Lib.run_next_end_at (P := Tryz.prog) wr w.heap.size s pos ty hit hp
          have HBW := Lib.hid hbw
          obtain rfl : r = true := RY.out (by omega) h1 (fun i hi => HO.out i (by omega))
          clear hit hbw
          go_wp2
          go_ret
          exact ⟨rfl, HBW.out⟩
    · have h1' : (32 : Int) < s.size := by omega
      obtain rfl : r = false := by
        cases r with
        | false => rfl
        | true => have := (RS.out rfl).2; omega
      go_enter Tryz.func64, Tryz.ntmps64
      go_wp2
      go_ret
      exact ⟨rfl, Below.refl _ _⟩
end Go.Proofs.YtoaimoemaoinhaaGreatDoor
namespace Go.Proofs.YtoaimoemaoinhaaGreatDoor
open Go.RowKit Go.Rt
theorem bcell {W w1 : World} {B : Nat} (hb : Below B W w1) : (∀ b o, b < B → w1.cell? ⟨b, o, none⟩ = W.cell? ⟨b, o, none⟩) ∧ (∀ b o, b < B → w1.frozen? ⟨b, o, none⟩ = W.frozen? ⟨b, o, none⟩) :=
  ⟨fun b o h => hb.cell (p := ⟨b, o, none⟩) h, fun b o h => hb.frozen (p := ⟨b, o, none⟩) h⟩
end Go.Proofs.YtoaimoemaoinhaaGreatDoor
