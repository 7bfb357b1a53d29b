/- example: its list. -/
import Derived.Test.YtekfnonjhcfdmaaDoorPlace
import Derived.Test.YtekfnonjhcfdmaaDoorDefs
import Derived.Test.YtekfnonjhcfdmaaDoorLists
import Derived.Test.YtekfnonjhcfdmaaDoorEx
namespace Go.Proofs.YtekfnonjhcfdmaaDoor
open Go.RowKit Go.Shelf Go.Rt Go.Rw

set_option maxRecDepth 100000 in
set_option maxHeartbeats 8000000 in
theorem example23 (w : World) : Calls Tryd.prog 23 #[] w fun e w' => Below w.heap.size w w' ∧ ∃ v, e = .returned v ∧ InsAt w' exL v := by
  have CV := Lib.hid (fun (n : Int) (W : World) => v24 n W)
  have CX := Lib.hid (fun (n : Int) (W : World) => x25 n W)
  unfold arV at CV CX
  dsimp only at CV CX
  have B0 := Lib.hid (Below.refl w.heap.size w)
  obtain ⟨m, hm⟩ : ∃ q, q = w.heap.size := ⟨_, rfl⟩
  have HM := Lib.hid hm
  rw [← hm] at B0 ⊢
  clear hm
  go_enter Tryd.func23, Tryd.ntmps23
  go_wp2_with fail
  refine (CV.out 1 w).mono ?_
  rintro e w1 ⟨rfl, b1⟩
  have B1 := Lib.hid (B0.out.trans (b1.mono (by have := B0.out.size; have := HM.out; omega)))
  clear b1
  go_wp2_with fail
  refine (CX.out 0 w1).mono ?_
  rintro e w2 ⟨rfl, b2⟩
  have B2 := Lib.hid (B1.out.trans (b2.mono (by have := B1.out.size; have := HM.out; omega)))
  clear b2
  obtain ⟨w3, hw⟩ : ∃ W, w2.alloc (.cells #[.int .i64 1, .int .i64 0] 38) = W := ⟨_, rfl⟩
  obtain ⟨a1, ha⟩ : ∃ q, q = w2.heap.size := ⟨_, rfl⟩
  have bb : Below w2.heap.size w2 w3 := by rw [← hw]; exact (Below.refl _ _).alloc (Nat.le_refl _) _
  have S1 : Hid (SlAt w3 2 arC (.slice (some ⟨a1, 0, none⟩) 1 1) ([⟨1, 0⟩] : List Ar)) := Lib.hid (by rw [← hw, ha]; exact (Sl.lit (base := 0) (m := 2) (e := 38) (c := arC) w2 ([⟨1, 0⟩] : List Ar) (fun _ => rfl) (Nat.zero_le _) (by decide)).at (fun _ => rfl))
  have B3 := Lib.hid (B2.out.trans (bb.mono (by have := B2.out.size; have := HM.out; omega)))
  have HW := Lib.hid hw
  have HA := Lib.hid ha
  clear hw ha bb
  go_wp2_with fail
  rw [HW.out, ← HA.out]
  clear HW HA
  refine (CV.out 2 w3).mono ?_
  rintro e w4 ⟨rfl, b4⟩
  have B4 := Lib.hid (B3.out.trans (b4.mono (by have := B3.out.size; have := HM.out; omega)))
  replace S1 := Lib.hid (S1.out.keep b4)
  clear b4
  go_wp2_with fail
  refine (CV.out 1 w4).mono ?_
  rintro e w5 ⟨rfl, b5⟩
  have B5 := Lib.hid (B4.out.trans (b5.mono (by have := B4.out.size; have := HM.out; omega)))
  replace S1 := Lib.hid (S1.out.keep b5)
  clear b5
  go_wp2_with fail
  refine (CV.out 1 w5).mono ?_
  rintro e w6 ⟨rfl, b6⟩
  have B6 := Lib.hid (B5.out.trans (b6.mono (by have := B5.out.size; have := HM.out; omega)))
  replace S1 := Lib.hid (S1.out.keep b6)
  clear b6
  obtain ⟨w7, hw⟩ : ∃ W, w6.alloc (.cells #[.int .i64 4, .int .i64 1, .int .i64 4, .int .i64 1] 38) = W := ⟨_, rfl⟩
  obtain ⟨a2, ha⟩ : ∃ q, q = w6.heap.size := ⟨_, rfl⟩
  have bb : Below w6.heap.size w6 w7 := by rw [← hw]; exact (Below.refl _ _).alloc (Nat.le_refl _) _
  have S2 : Hid (SlAt w7 2 arC (.slice (some ⟨a2, 0, none⟩) 2 2) ([⟨4, 1⟩, ⟨4, 1⟩] : List Ar)) := Lib.hid (by rw [← hw, ha]; exact (Sl.lit (base := 0) (m := 2) (e := 38) (c := arC) w6 ([⟨4, 1⟩, ⟨4, 1⟩] : List Ar) (fun _ => rfl) (Nat.zero_le _) (by decide)).at (fun _ => rfl))
  replace S1 := Lib.hid (S1.out.keep bb)
  have B7 := Lib.hid (B6.out.trans (bb.mono (by have := B6.out.size; have := HM.out; omega)))
  have HW := Lib.hid hw
  have HA := Lib.hid ha
  clear hw ha bb
  go_wp2_with fail
  rw [HW.out, ← HA.out]
  clear HW HA
  refine (CV.out 2 w7).mono ?_
  rintro e w8 ⟨rfl, b8⟩
  have B8 := Lib.hid (B7.out.trans (b8.mono (by have := B7.out.size; have := HM.out; omega)))
  replace S1 := Lib.hid (S1.out.keep b8)
  replace S2 := Lib.hid (S2.out.keep b8)
  clear b8
  go_wp2_with fail
  refine (CV.out 1 w8).mono ?_
  rintro e w9 ⟨rfl, b9⟩
  have B9 := Lib.hid (B8.out.trans (b9.mono (by have := B8.out.size; have := HM.out; omega)))
  replace S1 := Lib.hid (S1.out.keep b9)
  replace S2 := Lib.hid (S2.out.keep b9)
  clear b9
  obtain ⟨w10, hw⟩ : ∃ W, w9.alloc (.cells #[.int .i64 4, .int .i64 1] 38) = W := ⟨_, rfl⟩
  obtain ⟨a3, ha⟩ : ∃ q, q = w9.heap.size := ⟨_, rfl⟩
  have bb : Below w9.heap.size w9 w10 := by rw [← hw]; exact (Below.refl _ _).alloc (Nat.le_refl _) _
  have S3 : Hid (SlAt w10 2 arC (.slice (some ⟨a3, 0, none⟩) 1 1) ([⟨4, 1⟩] : List Ar)) := Lib.hid (by rw [← hw, ha]; exact (Sl.lit (base := 0) (m := 2) (e := 38) (c := arC) w9 ([⟨4, 1⟩] : List Ar) (fun _ => rfl) (Nat.zero_le _) (by decide)).at (fun _ => rfl))
  replace S1 := Lib.hid (S1.out.keep bb)
  replace S2 := Lib.hid (S2.out.keep bb)
  have B10 := Lib.hid (B9.out.trans (bb.mono (by have := B9.out.size; have := HM.out; omega)))
  have HW := Lib.hid hw
  have HA := Lib.hid ha
  clear hw ha bb
  go_wp2_with fail
  rw [HW.out, ← HA.out]
  clear HW HA
  refine (CX.out 0 w10).mono ?_
  rintro e w11 ⟨rfl, b11⟩
  have B11 := Lib.hid (B10.out.trans (b11.mono (by have := B10.out.size; have := HM.out; omega)))
  replace S1 := Lib.hid (S1.out.keep b11)
  replace S2 := Lib.hid (S2.out.keep b11)
  replace S3 := Lib.hid (S3.out.keep b11)
  clear b11
  go_wp2_with fail
  refine (CV.out 2 w11).mono ?_
  rintro e w12 ⟨rfl, b12⟩
  have B12 := Lib.hid (B11.out.trans (b12.mono (by have := B11.out.size; have := HM.out; omega)))
  replace S1 := Lib.hid (S1.out.keep b12)
  replace S2 := Lib.hid (S2.out.keep b12)
  replace S3 := Lib.hid (S3.out.keep b12)
  clear b12
  obtain ⟨w13, hw⟩ : ∃ W, w12.alloc (.cells #[.int .i64 4, .int .i64 2] 38) = W := ⟨_, rfl⟩
  obtain ⟨a4, ha⟩ : ∃ q, q = w12.heap.size := ⟨_, rfl⟩
  have bb : Below w12.heap.size w12 w13 := by rw [← hw]; exact (Below.refl _ _).alloc (Nat.le_refl _) _
  have S4 : Hid (SlAt w13 2 arC (.slice (some ⟨a4, 0, none⟩) 1 1) ([⟨4, 2⟩] : List Ar)) := Lib.hid (by rw [← hw, ha]; exact (Sl.lit (base := 0) (m := 2) (e := 38) (c := arC) w12 ([⟨4, 2⟩] : List Ar) (fun _ => rfl) (Nat.zero_le _) (by decide)).at (fun _ => rfl))
  replace S1 := Lib.hid (S1.out.keep bb)
  replace S2 := Lib.hid (S2.out.keep bb)
  replace S3 := Lib.hid (S3.out.keep bb)
  have B13 := Lib.hid (B12.out.trans (bb.mono (by have := B12.out.size; have := HM.out; omega)))
  have HW := Lib.hid hw
  have HA := Lib.hid ha
  clear hw ha bb
  have HZ : Hid (w13.heap.size = a4 + 1) := Lib.hid (by rw [← HW.out, HA.out]; exact World.size_alloc _ _)
  go_wp2_with fail
  rw [HW.out, ← HA.out]
  obtain ⟨Fs, hFs⟩ : ∃ q : List Im, q = [⟨⟨1, ⟨4, 1⟩, [⟨1, 0⟩], 0, 0, 0, nmE, [], []⟩, (.slice (some ⟨a1, 0, none⟩) 1 1), (.slice none 0 0), (.slice none 0 0)⟩, ⟨⟨28, ⟨0, 0⟩, [], 5, 0, 0, nmE, [], []⟩, (.slice none 0 0), (.slice none 0 0), (.slice none 0 0)⟩, ⟨⟨14, ⟨4, 2⟩, [⟨4, 1⟩, ⟨4, 1⟩], 0, 0, 0, { data := #[43] }, [], []⟩, (.slice (some ⟨a2, 0, none⟩) 2 2), (.slice none 0 0), (.slice none 0 0)⟩, ⟨⟨29, ⟨0, 0⟩, [], 0, 0, 0, nmE, [], []⟩, (.slice none 0 0), (.slice none 0 0), (.slice none 0 0)⟩, ⟨⟨8, ⟨0, 0⟩, [], 6, 0, 0, nmE, [], []⟩, (.slice none 0 0), (.slice none 0 0), (.slice none 0 0)⟩, ⟨⟨1, ⟨4, 2⟩, [⟨4, 1⟩], 0, 0, 0, nmE, [], []⟩, (.slice (some ⟨a3, 0, none⟩) 1 1), (.slice none 0 0), (.slice none 0 0)⟩, ⟨⟨1, ⟨1, 0⟩, [⟨4, 2⟩], 0, 0, 0, nmE, [], []⟩, (.slice (some ⟨a4, 0, none⟩) 1 1), (.slice none 0 0), (.slice none 0 0)⟩, ⟨⟨26, ⟨0, 0⟩, [], 0, 0, 0, nmE, [], []⟩, (.slice none 0 0), (.slice none 0 0), (.slice none 0 0)⟩] := ⟨_, rfl⟩
  have SL := (Sl.lit (base := 0) (m := 10) (e := 42) (c := imC) w13 Fs (fun _ => rfl) (Nat.zero_le _) (by rw [hFs]; show (8 : Nat) ≤ maxLen; decide)).at (fun _ => rfl)
  have B14 := B13.out.alloc (by have := B13.out.size; have := HM.out; omega) (.cells (Fs.flatMap imC).toArray 42)
  have bz : Below w13.heap.size w13 (w13.alloc (.cells (Fs.flatMap imC).toArray 42)) := (Below.refl _ _).alloc (Nat.le_refl _) _
  have hn : ∀ {α : Type} {c : α → List Value} {m : Nat} {W : World}, SlAt W m c (.slice none 0 0) ([] : List α) := fun {_ _ _ _} => .inl ⟨rfl, none, 0, rfl⟩
  have hI : ∀ f ∈ Fs, ImAt (w13.alloc (.cells (Fs.flatMap imC).toArray 42)) f := by
    intro f hf
    rw [hFs] at hf
    simp only [List.mem_cons, List.not_mem_nil, or_false] at hf
    rcases hf with rfl | rfl | rfl | rfl | rfl | rfl | rfl | rfl
    · exact ⟨S1.out.keep bz, hn, hn⟩
    · exact ⟨hn, hn, hn⟩
    · exact ⟨S2.out.keep bz, hn, hn⟩
    · exact ⟨hn, hn, hn⟩
    · exact ⟨hn, hn, hn⟩
    · exact ⟨S3.out.keep bz, hn, hn⟩
    · exact ⟨S4.out.keep bz, hn, hn⟩
    · exact ⟨hn, hn, hn⟩
  have hm : Fs.map (·.x) = exL := by rw [hFs]; rfl
  rw [HZ.out] at SL
  have FIN := Lib.hid (show Below m w (w13.alloc (.cells (Fs.flatMap imC).toArray 42)) ∧ InsAt (w13.alloc (.cells (Fs.flatMap imC).toArray 42)) exL (.slice (some ⟨a4 + 1, 0, none⟩) Fs.length Fs.length) from ⟨B14, Fs, hm, SL, hI⟩)
  clear SL B14 bz hn hI hm
  subst hFs
  go_ret
  exact ⟨FIN.out.1, _, rfl, FIN.out.2⟩
end Go.Proofs.YtekfnonjhcfdmaaDoor
