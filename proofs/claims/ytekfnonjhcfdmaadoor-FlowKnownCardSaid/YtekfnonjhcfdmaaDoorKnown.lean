/- FlowKnown: the document's examples. -/
import Derived.Test.YtekfnonjhcfdmaaDoorAwake
import Derived.Test.YtekfnonjhcfdmaaDoorTries
import Derived.Test.YtekfnonjhcfdmaaDoorClosed
import Derived.Test.YtekfnonjhcfdmaaDoorExb
namespace Go.Proofs.YtekfnonjhcfdmaaDoor
open Go.RowKit Go.Shelf Go.Rt Go.Rw

theorem same_true (L : List Ar) (v u : Value) (W : World) (h : SlAt W 2 arC v L) (k : SlAt W 2 arC u L) : Calls Tryd.prog 18 #[v, u] W (BoR true W) := by
  have := samea_any L L v u W h k
  rwa [show eqB L L = true by simp [eqB]] at this
def fAsk : Im := ⟨askI, .slice none 0 0, .slice none 0 0, .slice none 0 0⟩
theorem at_ask (W : World) : ImAt W fAsk := ⟨.inl ⟨rfl, _, _, rfl⟩, .inl ⟨rfl, _, _, rfl⟩, .inl ⟨rfl, _, _, rfl⟩⟩
set_option maxRecDepth 100000 in
set_option maxHeartbeats 16000000 in
theorem known5 (w : World) (hT : TabAt 0 Lib.deBruijn64tab w) (hz : 0 < w.heap.size) : Calls Tryd.prog 5 #[] w (Yes w) := by
  have HT := Lib.hid hT
  have HZ := Lib.hid hz
  have CV := Lib.hid (fun (n : Int) (W : World) => v24 n W)
  have CX := Lib.hid (fun (n : Int) (W : World) => x25 n W)
  unfold arV at CV CX
  dsimp only at CV CX
  clear hT hz
  go_enter Tryd.func5, Tryd.ntmps5
  go_wp2_with fail
  refine (example23 w).mono ?_
  rintro e w1 ⟨b1, v1, rfl, i1⟩
  obtain ⟨_, sa, cap, e1⟩ := i1.form
  rw [show exL.length = 8 from rfl] at e1
  subst e1
  obtain ⟨b, o, rfl, hb, hc⟩ := i1.get (by decide)
  obtain ⟨f2, hf2, ha2, hc2⟩ := hc 2 (by decide)
  obtain ⟨f7, hf7, ha7, hc7⟩ := hc 7 (by decide)
  obtain ⟨m, hm⟩ : ∃ q, q = w1.heap.size := ⟨_, rfl⟩
  rw [← hm] at hb
  have HM := Lib.hid hm
  have HI : Hid (∀ W, Below m w1 W → InsAt W exL (.slice (some ⟨b, o, none⟩) 8 cap)) := Lib.hid (fun W hW => i1.keep (by rw [← hm]; exact hW))
  have H2 : Hid (∀ W, Below m w1 W → ∀ j, j < 10 → W.cell? ⟨b, o + 20 + j, none⟩ = (imC f2)[j]?) := Lib.hid (fun W hW j hj => (hW.cell (p := ⟨b, _, none⟩) hb).trans (hc2 j hj))
  have H7 : Hid (∀ W, Below m w1 W → ∀ j, j < 10 → W.cell? ⟨b, o + 70 + j, none⟩ = (imC f7)[j]?) := Lib.hid (fun W hW j hj => (hW.cell (p := ⟨b, _, none⟩) hb).trans (hc7 j hj))
  have HBW : Hid (∀ W, Below m w1 W → Below w.heap.size w W) := Lib.hid (fun W hW => b1.trans (hW.mono (by rw [hm]; exact b1.size)))
  have CU2 : Hid (∀ W, Below m w1 W → Calls Tryd.prog 19 #[imV f2] W (ArsR [⟨4, 1⟩, ⟨4, 1⟩] W)) := Lib.hid (fun W hW => by
    have := uses19 f2 W (ha2.keep (by rw [← hm]; exact hW)) (by rw [hf2]; decide)
    rwa [hf2, kn_u2] at this)
  have CD2 : Hid (∀ W, Below m w1 W → Calls Tryd.prog 21 #[imV f2] W (ArsR [⟨4, 2⟩] W)) := Lib.hid (fun W hW => by
    have := defs21 f2 W (ha2.keep (by rw [← hm]; exact hW))
    rwa [hf2, kn_d2] at this)
  have CU7 : Hid (∀ W, Below m w1 W → Calls Tryd.prog 19 #[imV f7] W (ArsR [⟨1, 0⟩] W)) := Lib.hid (fun W hW => by
    have := uses19 f7 W (ha7.keep (by rw [← hm]; exact hW)) (by rw [hf7]; decide)
    rwa [hf7, kn_u7] at this)
  have CUA : Hid (∀ W, Calls Tryd.prog 19 #[imV fAsk] W (ArsR [⟨1, 0⟩, ⟨1, 1⟩] W)) := Lib.hid (fun W => by
    have := uses19 fAsk W (at_ask W) (by decide)
    rwa [show usesF fAsk.x = [⟨1, 0⟩, ⟨1, 1⟩] from rfl] at this)
  have CDA : Hid (∀ W, Calls Tryd.prog 21 #[imV fAsk] W (ArsR [⟨1, 0⟩] W)) := Lib.hid (fun W => by
    have := defs21 fAsk W (at_ask W)
    rwa [show defsF fAsk.x = [⟨1, 0⟩] from rfl] at this)
  unfold imV at CU2 CD2 CU7 CUA CDA
  dsimp only [fAsk, askI] at CUA CDA
  have CN : Hid (∀ (i : Int) (W : World), Below m w1 W → Calls Tryd.prog 16 #[.slice (some ⟨b, o, none⟩) 8 cap, .int .i64 i] W (NsR (nextF exL i) W)) := Lib.hid (fun i W hW => next16 exL _ i W (HI.out W hW) (by decide) (fun x hx => by simp only [exL, List.mem_cons, List.not_mem_nil, or_false] at hx; rcases hx with rfl | rfl | rfl | rfl | rfl | rfl | rfl | rfl <;> decide))
  have CTR : Hid (∀ (fr : List Int) (u : Value) (W : World), Below m w1 W → SlAt W 1 inC u fr → Calls Tryd.prog 26 #[.slice (some ⟨b, o, none⟩) 8 cap, u] W (TrR exL fr W)) := Lib.hid (fun fr u W hW hu => tries26 exL fr _ u W (HI.out W hW) hu (by decide) (fun x hx => by simp only [exL, List.mem_cons, List.not_mem_nil, or_false] at hx; rcases hx with rfl | rfl | rfl | rfl | rfl | rfl | rfl | rfl <;> decide))
  have CLV : Hid (∀ (fr : List Int) (u : Value) (kd : Int) (W : World), Below m w1 W → SlAt W 1 inC u fr → Calls Tryd.prog 12 #[.slice (some ⟨b, o, none⟩) 8 cap, u, .int .i64 kd] W (LiR exL fr kd W)) := Lib.hid (fun fr u kd W hW hu => live12 exL fr _ u kd W (HI.out W hW) hu (by decide) (fun x hx => by simp only [exL, List.mem_cons, List.not_mem_nil, or_false] at hx; rcases hx with rfl | rfl | rfl | rfl | rfl | rfl | rfl | rfl <;> decide) (fun x hx => by simp only [exL, List.mem_cons, List.not_mem_nil, or_false] at hx; rcases hx with rfl | rfl | rfl | rfl | rfl | rfl | rfl | rfl <;> decide) (by decide) (tab_below HT.out (HBW.out W hW) HZ.out) (Nat.lt_of_lt_of_le HZ.out (HBW.out W hW).size))
  have BM1 := Lib.hid (Below.refl m w1)
  clear i1 b1 hc hf2 ha2 hc2 hf7 ha7 hc7 hm hb
  obtain ⟨e0, e1, e2, e3, e4, e5, e6, e7, e8, e9⟩ := cells10 (H2.out w1 BM1.out)
  go_wp2_with fail
  refine (CU2.out w1 BM1.out).mono ?_
  rintro e w2 ⟨c2, v2, rfl, s2⟩
  have BM2 := Lib.hid (BM1.out.trans (c2.mono (by have := BM1.out.size; have := HM.out; omega)))
  obtain ⟨x2, y2, rfl⟩ := sl_form2 s2
  have S2 := Lib.hid (s2.at (fun _ => rfl))
  simp only [List.length_cons, List.length_nil, Nat.reduceAdd] at S2
  clear s2
  clear e0 e1 e2 e3 e4 e5 e6 e7 e8 e9
  go_wp2_with fail
  refine (CV.out 1 w2).mono ?_
  rintro e w3 ⟨rfl, c3⟩
  have BM3 := Lib.hid (BM2.out.trans (c3.mono (by have := BM2.out.size; have := HM.out; omega)))
  replace S2 := Lib.hid (S2.out.keep c3)
  go_wp2_with fail
  refine (CV.out 1 w3).mono ?_
  rintro e w4 ⟨rfl, c4⟩
  have BM4 := Lib.hid (BM3.out.trans (c4.mono (by have := BM3.out.size; have := HM.out; omega)))
  replace S2 := Lib.hid (S2.out.keep c4)
  obtain ⟨w5, hw⟩ : ∃ W, w4.alloc (.cells #[.int .i64 4, .int .i64 1, .int .i64 4, .int .i64 1] 38) = W := ⟨_, rfl⟩
  obtain ⟨a1, ha⟩ : ∃ q, q = w4.heap.size := ⟨_, rfl⟩
  have bb : Below w4.heap.size w4 w5 := by rw [← hw]; exact (Below.refl _ _).alloc (Nat.le_refl _) _
  have T1 : Hid (SlAt w5 2 arC (.slice (some ⟨a1, 0, none⟩) 2 2) ([⟨4, 1⟩, ⟨4, 1⟩] : List Ar)) := Lib.hid (by rw [← hw, ha]; exact (Sl.lit (base := 0) (m := 2) (e := 38) (c := arC) w4 ([⟨4, 1⟩, ⟨4, 1⟩] : List Ar) (fun _ => rfl) (Nat.zero_le _) (by decide)).at (fun _ => rfl))
  replace S2 := Lib.hid (S2.out.keep bb)
  have BM5 := Lib.hid (BM4.out.trans (bb.mono (by have := BM4.out.size; have := HM.out; omega)))
  have HW := Lib.hid hw
  have HA := Lib.hid ha
  clear hw ha bb
  go_wp2_with fail
  rw [HW.out, ← HA.out]
  clear HW HA
  refine (same_true _ _ _ w5 S2.out T1.out).mono ?_
  rintro e w6 ⟨rfl, c6⟩
  have BM6 := Lib.hid (BM5.out.trans (c6.mono (by have := BM5.out.size; have := HM.out; omega)))
  obtain ⟨e0, e1, e2, e3, e4, e5, e6, e7, e8, e9⟩ := cells10 (H2.out w6 BM6.out)
  go_wp2_with fail
  refine (CD2.out w6 BM6.out).mono ?_
  rintro e w7 ⟨c7, v7, rfl, s7⟩
  have BM7 := Lib.hid (BM6.out.trans (c7.mono (by have := BM6.out.size; have := HM.out; omega)))
  obtain ⟨x7, y7, rfl⟩ := sl_form2 s7
  have S7 := Lib.hid (s7.at (fun _ => rfl))
  simp only [List.length_cons, List.length_nil, Nat.reduceAdd] at S7
  clear s7
  clear e0 e1 e2 e3 e4 e5 e6 e7 e8 e9
  go_wp2_with fail
  refine (CV.out 2 w7).mono ?_
  rintro e w8 ⟨rfl, c8⟩
  have BM8 := Lib.hid (BM7.out.trans (c8.mono (by have := BM7.out.size; have := HM.out; omega)))
  replace S7 := Lib.hid (S7.out.keep c8)
  obtain ⟨w9, hw⟩ : ∃ W, w8.alloc (.cells #[.int .i64 4, .int .i64 2] 38) = W := ⟨_, rfl⟩
  obtain ⟨a2, ha⟩ : ∃ q, q = w8.heap.size := ⟨_, rfl⟩
  have bb : Below w8.heap.size w8 w9 := by rw [← hw]; exact (Below.refl _ _).alloc (Nat.le_refl _) _
  have T2 : Hid (SlAt w9 2 arC (.slice (some ⟨a2, 0, none⟩) 1 1) ([⟨4, 2⟩] : List Ar)) := Lib.hid (by rw [← hw, ha]; exact (Sl.lit (base := 0) (m := 2) (e := 38) (c := arC) w8 ([⟨4, 2⟩] : List Ar) (fun _ => rfl) (Nat.zero_le _) (by decide)).at (fun _ => rfl))
  replace S7 := Lib.hid (S7.out.keep bb)
  have BM9 := Lib.hid (BM8.out.trans (bb.mono (by have := BM8.out.size; have := HM.out; omega)))
  have HW := Lib.hid hw
  have HA := Lib.hid ha
  clear hw ha bb
  go_wp2_with fail
  rw [HW.out, ← HA.out]
  clear HW HA
  refine (same_true _ _ _ w9 S7.out T2.out).mono ?_
  rintro e w10 ⟨rfl, c10⟩
  have BM10 := Lib.hid (BM9.out.trans (c10.mono (by have := BM9.out.size; have := HM.out; omega)))
  obtain ⟨e0, e1, e2, e3, e4, e5, e6, e7, e8, e9⟩ := cells10 (H7.out w10 BM10.out)
  go_wp2_with fail
  refine (CU7.out w10 BM10.out).mono ?_
  rintro e w11 ⟨c11, v11, rfl, s11⟩
  have BM11 := Lib.hid (BM10.out.trans (c11.mono (by have := BM10.out.size; have := HM.out; omega)))
  obtain ⟨x11, y11, rfl⟩ := sl_form2 s11
  have S11 := Lib.hid (s11.at (fun _ => rfl))
  simp only [List.length_cons, List.length_nil, Nat.reduceAdd] at S11
  clear s11
  clear e0 e1 e2 e3 e4 e5 e6 e7 e8 e9
  go_wp2_with fail
  refine (CX.out 0 w11).mono ?_
  rintro e w12 ⟨rfl, c12⟩
  have BM12 := Lib.hid (BM11.out.trans (c12.mono (by have := BM11.out.size; have := HM.out; omega)))
  replace S11 := Lib.hid (S11.out.keep c12)
  obtain ⟨w13, hw⟩ : ∃ W, w12.alloc (.cells #[.int .i64 1, .int .i64 0] 38) = W := ⟨_, rfl⟩
  obtain ⟨a3, ha⟩ : ∃ q, q = w12.heap.size := ⟨_, rfl⟩
  have bb : Below w12.heap.size w12 w13 := by rw [← hw]; exact (Below.refl _ _).alloc (Nat.le_refl _) _
  have T3 : Hid (SlAt w13 2 arC (.slice (some ⟨a3, 0, none⟩) 1 1) ([⟨1, 0⟩] : List Ar)) := Lib.hid (by rw [← hw, ha]; exact (Sl.lit (base := 0) (m := 2) (e := 38) (c := arC) w12 ([⟨1, 0⟩] : List Ar) (fun _ => rfl) (Nat.zero_le _) (by decide)).at (fun _ => rfl))
  replace S11 := Lib.hid (S11.out.keep bb)
  have BM13 := Lib.hid (BM12.out.trans (bb.mono (by have := BM12.out.size; have := HM.out; omega)))
  have HW := Lib.hid hw
  have HA := Lib.hid ha
  clear hw ha bb
  go_wp2_with fail
  rw [HW.out, ← HA.out]
  clear HW HA
  refine (same_true _ _ _ w13 S11.out T3.out).mono ?_
  rintro e w14 ⟨rfl, c14⟩
  have BM14 := Lib.hid (BM13.out.trans (c14.mono (by have := BM13.out.size; have := HM.out; omega)))
  unfold nmE at CUA CDA
  obtain ⟨w15, hw⟩ : ∃ W, w14.alloc (.cells #[.int .i64 15, .int .i64 0, .int .i64 0, .slice none 0 0, .int .i64 0, .int .i64 2, .int .i64 0, .string { data := #[] }, .slice none 0 0, .slice none 0 0] 42) = W := ⟨_, rfl⟩
  obtain ⟨a4, ha⟩ : ∃ q, q = w14.heap.size := ⟨_, rfl⟩
  have bb : Below w14.heap.size w14 w15 := by rw [← hw]; exact (Below.refl _ _).alloc (Nat.le_refl _) _
  have XA : Hid (Blk w15 a4 42 #[.int .i64 15, .int .i64 0, .int .i64 0, .slice none 0 0, .int .i64 0, .int .i64 2, .int .i64 0, .string { data := #[] }, .slice none 0 0, .slice none 0 0]) := Lib.hid (by rw [← hw, ha]; exact Blk.new _ _ _)
  have BM15 := Lib.hid (BM14.out.trans (bb.mono (by have := BM14.out.size; have := HM.out; omega)))
  have HW := Lib.hid hw
  have HA := Lib.hid ha
  clear hw ha bb
  go_upto_region 5 with fail
  rw [HW.out, ← HA.out]
  clear HW HA
  have e0 := XA.out.cell 0
  have e1 := XA.out.cell 1
  have e2 := XA.out.cell 2
  have e3 := XA.out.cell 3
  have e4 := XA.out.cell 4
  have e5 := XA.out.cell 5
  have e6 := XA.out.cell 6
  have e7 := XA.out.cell 7
  have e8 := XA.out.cell 8
  have e9 := XA.out.cell 9
  simp only [List.getElem?_toArray, List.getElem?_cons_zero, List.getElem?_cons_succ] at e0 e1 e2 e3 e4 e5 e6 e7 e8 e9
  go_wp2_with fail
  refine (CUA.out w15).mono ?_
  rintro e w16 ⟨c16, v16, rfl, s16⟩
  have BM16 := Lib.hid (BM15.out.trans (c16.mono (by have := BM15.out.size; have := HM.out; omega)))
  replace XA := Lib.hid (XA.out.below c16 XA.out.lt)
  obtain ⟨x16, y16, rfl⟩ := sl_form2 s16
  have S16 := Lib.hid (s16.at (fun _ => rfl))
  simp only [List.length_cons, List.length_nil, Nat.reduceAdd] at S16
  clear s16
  clear e0 e1 e2 e3 e4 e5 e6 e7 e8 e9
  go_wp2_with fail
  refine (CX.out 0 w16).mono ?_
  rintro e w17 ⟨rfl, c17⟩
  have BM17 := Lib.hid (BM16.out.trans (c17.mono (by have := BM16.out.size; have := HM.out; omega)))
  replace S16 := Lib.hid (S16.out.keep c17)
  replace XA := Lib.hid (XA.out.below c17 XA.out.lt)
  go_wp2_with fail
  refine (CX.out 1 w17).mono ?_
  rintro e w18 ⟨rfl, c18⟩
  have BM18 := Lib.hid (BM17.out.trans (c18.mono (by have := BM17.out.size; have := HM.out; omega)))
  replace S16 := Lib.hid (S16.out.keep c18)
  replace XA := Lib.hid (XA.out.below c18 XA.out.lt)
  obtain ⟨w19, hw⟩ : ∃ W, w18.alloc (.cells #[.int .i64 1, .int .i64 0, .int .i64 1, .int .i64 1] 38) = W := ⟨_, rfl⟩
  obtain ⟨a5, ha⟩ : ∃ q, q = w18.heap.size := ⟨_, rfl⟩
  have bb : Below w18.heap.size w18 w19 := by rw [← hw]; exact (Below.refl _ _).alloc (Nat.le_refl _) _
  have T4 : Hid (SlAt w19 2 arC (.slice (some ⟨a5, 0, none⟩) 2 2) ([⟨1, 0⟩, ⟨1, 1⟩] : List Ar)) := Lib.hid (by rw [← hw, ha]; exact (Sl.lit (base := 0) (m := 2) (e := 38) (c := arC) w18 ([⟨1, 0⟩, ⟨1, 1⟩] : List Ar) (fun _ => rfl) (Nat.zero_le _) (by decide)).at (fun _ => rfl))
  replace S16 := Lib.hid (S16.out.keep bb)
  have BM19 := Lib.hid (BM18.out.trans (bb.mono (by have := BM18.out.size; have := HM.out; omega)))
  replace XA := Lib.hid (XA.out.below bb XA.out.lt)
  have HW := Lib.hid hw
  have HA := Lib.hid ha
  clear hw ha bb
  go_wp2_with fail
  rw [HW.out, ← HA.out]
  clear HW HA
  refine (same_true _ _ _ w19 S16.out T4.out).mono ?_
  rintro e w20 ⟨rfl, c20⟩
  have BM20 := Lib.hid (BM19.out.trans (c20.mono (by have := BM19.out.size; have := HM.out; omega)))
  replace XA := Lib.hid (XA.out.below c20 XA.out.lt)
  have e0 := XA.out.cell 0
  have e1 := XA.out.cell 1
  have e2 := XA.out.cell 2
  have e3 := XA.out.cell 3
  have e4 := XA.out.cell 4
  have e5 := XA.out.cell 5
  have e6 := XA.out.cell 6
  have e7 := XA.out.cell 7
  have e8 := XA.out.cell 8
  have e9 := XA.out.cell 9
  simp only [List.getElem?_toArray, List.getElem?_cons_zero, List.getElem?_cons_succ] at e0 e1 e2 e3 e4 e5 e6 e7 e8 e9
  go_wp2_with fail
  refine (CDA.out w20).mono ?_
  rintro e w21 ⟨c21, v21, rfl, s21⟩
  have BM21 := Lib.hid (BM20.out.trans (c21.mono (by have := BM20.out.size; have := HM.out; omega)))
  replace XA := Lib.hid (XA.out.below c21 XA.out.lt)
  obtain ⟨x21, y21, rfl⟩ := sl_form2 s21
  have S21 := Lib.hid (s21.at (fun _ => rfl))
  simp only [List.length_cons, List.length_nil, Nat.reduceAdd] at S21
  clear s21
  clear e0 e1 e2 e3 e4 e5 e6 e7 e8 e9
  go_wp2_with fail
  refine (CX.out 0 w21).mono ?_
  rintro e w22 ⟨rfl, c22⟩
  have BM22 := Lib.hid (BM21.out.trans (c22.mono (by have := BM21.out.size; have := HM.out; omega)))
  replace S21 := Lib.hid (S21.out.keep c22)
  replace XA := Lib.hid (XA.out.below c22 XA.out.lt)
  obtain ⟨w23, hw⟩ : ∃ W, w22.alloc (.cells #[.int .i64 1, .int .i64 0] 38) = W := ⟨_, rfl⟩
  obtain ⟨a6, ha⟩ : ∃ q, q = w22.heap.size := ⟨_, rfl⟩
  have bb : Below w22.heap.size w22 w23 := by rw [← hw]; exact (Below.refl _ _).alloc (Nat.le_refl _) _
  have T5 : Hid (SlAt w23 2 arC (.slice (some ⟨a6, 0, none⟩) 1 1) ([⟨1, 0⟩] : List Ar)) := Lib.hid (by rw [← hw, ha]; exact (Sl.lit (base := 0) (m := 2) (e := 38) (c := arC) w22 ([⟨1, 0⟩] : List Ar) (fun _ => rfl) (Nat.zero_le _) (by decide)).at (fun _ => rfl))
  replace S21 := Lib.hid (S21.out.keep bb)
  have BM23 := Lib.hid (BM22.out.trans (bb.mono (by have := BM22.out.size; have := HM.out; omega)))
  replace XA := Lib.hid (XA.out.below bb XA.out.lt)
  have HW := Lib.hid hw
  have HA := Lib.hid ha
  clear hw ha bb
  go_wp2_with fail
  rw [HW.out, ← HA.out]
  clear HW HA
  refine (same_true _ _ _ w23 S21.out T5.out).mono ?_
  rintro e w24 ⟨rfl, c24⟩
  have BM24 := Lib.hid (BM23.out.trans (c24.mono (by have := BM23.out.size; have := HM.out; omega)))
  replace XA := Lib.hid (XA.out.below c24 XA.out.lt)
  clear XA
  go_wp2_with fail
  refine (CN.out 1 w24 BM24.out).mono ?_
  rintro e w25 ⟨c25, v25, rfl, s25⟩
  have BM25 := Lib.hid (BM24.out.trans (c25.mono (by have := BM24.out.size; have := HM.out; omega)))
  rw [kn_n1] at s25
  obtain ⟨x25, y25, rfl⟩ := sl_form2 s25
  have S25 := Lib.hid (s25.at in_len)
  simp only [List.length_cons, List.length_nil, Nat.reduceAdd] at S25 ⊢
  clear s25
  go_wp2_with fail
  refine (CN.out 4 w25 BM25.out).mono ?_
  rintro e w26 ⟨c26, v26, rfl, s26⟩
  have BM26 := Lib.hid (BM25.out.trans (c26.mono (by have := BM25.out.size; have := HM.out; omega)))
  replace S25 := Lib.hid (S25.out.keep c26)
  rw [kn_n4] at s26
  obtain ⟨x26, y26, rfl⟩ := sl_form2 s26
  have S26 := Lib.hid (s26.at in_len)
  simp only [List.length_cons, List.length_nil, Nat.reduceAdd] at S26 ⊢
  clear s26
  go_wp2_with fail
  refine (CN.out 7 w26 BM26.out).mono ?_
  rintro e w27 ⟨c27, v27, rfl, s27⟩
  have BM27 := Lib.hid (BM26.out.trans (c27.mono (by have := BM26.out.size; have := HM.out; omega)))
  replace S25 := Lib.hid (S25.out.keep c27)
  replace S26 := Lib.hid (S26.out.keep c27)
  rw [kn_n7] at s27
  obtain ⟨x27, y27, rfl⟩ := sl_form2 s27
  have S27 := Lib.hid (s27.at in_len)
  simp only [List.length_nil] at S27 ⊢
  clear s27
  go_wp2_with fail
  refine (CN.out 8 w27 BM27.out).mono ?_
  rintro e w28 ⟨c28, v28, rfl, s28⟩
  have BM28 := Lib.hid (BM27.out.trans (c28.mono (by have := BM27.out.size; have := HM.out; omega)))
  replace S25 := Lib.hid (S25.out.keep c28)
  replace S26 := Lib.hid (S26.out.keep c28)
  replace S27 := Lib.hid (S27.out.keep c28)
  rw [kn_n8] at s28
  obtain ⟨x28, y28, rfl⟩ := sl_form2 s28
  have S28 := Lib.hid (s28.at in_len)
  simp only [List.length_nil] at S28 ⊢
  clear s28
  obtain ⟨gba, goa, gca, gea, gda⟩ := slat_get S25.out (by decide)
  simp only [List.length_cons, List.length_nil, Nat.reduceAdd, Value.slice.injEq, true_and] at gea
  obtain ⟨rfl, rfl⟩ := gea
  have gda_0 := gda 0 (by decide)
  simp only [List.getElem_cons_zero, Nat.add_zero] at gda_0
  clear gda
  obtain ⟨gbb, gob, gcb, geb, gdb⟩ := slat_get S26.out (by decide)
  simp only [List.length_cons, List.length_nil, Nat.reduceAdd, Value.slice.injEq, true_and] at geb
  obtain ⟨rfl, rfl⟩ := geb
  have gdb_0 := gdb 0 (by decide)
  simp only [List.getElem_cons_zero, Nat.add_zero] at gdb_0
  clear gdb
  clear S25 S26 S27 S28
  obtain ⟨w29, hw⟩ : ∃ W, w28.alloc (.cells #[.int .i64 11, .int .i64 0, .int .i64 0, .slice none 0 0, .int .i64 0, .int .i64 0, .int .i64 0, .string { data := #[] }, .slice none 0 0, .slice none 0 0, .int .i64 26, .int .i64 0, .int .i64 0, .slice none 0 0, .int .i64 0, .int .i64 0, .int .i64 0, .string { data := #[] }, .slice none 0 0, .slice none 0 0] 42) = W := ⟨_, rfl⟩
  obtain ⟨a7, ha⟩ : ∃ q, q = w28.heap.size := ⟨_, rfl⟩
  have bb : Below w28.heap.size w28 w29 := by rw [← hw]; exact (Below.refl _ _).alloc (Nat.le_refl _) _
  have IB : Hid (InsAt w29 backL (.slice (some ⟨a7, 0, none⟩) 2 2)) := Lib.hid (by rw [← hw, ha]; exact ⟨([⟨⟨11, ⟨0, 0⟩, [], 0, 0, 0, nmE, [], []⟩, .slice none 0 0, .slice none 0 0, .slice none 0 0⟩, ⟨⟨26, ⟨0, 0⟩, [], 0, 0, 0, nmE, [], []⟩, .slice none 0 0, .slice none 0 0, .slice none 0 0⟩] : List Im), rfl, (Sl.lit (base := 0) (m := 10) (e := 42) (c := imC) w28 ([⟨⟨11, ⟨0, 0⟩, [], 0, 0, 0, nmE, [], []⟩, .slice none 0 0, .slice none 0 0, .slice none 0 0⟩, ⟨⟨26, ⟨0, 0⟩, [], 0, 0, 0, nmE, [], []⟩, .slice none 0 0, .slice none 0 0, .slice none 0 0⟩] : List Im) (fun _ => rfl) (Nat.zero_le _) (by decide)).at (fun _ => rfl), fun f hf => by simp only [List.mem_cons, List.not_mem_nil, or_false] at hf; (try rcases hf with rfl | rfl) <;> (try subst hf) <;> exact ⟨.inl ⟨rfl, _, _, rfl⟩, .inl ⟨rfl, _, _, rfl⟩, .inl ⟨rfl, _, _, rfl⟩⟩⟩)
  have BM29 := Lib.hid (BM28.out.trans (bb.mono (by have := BM28.out.size; have := HM.out; omega)))
  have HW := Lib.hid hw
  have HA := Lib.hid ha
  clear hw ha bb
  go_wp2_with fail
  rw [HW.out, ← HA.out]
  clear HW HA
  refine (next16 backL _ 0 w29 IB.out (by decide) (fun x hx => by simp only [backL, List.mem_cons, List.not_mem_nil, or_false] at hx; rcases hx with rfl | rfl <;> decide)).mono ?_
  rintro e w30 ⟨c30, v30, rfl, s30⟩
  have BM30 := Lib.hid (BM29.out.trans (c30.mono (by have := BM29.out.size; have := HM.out; omega)))
  rw [kn_nb] at s30
  obtain ⟨x30, y30, rfl⟩ := sl_form2 s30
  have S30 := Lib.hid (s30.at in_len)
  simp only [List.length_cons, List.length_nil, Nat.reduceAdd] at S30 ⊢
  clear s30 IB
  obtain ⟨gbc, goc, gcc, gec, gdc⟩ := slat_get S30.out (by decide)
  simp only [List.length_cons, List.length_nil, Nat.reduceAdd, Value.slice.injEq, true_and] at gec
  obtain ⟨rfl, rfl⟩ := gec
  have gdc_0 := gdc 0 (by decide)
  have gdc_1 := gdc 1 (by decide)
  simp only [List.getElem_cons_zero, List.getElem_cons_succ, Nat.add_zero] at gdc_0 gdc_1
  clear gdc
  clear S30
  obtain ⟨w31, hw⟩ : ∃ W, w30.alloc (.cells #[.int .i64 0] 3) = W := ⟨_, rfl⟩
  obtain ⟨a8, ha⟩ : ∃ q, q = w30.heap.size := ⟨_, rfl⟩
  have bb : Below w30.heap.size w30 w31 := by rw [← hw]; exact (Below.refl _ _).alloc (Nat.le_refl _) _
  have F1 : Hid (SlAt w31 1 inC (.slice (some ⟨a8, 0, none⟩) 1 1) ([0] : List Int)) := Lib.hid (by rw [← hw, ha]; exact (Sl.lit (base := 0) (m := 1) (e := 3) (c := inC) w30 ([0] : List Int) (fun _ => rfl) (Nat.zero_le _) (by decide)).at (fun _ => rfl))
  have BM31 := Lib.hid (BM30.out.trans (bb.mono (by have := BM30.out.size; have := HM.out; omega)))
  have HW := Lib.hid hw
  have HA := Lib.hid ha
  clear hw ha bb
  go_wp2_with fail
  rw [HW.out, ← HA.out]
  clear HW HA
  refine (CTR.out [0] _ w31 BM31.out F1.out).mono ?_
  rintro e w32 ⟨c32, v32, R32, er32, rfl, ls32, ht32⟩
  have BM32 := Lib.hid (BM31.out.trans (c32.mono (by have := BM31.out.size; have := HM.out; omega)))
  rw [kn_t0] at ht32
  obtain ⟨rfl, rfl⟩ := Prod.mk.inj ht32
  clear F1
  obtain ⟨tb, to_, tc, rfl, hc⟩ := ls32.ents (by decide)
  obtain ⟨u1_, c1_, q1_⟩ := hc 1 (by decide)
  obtain ⟨u2_, c2_, q2_⟩ := hc 2 (by decide)
  obtain ⟨u3_, c3_, q3_⟩ := hc 3 (by decide)
  obtain ⟨u4_, c4_, q4_⟩ := hc 4 (by decide)
  obtain ⟨u5_, c5_, q5_⟩ := hc 5 (by decide)
  simp only [List.getElem_cons_zero, List.getElem_cons_succ, List.length_cons, List.length_nil, Nat.reduceAdd] at c1_ c2_ c3_ c4_ c5_ q1_ q2_ q3_ q4_ q5_ ⊢
  obtain ⟨_, sx1, sy1, rfl⟩ := q1_.len
  obtain ⟨_, sx4, sy4, rfl⟩ := q4_.len
  obtain ⟨_, sx5, sy5, rfl⟩ := q5_.len
  obtain ⟨g2b, g2o, g2c, rfl, d2⟩ := slat_get q2_ (by decide)
  obtain ⟨_, sx3, sy3, rfl⟩ := q3_.len
  have d20 := d2 0 (by decide)
  simp only [List.getElem_cons_zero, List.length_cons, List.length_nil, Nat.reduceAdd, Nat.add_zero] at c1_ c2_ c3_ c4_ c5_ d20
  clear hc ls32 q1_ q2_ q3_ q4_ q5_ d2 ht32
  go_upto_region 16 with fail
  clear c1_ c2_ c3_ c4_ c5_ d20 gda_0 gdb_0 gdc_0 gdc_1
  obtain ⟨w33, hw⟩ : ∃ W, w32.alloc (.cells #[.int .i64 0] 3) = W := ⟨_, rfl⟩
  obtain ⟨a9, ha⟩ : ∃ q, q = w32.heap.size := ⟨_, rfl⟩
  have bb : Below w32.heap.size w32 w33 := by rw [← hw]; exact (Below.refl _ _).alloc (Nat.le_refl _) _
  have F2 : Hid (SlAt w33 1 inC (.slice (some ⟨a9, 0, none⟩) 1 1) ([0] : List Int)) := Lib.hid (by rw [← hw, ha]; exact (Sl.lit (base := 0) (m := 1) (e := 3) (c := inC) w32 ([0] : List Int) (fun _ => rfl) (Nat.zero_le _) (by decide)).at (fun _ => rfl))
  have BM33 := Lib.hid (BM32.out.trans (bb.mono (by have := BM32.out.size; have := HM.out; omega)))
  have HW := Lib.hid hw
  have HA := Lib.hid ha
  clear hw ha bb
  go_wp2_with fail
  rw [HW.out, ← HA.out]
  clear HW HA
  refine (CLV.out [0] _ 1 w33 BM33.out F2.out).mono ?_
  rintro e w34 ⟨c34, v34, R34, er34, rfl, ls34, hs34⟩
  have BM34 := Lib.hid (BM33.out.trans (c34.mono (by have := BM33.out.size; have := HM.out; omega)))
  have hq : er34 = 0 ∧ R34 = [[0], [], [], [], [], [], [], [0]] := by
    rcases hs34 with ⟨⟨h, _, _⟩, _⟩ | ⟨_, ⟨h1, _, h3⟩ | ⟨h1, _, Q, h4, h5⟩⟩
    · exact absurd rfl h
    · rw [kn_t0] at h3
      exact absurd (Prod.mk.inj h3).2.symm h1
    · exact ⟨h1, ex_ansx h4 h5⟩
  obtain ⟨rfl, rfl⟩ := hq
  have LS := Lib.hid ls34
  clear hs34 ls34 F2
  obtain ⟨_, lsa, lsc, hlv⟩ : 8 ≤ 8 ∧ ∃ sa cap, v34 = .slice sa 8 cap := ⟨Nat.le_refl _, by obtain ⟨tb, to_, tc, h, _⟩ := LS.out.ents (by decide); exact ⟨_, _, h⟩⟩
  subst hlv
  obtain ⟨w35, hw⟩ : ∃ W, w34.alloc (.cells #[.int .i64 29, .int .i64 0, .int .i64 0, .slice none 0 0, .int .i64 0, .int .i64 0, .int .i64 0, .string { data := #[] }, .slice none 0 0, .slice none 0 0] 42) = W := ⟨_, rfl⟩
  obtain ⟨a10, ha⟩ : ∃ q, q = w34.heap.size := ⟨_, rfl⟩
  have bb : Below w34.heap.size w34 w35 := by rw [← hw]; exact (Below.refl _ _).alloc (Nat.le_refl _) _
  have IU : Hid (InsAt w35 untL (.slice (some ⟨a10, 0, none⟩) 1 1)) := Lib.hid (by rw [← hw, ha]; exact ⟨([⟨⟨29, ⟨0, 0⟩, [], 0, 0, 0, nmE, [], []⟩, .slice none 0 0, .slice none 0 0, .slice none 0 0⟩] : List Im), rfl, (Sl.lit (base := 0) (m := 10) (e := 42) (c := imC) w34 ([⟨⟨29, ⟨0, 0⟩, [], 0, 0, 0, nmE, [], []⟩, .slice none 0 0, .slice none 0 0, .slice none 0 0⟩] : List Im) (fun _ => rfl) (Nat.zero_le _) (by decide)).at (fun _ => rfl), fun f hf => by simp only [List.mem_cons, List.not_mem_nil, or_false] at hf; (try rcases hf with rfl | rfl) <;> (try subst hf) <;> exact ⟨.inl ⟨rfl, _, _, rfl⟩, .inl ⟨rfl, _, _, rfl⟩, .inl ⟨rfl, _, _, rfl⟩⟩⟩)
  replace LS := Lib.hid (LS.out.keep bb)
  have BM35 := Lib.hid (BM34.out.trans (bb.mono (by have := BM34.out.size; have := HM.out; omega)))
  have HW1 := Lib.hid hw
  have HA1 := Lib.hid ha
  clear hw ha bb
  obtain ⟨w36, hw⟩ : ∃ W, w35.alloc (.cells #[.int .i64 0] 3) = W := ⟨_, rfl⟩
  obtain ⟨a11, ha⟩ : ∃ q, q = w35.heap.size := ⟨_, rfl⟩
  have bb : Below w35.heap.size w35 w36 := by rw [← hw]; exact (Below.refl _ _).alloc (Nat.le_refl _) _
  have F3 : Hid (SlAt w36 1 inC (.slice (some ⟨a11, 0, none⟩) 1 1) ([0] : List Int)) := Lib.hid (by rw [← hw, ha]; exact (Sl.lit (base := 0) (m := 1) (e := 3) (c := inC) w35 ([0] : List Int) (fun _ => rfl) (Nat.zero_le _) (by decide)).at (fun _ => rfl))
  replace LS := Lib.hid (LS.out.keep bb)
  replace IU := Lib.hid (IU.out.keep bb)
  have BM36 := Lib.hid (BM35.out.trans (bb.mono (by have := BM35.out.size; have := HM.out; omega)))
  have HW := Lib.hid hw
  have HA := Lib.hid ha
  clear hw ha bb
  go_wp2_with fail
  have ea : a10 + 1 = a11 := by rw [HA.out, ← HW1.out, World.size_alloc, HA1.out]
  rw [HW1.out, HW.out, ← HA1.out, ea]
  clear HW HW1 HA HA1 ea
  refine (tries26 untL [0] _ _ w36 IU.out F3.out (by decide) (fun x hx => by simp only [untL, List.mem_cons, List.not_mem_nil, or_false] at hx; subst hx; decide)).mono ?_
  rintro e w37 ⟨c37, v37, R37, er37, rfl, ls37, ht37⟩
  have BM37 := Lib.hid (BM36.out.trans (c37.mono (by have := BM36.out.size; have := HM.out; omega)))
  replace LS := Lib.hid (LS.out.keep c37)
  rw [kn_tu] at ht37
  obtain ⟨rfl, rfl⟩ := Prod.mk.inj ht37
  obtain ⟨_, hlu, _⟩ := ls37
  clear IU F3 hlu
  obtain ⟨w38, hw⟩ : ∃ W, w37.alloc (.cells #[.int .i64 9] 3) = W := ⟨_, rfl⟩
  obtain ⟨a12, ha⟩ : ∃ q, q = w37.heap.size := ⟨_, rfl⟩
  have bb : Below w37.heap.size w37 w38 := by rw [← hw]; exact (Below.refl _ _).alloc (Nat.le_refl _) _
  have F4 : Hid (SlAt w38 1 inC (.slice (some ⟨a12, 0, none⟩) 1 1) ([9] : List Int)) := Lib.hid (by rw [← hw, ha]; exact (Sl.lit (base := 0) (m := 1) (e := 3) (c := inC) w37 ([9] : List Int) (fun _ => rfl) (Nat.zero_le _) (by decide)).at (fun _ => rfl))
  replace LS := Lib.hid (LS.out.keep bb)
  have BM38 := Lib.hid (BM37.out.trans (bb.mono (by have := BM37.out.size; have := HM.out; omega)))
  have HW := Lib.hid hw
  have HA := Lib.hid ha
  clear hw ha bb
  go_wp2_with fail
  rw [HW.out, ← HA.out]
  clear HW HA
  refine (CTR.out [9] _ w38 BM38.out F4.out).mono ?_
  rintro e w39 ⟨c39, v39, R39, er39, rfl, ls39, ht39⟩
  have BM39 := Lib.hid (BM38.out.trans (c39.mono (by have := BM38.out.size; have := HM.out; omega)))
  replace LS := Lib.hid (LS.out.keep c39)
  replace F4 := Lib.hid (F4.out.keep c39)
  rw [kn_t9] at ht39
  obtain ⟨rfl, rfl⟩ := Prod.mk.inj ht39
  clear ls39
  clear F4
  obtain ⟨w40, hw⟩ : ∃ W, w39.alloc (.cells #[.int .i64 9] 3) = W := ⟨_, rfl⟩
  obtain ⟨a13, ha⟩ : ∃ q, q = w39.heap.size := ⟨_, rfl⟩
  have bb : Below w39.heap.size w39 w40 := by rw [← hw]; exact (Below.refl _ _).alloc (Nat.le_refl _) _
  have F5 : Hid (SlAt w40 1 inC (.slice (some ⟨a13, 0, none⟩) 1 1) ([9] : List Int)) := Lib.hid (by rw [← hw, ha]; exact (Sl.lit (base := 0) (m := 1) (e := 3) (c := inC) w39 ([9] : List Int) (fun _ => rfl) (Nat.zero_le _) (by decide)).at (fun _ => rfl))
  replace LS := Lib.hid (LS.out.keep bb)
  have BM40 := Lib.hid (BM39.out.trans (bb.mono (by have := BM39.out.size; have := HM.out; omega)))
  have HW := Lib.hid hw
  have HA := Lib.hid ha
  clear hw ha bb
  go_wp2_with fail
  rw [HW.out, ← HA.out]
  clear HW HA
  refine (CLV.out [9] _ 3 w40 BM40.out F5.out).mono ?_
  rintro e w41 ⟨c41, v41, R41, er41, rfl, ls41, hs41⟩
  have BM41 := Lib.hid (BM40.out.trans (c41.mono (by have := BM40.out.size; have := HM.out; omega)))
  replace LS := Lib.hid (LS.out.keep c41)
  have hq2 : er41 = 2 := by
    rcases hs41 with ⟨_, _, h⟩ | ⟨h, _⟩
    · exact h
    · exact absurd ⟨by decide, by decide, by decide⟩ h
  subst hq2
  clear hs41 ls41 F5
  obtain ⟨tb, to_, tc, hlv, hc⟩ := LS.out.ents (by decide)
  simp only [List.length_cons, List.length_nil, Nat.reduceAdd, Value.slice.injEq, true_and] at hlv
  obtain ⟨rfl, rfl⟩ := hlv
  obtain ⟨u0_, c0_, q0_⟩ := hc 0 (by decide)
  obtain ⟨u1_, c1_, q1_⟩ := hc 1 (by decide)
  obtain ⟨u6_, c6_, q6_⟩ := hc 6 (by decide)
  obtain ⟨u7_, c7_, q7_⟩ := hc 7 (by decide)
  simp only [List.getElem_cons_zero, List.getElem_cons_succ, Nat.add_zero] at c0_ c1_ c6_ c7_ q0_ q1_ q6_ q7_
  obtain ⟨_, sx0, sy0, rfl⟩ := q0_.len
  obtain ⟨_, sx1, sy1, rfl⟩ := q1_.len
  obtain ⟨_, sx6, sy6, rfl⟩ := q6_.len
  obtain ⟨_, sx7, sy7, rfl⟩ := q7_.len
  simp only [List.length_cons, List.length_nil, Nat.reduceAdd] at c0_ c1_ c6_ c7_
  clear hc q0_ q1_ q6_ q7_ LS
  go_wp2_with fail
  refine (awake11 w41 (tab_below HT.out (HBW.out w41 BM41.out) HZ.out) (Nat.lt_of_lt_of_le HZ.out (HBW.out w41 BM41.out).size)).mono ?_
  rintro e wz ⟨rfl, cz⟩
  have BZ := Lib.hid ((HBW.out w41 BM41.out).trans (cz.mono (HBW.out w41 BM41.out).size))
  clear cz
  go_wp2_with fail
  go_ret
  exact ⟨rfl, BZ.out⟩
end Go.Proofs.YtekfnonjhcfdmaaDoor
