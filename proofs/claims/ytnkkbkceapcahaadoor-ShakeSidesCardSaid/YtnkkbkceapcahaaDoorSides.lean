/- ShakeSides: every case of it. -/
import Derived.Test.YtnkkbkceapcahaaDoorActs
namespace Go.Proofs.YtnkkbkceapcahaaDoor
open Go.RowKit Go.Rt Go.Rw

set_option maxRecDepth 100000 in
set_option maxHeartbeats 4000000 in
theorem sides_long (x : Stg) (v : Value) (L : List Ac) (w : World) (ht : Tabs w) (sx : StgSz x) (hv : SlAt w 3 acC v L) (hs : ∀ a ∈ L, a.text.size ≤ 140737488355328) (hlx : longA x L = true) :
    Calls Tryd.prog 7 #[stgV x, v] w fun e w' => e = .returned (.bool true) ∧ Below w.heap.size w w' := by
  have X0 := Lib.hid (Bx.of (x := x) (Blk.new w 26 #[.bool x.dials, .string x.name, .int .i64 x.gen, .string x.want, .string x.cookie, .int .u64 x.chal]))
  have V0 := Lib.hid (sl_below hv ((Below.refl w.heap.size w).alloc (Nat.le_refl _) (.cells #[.bool x.dials, .string x.name, .int .i64 x.gen, .string x.want, .string x.cookie, .int .u64 x.chal] 26)))
  have S0 := Lib.hid ((St.refl ht).alloc (.cells #[.bool x.dials, .string x.name, .int .i64 x.gen, .string x.want, .string x.cookie, .int .u64 x.chal] 26))
  have CX := Lib.hid (fun W (h : SlAt W 3 acC v L) => longA_any x sx _ L W h hs)
  rw [hlx] at CX
  have AW := Lib.hid (fun W (t : Tabs W) => awakeS_any W t)
  clear ht sx hv hs hlx
  unfold stgV
  go_enter Tryd.func7, Tryd.ntmps7
  obtain ⟨c0, c1, c2, c3, c4, c5⟩ := X0.out
  try dsimp only at c0 c1 c2 c3 c4 c5
  go_wp2_with fail
  refine (CX.out _ V0.out).mono ?_
  rintro e w1 ⟨rfl, b1⟩
  have S1 := Lib.hid (S0.out.keep b1)
  clear c0 c1 c2 c3 c4 c5
  have X1 := Lib.hid (X0.out.below b1)
  have V1 := Lib.hid (sl_below V0.out b1)
  obtain ⟨c0, c1, c2, c3, c4, c5⟩ := X1.out
  try dsimp only at c0 c1 c2 c3 c4 c5
  clear b1 S0 X0 V0
  go_wp2_with fail
  clear c0 c1 c2 c3 c4 c5
  clear X1 V1
  refine (AW.out _ S1.out.tabs).mono ?_
  rintro e w9 ⟨rfl, b9⟩
  have S9 := Lib.hid (S1.out.keep b9)
  clear b9
  go_wp2
  go_ret
  exact ⟨rfl, S9.out.bel⟩
set_option maxRecDepth 100000 in
set_option maxHeartbeats 4000000 in
theorem sides_nodial (xn xw xc : ByteArray) (gx : Int) (cx : Nat) (v : Value) (L : List Ac) (w : World) (ht : Tabs w) (sx : StgSz (⟨true, xn, gx, xw, xc, cx⟩ : Stg)) (hv : SlAt w 3 acC v L) (hs : ∀ a ∈ L, a.text.size ≤ 140737488355328) (hlx : longA (⟨true, xn, gx, xw, xc, cx⟩ : Stg) L = false) (hd : dialB xn gx xw = false) :
    Calls Tryd.prog 7 #[stgV (⟨true, xn, gx, xw, xc, cx⟩ : Stg), v] w fun e w' => e = .returned (.bool true) ∧ Below w.heap.size w w' := by
  have X0 := Lib.hid (Bx.of (x := (⟨true, xn, gx, xw, xc, cx⟩ : Stg)) (Blk.new w 26 #[.bool true, .string xn, .int .i64 gx, .string xw, .string xc, .int .u64 (cx : Int)]))
  have V0 := Lib.hid (sl_below hv ((Below.refl w.heap.size w).alloc (Nat.le_refl _) (.cells #[.bool true, .string xn, .int .i64 gx, .string xw, .string xc, .int .u64 (cx : Int)] 26)))
  have S0 := Lib.hid ((St.refl ht).alloc (.cells #[.bool true, .string xn, .int .i64 gx, .string xw, .string xc, .int .u64 (cx : Int)] 26))
  obtain ⟨sa, cap, rfl⟩ := hv.len.2
  have CX : Hid (∀ W, SlAt W 3 acC (.slice sa L.length cap) L → Calls Tryd.prog 10 #[.agg #[.bool true, .string xn, .int .i64 gx, .string xw, .string xc, .int .u64 (cx : Int)], .slice sa L.length cap] W fun e w' => e = .returned (.bool false) ∧ Below W.heap.size W w') := by
    refine Lib.hid fun W h => ?_
    have := longA_any (⟨true, xn, gx, xw, xc, cx⟩ : Stg) sx _ L W h hs
    rw [hlx] at this
    exact this
  have AW := Lib.hid (fun W (t : Tabs W) => awakeS_any W t)
  have DN := Lib.hid (fun W => dial_no xn gx xw xc cx hd W)
  have RN := Lib.hid (fun W => rdial_no xn gx xw xc cx hd W)
  clear ht sx hv hs hlx hd
  unfold stgV
  go_enter Tryd.func7, Tryd.ntmps7
  obtain ⟨c0, c1, c2, c3, c4, c5⟩ := X0.out
  try dsimp only at c0 c1 c2 c3 c4 c5
  go_wp2_with fail
  refine (CX.out _ V0.out).mono ?_
  rintro e w1 ⟨rfl, b1⟩
  have S1 := Lib.hid (S0.out.keep b1)
  clear c0 c1 c2 c3 c4 c5
  have X1 := Lib.hid (X0.out.below b1)
  have V1 := Lib.hid (sl_below V0.out b1)
  obtain ⟨c0, c1, c2, c3, c4, c5⟩ := X1.out
  try dsimp only at c0 c1 c2 c3 c4 c5
  clear b1 S0 X0 V0
  go_wp2_with fail
  refine (DN.out _).mono ?_
  rintro e w2 ⟨rfl, b2⟩
  have S2 := Lib.hid (S1.out.keep b2)
  clear c0 c1 c2 c3 c4 c5
  have X2 := Lib.hid (X1.out.below b2)
  have V2 := Lib.hid (sl_below V1.out b2)
  obtain ⟨c0, c1, c2, c3, c4, c5⟩ := X2.out
  try dsimp only at c0 c1 c2 c3 c4 c5
  clear b2 S1 X1 V1
  go_wp2_with fail
  refine (RN.out _).mono ?_
  rintro e w3 ⟨rfl, b3⟩
  have S3 := Lib.hid (S2.out.keep b3)
  clear c0 c1 c2 c3 c4 c5
  have X3 := Lib.hid (X2.out.below b3)
  have V3 := Lib.hid (sl_below V2.out b3)
  obtain ⟨c0, c1, c2, c3, c4, c5⟩ := X3.out
  try dsimp only at c0 c1 c2 c3 c4 c5
  clear b3 S2 X2 V2
  go_wp2_with fail
  clear c0 c1 c2 c3 c4 c5
  clear X3 V3
  refine (AW.out _ S3.out.tabs).mono ?_
  rintro e w9 ⟨rfl, b9⟩
  have S9 := Lib.hid (S3.out.keep b9)
  clear b9
  go_wp2
  go_ret
  exact ⟨rfl, S9.out.bel⟩
set_option maxRecDepth 100000 in
set_option maxHeartbeats 4000000 in
theorem sides_nolisten (xn xw xc : ByteArray) (gx : Int) (cx : Nat) (v : Value) (L : List Ac) (w : World) (ht : Tabs w) (sx : StgSz (⟨false, xn, gx, xw, xc, cx⟩ : Stg)) (hv : SlAt w 3 acC v L) (hs : ∀ a ∈ L, a.text.size ≤ 140737488355328) (hlx : longA (⟨false, xn, gx, xw, xc, cx⟩ : Stg) L = false) (hd : (nameF xn && genI gx) = false) :
    Calls Tryd.prog 7 #[stgV (⟨false, xn, gx, xw, xc, cx⟩ : Stg), v] w fun e w' => e = .returned (.bool true) ∧ Below w.heap.size w w' := by
  have X0 := Lib.hid (Bx.of (x := (⟨false, xn, gx, xw, xc, cx⟩ : Stg)) (Blk.new w 26 #[.bool false, .string xn, .int .i64 gx, .string xw, .string xc, .int .u64 (cx : Int)]))
  have V0 := Lib.hid (sl_below hv ((Below.refl w.heap.size w).alloc (Nat.le_refl _) (.cells #[.bool false, .string xn, .int .i64 gx, .string xw, .string xc, .int .u64 (cx : Int)] 26)))
  have S0 := Lib.hid ((St.refl ht).alloc (.cells #[.bool false, .string xn, .int .i64 gx, .string xw, .string xc, .int .u64 (cx : Int)] 26))
  obtain ⟨sa, cap, rfl⟩ := hv.len.2
  have CX : Hid (∀ W, SlAt W 3 acC (.slice sa L.length cap) L → Calls Tryd.prog 10 #[.agg #[.bool false, .string xn, .int .i64 gx, .string xw, .string xc, .int .u64 (cx : Int)], .slice sa L.length cap] W fun e w' => e = .returned (.bool false) ∧ Below W.heap.size W w') := by
    refine Lib.hid fun W h => ?_
    have := longA_any (⟨false, xn, gx, xw, xc, cx⟩ : Stg) sx _ L W h hs
    rw [hlx] at this
    exact this
  have AW := Lib.hid (fun W (t : Tabs W) => awakeS_any W t)
  have DN := Lib.hid (fun W => listen_no xn gx xc cx hd W)
  have RN := Lib.hid (fun W => rlisten_no xn gx xc cx hd W)
  clear ht sx hv hs hlx hd
  unfold stgV
  go_enter Tryd.func7, Tryd.ntmps7
  obtain ⟨c0, c1, c2, c3, c4, c5⟩ := X0.out
  try dsimp only at c0 c1 c2 c3 c4 c5
  go_wp2_with fail
  refine (CX.out _ V0.out).mono ?_
  rintro e w1 ⟨rfl, b1⟩
  have S1 := Lib.hid (S0.out.keep b1)
  clear c0 c1 c2 c3 c4 c5
  have X1 := Lib.hid (X0.out.below b1)
  have V1 := Lib.hid (sl_below V0.out b1)
  obtain ⟨c0, c1, c2, c3, c4, c5⟩ := X1.out
  try dsimp only at c0 c1 c2 c3 c4 c5
  clear b1 S0 X0 V0
  go_wp2_with fail
  refine (DN.out _).mono ?_
  rintro e w2 ⟨rfl, b2⟩
  have S2 := Lib.hid (S1.out.keep b2)
  clear c0 c1 c2 c3 c4 c5
  have X2 := Lib.hid (X1.out.below b2)
  have V2 := Lib.hid (sl_below V1.out b2)
  obtain ⟨c0, c1, c2, c3, c4, c5⟩ := X2.out
  try dsimp only at c0 c1 c2 c3 c4 c5
  clear b2 S1 X1 V1
  go_wp2_with fail
  refine (RN.out _).mono ?_
  rintro e w3 ⟨rfl, b3⟩
  have S3 := Lib.hid (S2.out.keep b3)
  clear c0 c1 c2 c3 c4 c5
  have X3 := Lib.hid (X2.out.below b3)
  have V3 := Lib.hid (sl_below V2.out b3)
  obtain ⟨c0, c1, c2, c3, c4, c5⟩ := X3.out
  try dsimp only at c0 c1 c2 c3 c4 c5
  clear b3 S2 X2 V2
  go_wp2_with fail
  clear c0 c1 c2 c3 c4 c5
  clear X3 V3
  refine (AW.out _ S3.out.tabs).mono ?_
  rintro e w9 ⟨rfl, b9⟩
  have S9 := Lib.hid (S3.out.keep b9)
  clear b9
  go_wp2
  go_ret
  exact ⟨rfl, S9.out.bel⟩
set_option maxRecDepth 100000 in
set_option maxHeartbeats 4000000 in
theorem sides_dial (xn xw xc : ByteArray) (gx : Nat) (cx : Nat) (v : Value) (L : List Ac) (w : World) (ht : Tabs w) (sx : StgSz (⟨true, xn, gx, xw, xc, cx⟩ : Stg)) (hv : SlAt w 3 acC v L) (hs : ∀ a ∈ L, a.text.size ≤ 140737488355328) (hlx : longA (⟨true, xn, gx, xw, xc, cx⟩ : Stg) L = false) (h64 : cx ≤ 18446744073709551615) (hd : dialB xn gx xw = true) :
    Calls Tryd.prog 7 #[stgV (⟨true, xn, gx, xw, xc, cx⟩ : Stg), v] w fun e w' => e = .returned (.bool true) ∧ Below w.heap.size w w' := by
  have X0 := Lib.hid (Bx.of (x := (⟨true, xn, gx, xw, xc, cx⟩ : Stg)) (Blk.new w 26 #[.bool true, .string xn, .int .i64 (gx : Int), .string xw, .string xc, .int .u64 (cx : Int)]))
  have V0 := Lib.hid (sl_below hv ((Below.refl w.heap.size w).alloc (Nat.le_refl _) (.cells #[.bool true, .string xn, .int .i64 (gx : Int), .string xw, .string xc, .int .u64 (cx : Int)] 26)))
  have S0 := Lib.hid ((St.refl ht).alloc (.cells #[.bool true, .string xn, .int .i64 (gx : Int), .string xw, .string xc, .int .u64 (cx : Int)] 26))
  obtain ⟨sa, cap, rfl⟩ := hv.len.2
  have CX : Hid (∀ W, SlAt W 3 acC (.slice sa L.length cap) L → Calls Tryd.prog 10 #[.agg #[.bool true, .string xn, .int .i64 (gx : Int), .string xw, .string xc, .int .u64 (cx : Int)], .slice sa L.length cap] W fun e w' => e = .returned (.bool false) ∧ Below W.heap.size W w') := by
    refine Lib.hid fun W h => ?_
    have := longA_any (⟨true, xn, gx, xw, xc, cx⟩ : Stg) sx _ L W h hs
    rw [hlx] at this
    exact this
  have AW := Lib.hid (fun W (t : Tabs W) => awakeS_any W t)
  have hlong : xw.size + xc.size + xn.size + tot L ≤ 6000 := by
    unfold longA at hlx
    rw [Bool.or_eq_false_iff] at hlx
    have := of_decide_eq_false hlx.1
    dsimp only at this
    omega
  have HS : Hid (∀ a ∈ L, a.text.size ≤ 100000) := Lib.hid fun a ha => by have := tot_mem ha; omega
  have okx : PrOk ⟨xn, gx⟩ := by
    have p1 := (dialB_parts hd).1
    rw [Bool.and_eq_true] at p1
    have := p1.2
    unfold genI at this
    simp only [Bool.and_eq_true, decide_eq_true_eq] at this
    exact ⟨p1.1, by show 1 ≤ gx; omega, by show gx ≤ _; omega⟩
  obtain ⟨hel, hhel⟩ : ∃ h, h = helloF ⟨xn, gx⟩ xw := ⟨_, rfl⟩
  have DY := Lib.hid (fun W => dial_yes xn gx xw xc cx hd W)
  have RY := Lib.hid (fun W => rdial_yes xn gx xw xc cx hd W)
  obtain ⟨s, hss⟩ : ∃ s, s = dialS ⟨xn, gx⟩ xw xc cx := ⟨_, rfl⟩
  have HF : Hid (Fine s) := Lib.hid (by rw [hss]; exact Fine.dialS okx (by omega) (by omega) h64)
  rw [← hss, ← hhel] at DY RY
  have q1 : (hel.toList == hel.toList) = true := by simp
  have VW := Lib.hid hv
  have SM := Lib.hid (fun (s : Sd) (B C : Nat) (W : World) => same_any s B C W)
  have hlen := hv.len.1
  clear ht sx hv hs hlx hd hlong okx h64 hss hhel
  unfold stgV
  go_enter Tryd.func7, Tryd.ntmps7
  obtain ⟨c0, c1, c2, c3, c4, c5⟩ := X0.out
  try dsimp only at c0 c1 c2 c3 c4 c5
  go_wp2_with fail
  refine (CX.out _ V0.out).mono ?_
  rintro e w1 ⟨rfl, b1⟩
  have S1 := Lib.hid (S0.out.keep b1)
  clear c0 c1 c2 c3 c4 c5
  have X1 := Lib.hid (X0.out.below b1)
  have V1 := Lib.hid (sl_below V0.out b1)
  obtain ⟨c0, c1, c2, c3, c4, c5⟩ := X1.out
  try dsimp only at c0 c1 c2 c3 c4 c5
  clear b1 S0 X0 V0
  have SS0 := Lib.hid (Ss.ofSt S1.out)
  go_wp2_with fail
  refine (DY.out _).mono ?_
  rintro e w2 ⟨D, rfl, gB, kB, b2⟩
  have SS1 := Lib.hid (SS0.out.add kB gB b2)
  clear c0 c1 c2 c3 c4 c5
  have X2 := Lib.hid (X1.out.below b2)
  have V2 := Lib.hid (sl_below V1.out b2)
  obtain ⟨c0, c1, c2, c3, c4, c5⟩ := X2.out
  try dsimp only at c0 c1 c2 c3 c4 c5
  clear b2 SS0 X1 gB kB
  go_wp2_with fail
  refine (RY.out _).mono ?_
  rintro e w3 ⟨P, rfl, gB, kB, b3⟩
  have SS2 := Lib.hid (SS1.out.add kB gB b3)
  clear c0 c1 c2 c3 c4 c5
  have X3 := Lib.hid (X2.out.below b3)
  have V3 := Lib.hid (sl_below V2.out b3)
  obtain ⟨c0, c1, c2, c3, c4, c5⟩ := X3.out
  try dsimp only at c0 c1 c2 c3 c4 c5
  clear b3 SS1 X2 gB kB
  clear X3 V2 c0 c1 c2 c3 c4 c5
  go_wp2_with fail
  go_loopw [17] (fun i wr => ∃ (k : Nat) (s' : Sd), k ≤ L.length ∧ i = .int .i64 k ∧ Fine s' ∧ Ss w wr [(D, 46, s'), (P, 83, s')]) (fun i _ => L.length - (intOf i).toNat)
  case atStart => exact ⟨0, s, Nat.zero_le _, rfl, HF.out, SS2.out⟩
  case round =>
    obtain ⟨k, s', hk, rfl, hf, ss⟩ := hrel
    have SS := Lib.hid ss
    have HF' := Lib.hid hf
    clear ss hf SS2
    by_cases hlt : k < L.length
    · have HZ := Lib.hid (HS.out _ (List.getElem_mem hlt))
      obtain ⟨bb, o, rfl, hbl, hc⟩ := VW.out.get (by omega)
      go_wp2_with fail
      refine (SM.out s' D P _ (SS.out.get 0 rfl) (SS.out.get 1 rfl)).mono ?_
      rintro e w8 ⟨rfl, b8⟩
      have SS8 := Lib.hid (SS.out.below b8)
      clear b8 SS
      have bw := SS8.out.st.bel
      have c0 := cell_keep bw (hc k 0 hlt (by omega))
      have c1 := cell_keep bw (hc k 1 hlt (by omega))
      have c2 := cell_keep bw (hc k 2 hlt (by omega))
      simp only [Nat.add_zero] at c0 c1 c2
      clear bw hc
      go_wp2_with fail
      refine (act_any SS8.out HF'.out _ HZ.out).mono ?_
      rintro e w9 ⟨rfl, s9, f9, ss9⟩
      have SS9 := Lib.hid ss9
      have HF9 := Lib.hid f9
      clear ss9 f9 c0 c1 c2
      go_wp2
      go_roundw
      case rel => exact ⟨k + 1, s9, by omega, by go_num, HF9.out, SS9.out⟩
      case measure => simp [intOf]; omega
    · go_wp2_with fail
      refine (SM.out s' D P _ (SS.out.get 0 rfl) (SS.out.get 1 rfl)).mono ?_
      rintro e w8 ⟨rfl, b8⟩
      have SS8 := Lib.hid (SS.out.below b8)
      clear b8 SS
      go_wp2_with fail
      refine (AW.out _ SS8.out.st.tabs).mono ?_
      rintro e w9 ⟨rfl, b9⟩
      have S9 := Lib.hid (SS8.out.st.keep b9)
      clear b9
      go_wp2
      go_ret
      exact ⟨rfl, S9.out.bel⟩
set_option maxRecDepth 100000 in
set_option maxHeartbeats 4000000 in
theorem sides_listen (xn xw xc : ByteArray) (gx : Nat) (cx : Nat) (v : Value) (L : List Ac) (w : World) (ht : Tabs w) (sx : StgSz (⟨false, xn, gx, xw, xc, cx⟩ : Stg)) (hv : SlAt w 3 acC v L) (hs : ∀ a ∈ L, a.text.size ≤ 140737488355328) (hlx : longA (⟨false, xn, gx, xw, xc, cx⟩ : Stg) L = false) (h64 : cx ≤ 18446744073709551615) (hd : (nameF xn && genI gx) = true) :
    Calls Tryd.prog 7 #[stgV (⟨false, xn, gx, xw, xc, cx⟩ : Stg), v] w fun e w' => e = .returned (.bool true) ∧ Below w.heap.size w w' := by
  have X0 := Lib.hid (Bx.of (x := (⟨false, xn, gx, xw, xc, cx⟩ : Stg)) (Blk.new w 26 #[.bool false, .string xn, .int .i64 (gx : Int), .string xw, .string xc, .int .u64 (cx : Int)]))
  have V0 := Lib.hid (sl_below hv ((Below.refl w.heap.size w).alloc (Nat.le_refl _) (.cells #[.bool false, .string xn, .int .i64 (gx : Int), .string xw, .string xc, .int .u64 (cx : Int)] 26)))
  have S0 := Lib.hid ((St.refl ht).alloc (.cells #[.bool false, .string xn, .int .i64 (gx : Int), .string xw, .string xc, .int .u64 (cx : Int)] 26))
  obtain ⟨sa, cap, rfl⟩ := hv.len.2
  have CX : Hid (∀ W, SlAt W 3 acC (.slice sa L.length cap) L → Calls Tryd.prog 10 #[.agg #[.bool false, .string xn, .int .i64 (gx : Int), .string xw, .string xc, .int .u64 (cx : Int)], .slice sa L.length cap] W fun e w' => e = .returned (.bool false) ∧ Below W.heap.size W w') := by
    refine Lib.hid fun W h => ?_
    have := longA_any (⟨false, xn, gx, xw, xc, cx⟩ : Stg) sx _ L W h hs
    rw [hlx] at this
    exact this
  have AW := Lib.hid (fun W (t : Tabs W) => awakeS_any W t)
  have hlong : xw.size + xc.size + xn.size + tot L ≤ 6000 := by
    unfold longA at hlx
    rw [Bool.or_eq_false_iff] at hlx
    have := of_decide_eq_false hlx.1
    dsimp only at this
    omega
  have HS : Hid (∀ a ∈ L, a.text.size ≤ 100000) := Lib.hid fun a ha => by have := tot_mem ha; omega
  have okx : PrOk ⟨xn, gx⟩ := by
    have p1 := hd
    rw [Bool.and_eq_true] at p1
    have := p1.2
    unfold genI at this
    simp only [Bool.and_eq_true, decide_eq_true_eq] at this
    exact ⟨p1.1, by show 1 ≤ gx; omega, by show gx ≤ _; omega⟩
  have DY := Lib.hid (fun W => listen_yes xn gx xc cx hd W)
  have RY := Lib.hid (fun W => rlisten_yes xn gx xc cx hd W)
  obtain ⟨s, hss⟩ : ∃ s, s = listenS ⟨xn, gx⟩ xc cx := ⟨_, rfl⟩
  have HF : Hid (Fine s) := Lib.hid (by rw [hss]; exact Fine.listenS okx (by omega) h64)
  rw [← hss] at DY RY
  have VW := Lib.hid hv
  have SM := Lib.hid (fun (s : Sd) (B C : Nat) (W : World) => same_any s B C W)
  have hlen := hv.len.1
  clear ht sx hv hs hlx hd hlong okx h64 hss
  unfold stgV
  go_enter Tryd.func7, Tryd.ntmps7
  obtain ⟨c0, c1, c2, c3, c4, c5⟩ := X0.out
  try dsimp only at c0 c1 c2 c3 c4 c5
  go_wp2_with fail
  refine (CX.out _ V0.out).mono ?_
  rintro e w1 ⟨rfl, b1⟩
  have S1 := Lib.hid (S0.out.keep b1)
  clear c0 c1 c2 c3 c4 c5
  have X1 := Lib.hid (X0.out.below b1)
  have V1 := Lib.hid (sl_below V0.out b1)
  obtain ⟨c0, c1, c2, c3, c4, c5⟩ := X1.out
  try dsimp only at c0 c1 c2 c3 c4 c5
  clear b1 S0 X0 V0
  have SS0 := Lib.hid (Ss.ofSt S1.out)
  go_wp2_with fail
  refine (DY.out _).mono ?_
  rintro e w2 ⟨D, rfl, gB, kB, b2⟩
  have SS1 := Lib.hid (SS0.out.add kB gB b2)
  clear c0 c1 c2 c3 c4 c5
  have X2 := Lib.hid (X1.out.below b2)
  have V2 := Lib.hid (sl_below V1.out b2)
  obtain ⟨c0, c1, c2, c3, c4, c5⟩ := X2.out
  try dsimp only at c0 c1 c2 c3 c4 c5
  clear b2 SS0 X1 gB kB
  go_wp2_with fail
  refine (RY.out _).mono ?_
  rintro e w3 ⟨P, rfl, gB, kB, b3⟩
  have SS2 := Lib.hid (SS1.out.add kB gB b3)
  clear c0 c1 c2 c3 c4 c5
  have X3 := Lib.hid (X2.out.below b3)
  have V3 := Lib.hid (sl_below V2.out b3)
  obtain ⟨c0, c1, c2, c3, c4, c5⟩ := X3.out
  try dsimp only at c0 c1 c2 c3 c4 c5
  clear b3 SS1 X2 gB kB
  clear X3 V2 c0 c1 c2 c3 c4 c5
  go_wp2_with fail
  go_loopw [17] (fun i wr => ∃ (k : Nat) (s' : Sd), k ≤ L.length ∧ i = .int .i64 k ∧ Fine s' ∧ Ss w wr [(D, 46, s'), (P, 83, s')]) (fun i _ => L.length - (intOf i).toNat)
  case atStart => exact ⟨0, s, Nat.zero_le _, rfl, HF.out, SS2.out⟩
  case round =>
    obtain ⟨k, s', hk, rfl, hf, ss⟩ := hrel
    have SS := Lib.hid ss
    have HF' := Lib.hid hf
    clear ss hf SS2
    by_cases hlt : k < L.length
    · have HZ := Lib.hid (HS.out _ (List.getElem_mem hlt))
      obtain ⟨bb, o, rfl, hbl, hc⟩ := VW.out.get (by omega)
      go_wp2_with fail
      refine (SM.out s' D P _ (SS.out.get 0 rfl) (SS.out.get 1 rfl)).mono ?_
      rintro e w8 ⟨rfl, b8⟩
      have SS8 := Lib.hid (SS.out.below b8)
      clear b8 SS
      have bw := SS8.out.st.bel
      have c0 := cell_keep bw (hc k 0 hlt (by omega))
      have c1 := cell_keep bw (hc k 1 hlt (by omega))
      have c2 := cell_keep bw (hc k 2 hlt (by omega))
      simp only [Nat.add_zero] at c0 c1 c2
      clear bw hc
      go_wp2_with fail
      refine (act_any SS8.out HF'.out _ HZ.out).mono ?_
      rintro e w9 ⟨rfl, s9, f9, ss9⟩
      have SS9 := Lib.hid ss9
      have HF9 := Lib.hid f9
      clear ss9 f9 c0 c1 c2
      go_wp2
      go_roundw
      case rel => exact ⟨k + 1, s9, by omega, by go_num, HF9.out, SS9.out⟩
      case measure => simp [intOf]; omega
    · go_wp2_with fail
      refine (SM.out s' D P _ (SS.out.get 0 rfl) (SS.out.get 1 rfl)).mono ?_
      rintro e w8 ⟨rfl, b8⟩
      have SS8 := Lib.hid (SS.out.below b8)
      clear b8 SS
      go_wp2_with fail
      refine (AW.out _ SS8.out.st.tabs).mono ?_
      rintro e w9 ⟨rfl, b9⟩
      have S9 := Lib.hid (SS8.out.st.keep b9)
      clear b9
      go_wp2
      go_ret
      exact ⟨rfl, S9.out.bel⟩
/-- Every case. -/
theorem sides_walk (x : Stg) (ox : StgOk x) (v : Value) (L : List Ac) (w : World) (ht : Tabs w) (sx : StgSz x) (hv : SlAt w 3 acC v L) (hs : ∀ a ∈ L, a.text.size ≤ 140737488355328) :
    Calls Tryd.prog 7 #[stgV x, v] w fun e w' => e = .returned (.bool true) ∧ Below w.heap.size w w' := by
  cases hl : longA x L with
  | true => exact sides_long x v L w ht sx hv hs hl
  | false =>
    obtain ⟨xd, xn, gx, xw, xc, cx⟩ := x
    obtain ⟨cx, rfl, hx⟩ := u64_nat ox.c
    cases xd with
    | true =>
      cases hd : dialB xn gx xw with
      | false => exact sides_nodial xn xw xc gx cx v L w ht sx hv hs hl hd
      | true =>
        obtain ⟨gx, rfl, _⟩ := dialB_nat hd
        exact sides_dial xn xw xc gx cx v L w ht sx hv hs hl hx hd
    | false =>
      cases hd : (nameF xn && genI gx) with
      | false => exact sides_nolisten xn xw xc gx cx v L w ht sx hv hs hl hd
      | true =>
        obtain ⟨gx, rfl, _⟩ := genI_nat (by rw [Bool.and_eq_true] at hd; exact hd.2)
        exact sides_listen xn xw xc gx cx v L w ht sx hv hs hl hx hd
end Go.Proofs.YtnkkbkceapcahaaDoor
