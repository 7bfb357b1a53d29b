/- PeersX: a part of the proof. No condition beyond the premises of each theorem. -/
import Derived.Test.YtoaimoemaoinhaaGreatDoorQd35
import Derived.Test.YtoaimoemaoinhaaGreatDoorQd32
namespace Go.Proofs.YtoaimoemaoinhaaGreatDoor
open Go.RowKit Go.Rt Go.Rw Go.Mp
set_option maxRecDepth 100000 in
set_option maxHeartbeats 8000000 in
theorem events_none (g : Nat) (i : Int) (w : World) : Calls Tryz.prog 14 #[ptrV g, .int .i64 i, .slice none 0 0] w fun e w' => e = .returned (.tuple #[]) ∧ w' = w := by
 unfold ptrV
 go_enter Tryz.func14, Tryz.ntmps14
 go_wp2_with fail
 go_loopw [6] (fun i wr => i = .int .i64 0 ∧ wr = w) (fun i _ => (intOf i).toNat)
 case atStart => exact ⟨rfl, rfl⟩
 case round =>
  obtain ⟨rfl, rfl⟩ := hrel
  go_wp2_with fail
  go_end0
  exact ⟨rfl, rfl⟩
theorem info97 : (Tryz.prog.info? 97).map (·.size) = some 43 := by kernel_rfl
theorem ft_one {S : Nat → Prop} {w : World} {s : Tm} {x : Ft} (h : TmAt S w s x) : x.v.oneCell' = true := by
 obtain ⟨-, Fs, h1, -, -⟩ := h.its
 obtain ⟨-, sa, cap, e⟩ := h1.len
 rw [e]
 rfl
theorem ev_one {S : Nat → Prop} {w : World} {e : Ev} {x : Sf} (h : SgAt S w e.s x) : (evL e x).toArray.all (·.oneCell') = true := by
 have a := ft_one h.fr
 have b := ft_one h.tt
 have c := ft_one h.ref
 have d := ft_one h.val
 simp only [evL, sgC, ftC, List.cons_append, List.nil_append, List.all_toArray, List.all_cons, List.all_nil, a, b, c, d]
 rfl
theorem ev_size (e : Ev) (x : Sf) : (evL e x).toArray.size = 43 := rfl
set_option maxRecDepth 100000 in
set_option maxHeartbeats 8000000 in
theorem events_upa {w : World} {g b : Nat} {pa pb : Nat} {va vb : Value} {ub : Bool} {n : Nu} {C : Array Value} (hP : Blk w g 33 (prC pa pb va vb false ub n)) (hE : Blk w b 97 C) (hs : C.size = 43) (h1 : C.all (·.oneCell') = true)
  (e0 : C[0]? = some (.int .i64 1)) (e1 : C[1]? = some (.string exB)) (e2 : C[2]? = some (.int .i64 1)) (hep : 0 ≤ n.ea ∧ n.ea ≤ 1000000) :
  Calls Tryz.prog 14 #[ptrV g, .int .i64 0, .slice (some ⟨b, 0, none⟩) 1 1] w fun e w' => e = .returned (.tuple #[]) ∧ Blk w' g 33 (prC pa pb va vb true ub { n with ea := n.ea + 1, sa := 0, fa := 0, ga := 0 }) ∧ Only [g] w w' := by
 have HP := Lib.hid hP
 have HE := Lib.hid hE
 have HEP := Lib.hid hep
 have HE0 := Lib.hid e0
 have HE1 := Lib.hid e1
 have HE2 := Lib.hid e2
 have hi : (Tryz.prog.info? 97).map (·.size) = some C.size := by rw [hs]; exact info97
 have HI := Lib.hid hi
 have HS := Lib.hid hs
 have H1 := Lib.hid h1
 have hix0 := name_at false
 have hix1 := name_at true
 simp only [if_true, if_false, Bool.false_eq_true] at hix0 hix1
 have w1 : IntKind.i64.wrap 1 = 1 := by kernel_rfl
 have w0 : IntKind.i64.wrap 0 = 0 := by kernel_rfl
 clear hP hE hep e0 e1 e2 hi hs h1
 unfold ptrV
 go_enter Tryz.func14, Tryz.ntmps14
 go_wp2_with fail
 go_loopw [6] (fun i wr => (i = .int .i64 0 ∧ wr = w) ∨ (i = .int .i64 1 ∧ Hid (Blk wr g 33 (prC pa pb va vb true ub { n with ea := n.ea + 1, sa := 0, fa := 0, ga := 0 }) ∧ Only [g] w wr))) (fun i _ => 1 - (intOf i).toNat)
 case atStart => exact .inl ⟨rfl, rfl⟩
 case round =>
  rcases hrel with ⟨rfl, rfl⟩ | ⟨rfl, HD⟩
  ·
   go_upto_region 4 with
    (first
     | (refine wpList_load_blk rfl 97 _ rfl b rfl C 97 _ HE.out Tryz.underlying97 rfl HI.out ?_)
     | (refine wpList_store_blk rfl 97 _ _ rfl rfl _ C _ 97 rfl rfl (Blk.new _ _ _) (HS.out.trans rfl) HI.out H1.out ?_))
   intro w2 hb2 ho2
   obtain ⟨x0, hx0⟩ : ∃ q, q = wr.heap.size := ⟨_, rfl⟩
   rw [← hx0] at hb2 ho2 ⊢
   have ne : g ≠ x0 := by have := HP.out.lt; omega
   have P2 := (HP.out.alloc (.cells _ 97)).only ho2 (by simp [ne])
   have O2 := Lib.hid (only_more (Only.alloc [g] wr (.cells _ 97)) ho2 (by simp [hx0]))
   have HX := Lib.hid hb2
   have HNE := Lib.hid ne
   have C0 : w2.cell? ⟨x0, 0, none⟩ = some (.int .i64 1) := by rw [hb2.cell]; exact HE0.out
   have C2 : w2.cell? ⟨x0, 2, none⟩ = some (.int .i64 1) := by rw [hb2.cell]; exact HE2.out
   have g16 : w2.cell? ⟨g, 16, none⟩ = some (.bool true) := P2.cell 16
   have g4 : w2.cell? ⟨g, 4, none⟩ = some (.bool false) := P2.cell 4
   have f16 := P2.frozen 16
   have f4 := P2.frozen 4
   have HP3 : Hid (Blk ((w2.setCell ⟨g, 16, none⟩ (.bool true)).setCell ⟨g, 4, none⟩ (.bool true)) g 33 (prC pa pb va vb true ub n)) := Lib.hid ((P2.set_ 16 (.bool true)).set_ 4 (.bool true))
   have O3 := Lib.hid ((O2.out.trans (Only.setCell w2 ⟨g, 16, none⟩ (.bool true) (by simp))).trans (Only.setCell _ ⟨g, 4, none⟩ (.bool true) (by simp)))
   have X3 := Lib.hid (((HX.out.far (p := ⟨g, 16, none⟩) (Ne.symm ne) (.bool true))).far (p := ⟨g, 4, none⟩) (Ne.symm ne) (.bool true))
   clear hb2 ho2 hx0 ne P2 O2 HX HP HE
   go_upto_region 8 with fail
   clear C0 C2 g16 g4 f16 f4
   generalize (w2.setCell ⟨g, 16, none⟩ (.bool true)).setCell ⟨g, 4, none⟩ (.bool true) = w3 at *
   have g6 : w3.cell? ⟨g, 6, none⟩ = some (.int .i64 n.ea) := HP3.out.cell 6
   have f6 := HP3.out.frozen 6
   have hw6 : IntKind.i64.wrap (n.ea + 1) = n.ea + 1 := by have := HEP.out; rw [IntKind.wrap_i64] <;> omega
   have HP4 : Hid (Blk (w3.setCell ⟨g, 6, none⟩ (.int .i64 (n.ea + 1))).drew g 33 (prC pa pb va vb true ub { n with ea := n.ea + 1 })) := Lib.hid (HP3.out.drew.set_ 6 (.int .i64 (n.ea + 1)))
   have O4 : Hid (Only [g] wr (w3.setCell ⟨g, 6, none⟩ (.int .i64 (n.ea + 1))).drew) := Lib.hid ((O3.out.trans (Only.drew _ w3)).trans (Only.setCell w3.drew ⟨g, 6, none⟩ (.int .i64 (n.ea + 1)) (by simp)))
   have X4 : Hid (Blk (w3.setCell ⟨g, 6, none⟩ (.int .i64 (n.ea + 1))).drew x0 97 C) := Lib.hid (X3.out.drew.far (p := ⟨g, 6, none⟩) (Ne.symm HNE.out) (.int .i64 (n.ea + 1)))
   clear HP3 O3 X3
   go_still_tail 10, (by kernel_rfl)
   change wpList _ _ _ _ _ w3.drew
   go_upto_region 9 with fail
   clear g6 f6 hw6
   generalize (w3.setCell ⟨g, 6, none⟩ (.int .i64 (n.ea + 1))).drew = w4 at *
   have g8 : w4.cell? ⟨g, 8, none⟩ = some (.int .i64 n.sa) := HP4.out.cell 8
   have g10 : w4.cell? ⟨g, 10, none⟩ = some (.int .i64 n.fa) := HP4.out.cell 10
   have g12 : w4.cell? ⟨g, 12, none⟩ = some (.int .i64 n.ga) := HP4.out.cell 12
   have f8 := HP4.out.frozen 8
   have f10 := HP4.out.frozen 10
   have f12 := HP4.out.frozen 12
   go_region_held3 (fun _ => True) (trivial) (fail)
   have HP5 : Hid (Blk ((((w4.setCell ⟨g, 8, none⟩ (.int .i64 0)).setCell ⟨g, 12, none⟩ (.int .i64 0)).setCell ⟨g, 10, none⟩ (.int .i64 0)).drew) g 33 (prC pa pb va vb true ub { n with ea := n.ea + 1, sa := 0, fa := 0, ga := 0 })) := Lib.hid (((HP4.out.set_ 8 (.int .i64 0)).set_ 12 (.int .i64 0)).set_ 10 (.int .i64 0))
   have O5 : Hid (Only [g] wr ((((w4.setCell ⟨g, 8, none⟩ (.int .i64 0)).setCell ⟨g, 12, none⟩ (.int .i64 0)).setCell ⟨g, 10, none⟩ (.int .i64 0)).drew)) := Lib.hid ((((O4.out.trans (Only.setCell (bs := [g]) _ ⟨g, 8, none⟩ (.int .i64 0) (by simp))).trans (Only.setCell (bs := [g]) _ ⟨g, 12, none⟩ (.int .i64 0) (by simp))).trans (Only.setCell (bs := [g]) _ ⟨g, 10, none⟩ (.int .i64 0) (by simp))).trans (Only.drew _ _))
   have X5 : Hid (Blk ((((w4.setCell ⟨g, 8, none⟩ (.int .i64 0)).setCell ⟨g, 12, none⟩ (.int .i64 0)).setCell ⟨g, 10, none⟩ (.int .i64 0)).drew) x0 97 C) := Lib.hid (((X4.out.far (p := ⟨g, 8, none⟩) (Ne.symm HNE.out) (.int .i64 0)).far (p := ⟨g, 12, none⟩) (Ne.symm HNE.out) (.int .i64 0)).far (p := ⟨g, 10, none⟩) (Ne.symm HNE.out) (.int .i64 0))
   clear g8 g10 g12 f8 f10 f12 HP4 O4 X4
   generalize (((w4.setCell ⟨g, 8, none⟩ (.int .i64 0)).setCell ⟨g, 12, none⟩ (.int .i64 0)).setCell ⟨g, 10, none⟩ (.int .i64 0)).drew = w5 at *
   have c16 : w5.cell? ⟨g, 16, none⟩ = some (.bool true) := HP5.out.cell 16
   have c1 : w5.cell? ⟨x0, 1, none⟩ = some (.string exB) := by rw [X5.out.cell]; exact HE1.out
   have hq : (exB.toList == exB.toList) = true := by simp
   go_upto_region 20 with fail
   go_region_held3 (fun w' => w'.cell? ⟨g, 16, none⟩ = some (.bool true) ∧ w'.cell? ⟨x0, 1, none⟩ = some (.string exB)) (first | exact ⟨c16, c1⟩ | exact ⟨m16, m1⟩ | exact ⟨k16, k1⟩)
    ((first
     | (go_at_call 11; refine (names_any _).mono ?_; rintro e w6 ⟨rfl, b6⟩; have HP6 := Lib.hid (HP5.out.drew.below b6 HP5.out.lt); have X6 := Lib.hid (X5.out.drew.below b6 X5.out.lt); have O6 := Lib.hid ((O5.out.trans (Only.drew _ w5)).trans (Only.of_below b6)); have m16 : w6.cell? ⟨g, 16, none⟩ = some (.bool true) := HP6.out.cell 16; have m1 : w6.cell? ⟨x0, 1, none⟩ = some (.string exB) := X6.out.cell 1 |>.trans HE1.out; have f16 := HP6.out.frozen 16; have HP7 : Hid (Blk (w6.setCell ⟨g, 16, none⟩ (.bool true)) g 33 (prC pa pb va vb true ub { n with ea := n.ea + 1, sa := 0, fa := 0, ga := 0 })) := Lib.hid (HP6.out.set_ 16 (.bool true)); have X7 := Lib.hid (X6.out.far (p := ⟨g, 16, none⟩) (Ne.symm HNE.out) (.bool true)); have k16 : (w6.setCell ⟨g, 16, none⟩ (.bool true)).cell? ⟨g, 16, none⟩ = some (.bool true) := HP7.out.cell 16; have k1 : (w6.setCell ⟨g, 16, none⟩ (.bool true)).cell? ⟨x0, 1, none⟩ = some (.string exB) := X7.out.cell 1 |>.trans HE1.out; clear b6)))
   have HD : Hid (Blk (w6.setCell ⟨g, 16, none⟩ (.bool true)) g 33 (prC pa pb va vb true ub { n with ea := n.ea + 1, sa := 0, fa := 0, ga := 0 }) ∧ Only [g] wr (w6.setCell ⟨g, 16, none⟩ (.bool true))) := Lib.hid ⟨HP7.out, O6.out.trans (Only.setCell w6 ⟨g, 16, none⟩ (.bool true) (by simp))⟩
   clear HP7 X7 HP6 X6 O6 m16 m1 f16 k16 k1 c16 c1 HP5 X5 O5
   go_wp2_with fail
   go_roundw
   case rel => exact .inr ⟨rfl, HD⟩
   case measure => simp [intOf]
  ·
   go_wp2_with fail
   go_end0
   exact ⟨rfl, HD.out⟩
set_option maxRecDepth 100000 in
set_option maxHeartbeats 8000000 in
theorem events_upb {w : World} {g b : Nat} {pa pb : Nat} {va vb : Value} {ua : Bool} {n : Nu} {C : Array Value} (hP : Blk w g 33 (prC pa pb va vb ua false n)) (hE : Blk w b 97 C) (hs : C.size = 43) (h1 : C.all (·.oneCell') = true)
  (e0 : C[0]? = some (.int .i64 1)) (e1 : C[1]? = some (.string exA)) (e2 : C[2]? = some (.int .i64 1)) (hep : 0 ≤ n.eb ∧ n.eb ≤ 1000000) :
  Calls Tryz.prog 14 #[ptrV g, .int .i64 1, .slice (some ⟨b, 0, none⟩) 1 1] w fun e w' => e = .returned (.tuple #[]) ∧ Blk w' g 33 (prC pa pb va vb ua true { n with eb := n.eb + 1, sb := 0, fb := 0, gb := 0 }) ∧ Only [g] w w' := by
 have HP := Lib.hid hP
 have HE := Lib.hid hE
 have HEP := Lib.hid hep
 have HE0 := Lib.hid e0
 have HE1 := Lib.hid e1
 have HE2 := Lib.hid e2
 have hi : (Tryz.prog.info? 97).map (·.size) = some C.size := by rw [hs]; exact info97
 have HI := Lib.hid hi
 have HS := Lib.hid hs
 have H1 := Lib.hid h1
 have hix0 := name_at false
 have hix1 := name_at true
 simp only [if_true, if_false, Bool.false_eq_true] at hix0 hix1
 have w1 : IntKind.i64.wrap 1 = 1 := by kernel_rfl
 have w0 : IntKind.i64.wrap 0 = 0 := by kernel_rfl
 clear hP hE hep e0 e1 e2 hi hs h1
 unfold ptrV
 go_enter Tryz.func14, Tryz.ntmps14
 go_wp2_with fail
 go_loopw [6] (fun i wr => (i = .int .i64 0 ∧ wr = w) ∨ (i = .int .i64 1 ∧ Hid (Blk wr g 33 (prC pa pb va vb ua true { n with eb := n.eb + 1, sb := 0, fb := 0, gb := 0 }) ∧ Only [g] w wr))) (fun i _ => 1 - (intOf i).toNat)
 case atStart => exact .inl ⟨rfl, rfl⟩
 case round =>
  rcases hrel with ⟨rfl, rfl⟩ | ⟨rfl, HD⟩
  ·
   go_upto_region 4 with
    (first
     | (refine wpList_load_blk rfl 97 _ rfl b rfl C 97 _ HE.out Tryz.underlying97 rfl HI.out ?_)
     | (refine wpList_store_blk rfl 97 _ _ rfl rfl _ C _ 97 rfl rfl (Blk.new _ _ _) (HS.out.trans rfl) HI.out H1.out ?_))
   intro w2 hb2 ho2
   obtain ⟨x0, hx0⟩ : ∃ q, q = wr.heap.size := ⟨_, rfl⟩
   rw [← hx0] at hb2 ho2 ⊢
   have ne : g ≠ x0 := by have := HP.out.lt; omega
   have P2 := (HP.out.alloc (.cells _ 97)).only ho2 (by simp [ne])
   have O2 := Lib.hid (only_more (Only.alloc [g] wr (.cells _ 97)) ho2 (by simp [hx0]))
   have HX := Lib.hid hb2
   have HNE := Lib.hid ne
   have C0 : w2.cell? ⟨x0, 0, none⟩ = some (.int .i64 1) := by rw [hb2.cell]; exact HE0.out
   have C2 : w2.cell? ⟨x0, 2, none⟩ = some (.int .i64 1) := by rw [hb2.cell]; exact HE2.out
   have g16 : w2.cell? ⟨g, 16, none⟩ = some (.bool true) := P2.cell 16
   have g4 : w2.cell? ⟨g, 5, none⟩ = some (.bool false) := P2.cell 5
   have f16 := P2.frozen 16
   have f4 := P2.frozen 5
   have HP3 : Hid (Blk ((w2.setCell ⟨g, 16, none⟩ (.bool true)).setCell ⟨g, 5, none⟩ (.bool true)) g 33 (prC pa pb va vb ua true n)) := Lib.hid ((P2.set_ 16 (.bool true)).set_ 5 (.bool true))
   have O3 := Lib.hid ((O2.out.trans (Only.setCell w2 ⟨g, 16, none⟩ (.bool true) (by simp))).trans (Only.setCell _ ⟨g, 5, none⟩ (.bool true) (by simp)))
   have X3 := Lib.hid (((HX.out.far (p := ⟨g, 16, none⟩) (Ne.symm ne) (.bool true))).far (p := ⟨g, 5, none⟩) (Ne.symm ne) (.bool true))
   clear hb2 ho2 hx0 ne P2 O2 HX HP HE
   go_upto_region 8 with fail
   clear C0 C2 g16 g4 f16 f4
   generalize (w2.setCell ⟨g, 16, none⟩ (.bool true)).setCell ⟨g, 5, none⟩ (.bool true) = w3 at *
   have g6 : w3.cell? ⟨g, 7, none⟩ = some (.int .i64 n.eb) := HP3.out.cell 7
   have f6 := HP3.out.frozen 7
   have hw6 : IntKind.i64.wrap (n.eb + 1) = n.eb + 1 := by have := HEP.out; rw [IntKind.wrap_i64] <;> omega
   have HP4 : Hid (Blk (w3.setCell ⟨g, 7, none⟩ (.int .i64 (n.eb + 1))).drew g 33 (prC pa pb va vb ua true { n with eb := n.eb + 1 })) := Lib.hid (HP3.out.drew.set_ 7 (.int .i64 (n.eb + 1)))
   have O4 : Hid (Only [g] wr (w3.setCell ⟨g, 7, none⟩ (.int .i64 (n.eb + 1))).drew) := Lib.hid ((O3.out.trans (Only.drew _ w3)).trans (Only.setCell w3.drew ⟨g, 7, none⟩ (.int .i64 (n.eb + 1)) (by simp)))
   have X4 : Hid (Blk (w3.setCell ⟨g, 7, none⟩ (.int .i64 (n.eb + 1))).drew x0 97 C) := Lib.hid (X3.out.drew.far (p := ⟨g, 7, none⟩) (Ne.symm HNE.out) (.int .i64 (n.eb + 1)))
   clear HP3 O3 X3
   go_still_tail 10, (by kernel_rfl)
   change wpList _ _ _ _ _ w3.drew
   go_upto_region 9 with fail
   clear g6 f6 hw6
   generalize (w3.setCell ⟨g, 7, none⟩ (.int .i64 (n.eb + 1))).drew = w4 at *
   have g8 : w4.cell? ⟨g, 9, none⟩ = some (.int .i64 n.sb) := HP4.out.cell 9
   have g10 : w4.cell? ⟨g, 11, none⟩ = some (.int .i64 n.fb) := HP4.out.cell 11
   have g12 : w4.cell? ⟨g, 13, none⟩ = some (.int .i64 n.gb) := HP4.out.cell 13
   have f8 := HP4.out.frozen 9
   have f10 := HP4.out.frozen 11
   have f12 := HP4.out.frozen 13
   go_region_held3 (fun _ => True) (trivial) (fail)
   have HP5 : Hid (Blk ((((w4.setCell ⟨g, 9, none⟩ (.int .i64 0)).setCell ⟨g, 13, none⟩ (.int .i64 0)).setCell ⟨g, 11, none⟩ (.int .i64 0)).drew) g 33 (prC pa pb va vb ua true { n with eb := n.eb + 1, sb := 0, fb := 0, gb := 0 })) := Lib.hid (((HP4.out.set_ 9 (.int .i64 0)).set_ 13 (.int .i64 0)).set_ 11 (.int .i64 0))
   have O5 : Hid (Only [g] wr ((((w4.setCell ⟨g, 9, none⟩ (.int .i64 0)).setCell ⟨g, 13, none⟩ (.int .i64 0)).setCell ⟨g, 11, none⟩ (.int .i64 0)).drew)) := Lib.hid ((((O4.out.trans (Only.setCell (bs := [g]) _ ⟨g, 9, none⟩ (.int .i64 0) (by simp))).trans (Only.setCell (bs := [g]) _ ⟨g, 13, none⟩ (.int .i64 0) (by simp))).trans (Only.setCell (bs := [g]) _ ⟨g, 11, none⟩ (.int .i64 0) (by simp))).trans (Only.drew _ _))
   have X5 : Hid (Blk ((((w4.setCell ⟨g, 9, none⟩ (.int .i64 0)).setCell ⟨g, 13, none⟩ (.int .i64 0)).setCell ⟨g, 11, none⟩ (.int .i64 0)).drew) x0 97 C) := Lib.hid (((X4.out.far (p := ⟨g, 9, none⟩) (Ne.symm HNE.out) (.int .i64 0)).far (p := ⟨g, 13, none⟩) (Ne.symm HNE.out) (.int .i64 0)).far (p := ⟨g, 11, none⟩) (Ne.symm HNE.out) (.int .i64 0))
   clear g8 g10 g12 f8 f10 f12 HP4 O4 X4
   generalize (((w4.setCell ⟨g, 9, none⟩ (.int .i64 0)).setCell ⟨g, 13, none⟩ (.int .i64 0)).setCell ⟨g, 11, none⟩ (.int .i64 0)).drew = w5 at *
   have c16 : w5.cell? ⟨g, 16, none⟩ = some (.bool true) := HP5.out.cell 16
   have c1 : w5.cell? ⟨x0, 1, none⟩ = some (.string exA) := by rw [X5.out.cell]; exact HE1.out
   have hq : (exA.toList == exA.toList) = true := by simp
   go_upto_region 20 with fail
   go_region_held3 (fun w' => w'.cell? ⟨g, 16, none⟩ = some (.bool true) ∧ w'.cell? ⟨x0, 1, none⟩ = some (.string exA)) (first | exact ⟨c16, c1⟩ | exact ⟨m16, m1⟩ | exact ⟨k16, k1⟩)
    ((first
     | (go_at_call 11; refine (names_any _).mono ?_; rintro e w6 ⟨rfl, b6⟩; have HP6 := Lib.hid (HP5.out.drew.below b6 HP5.out.lt); have X6 := Lib.hid (X5.out.drew.below b6 X5.out.lt); have O6 := Lib.hid ((O5.out.trans (Only.drew _ w5)).trans (Only.of_below b6)); have m16 : w6.cell? ⟨g, 16, none⟩ = some (.bool true) := HP6.out.cell 16; have m1 : w6.cell? ⟨x0, 1, none⟩ = some (.string exA) := X6.out.cell 1 |>.trans HE1.out; have f16 := HP6.out.frozen 16; have HP7 : Hid (Blk (w6.setCell ⟨g, 16, none⟩ (.bool true)) g 33 (prC pa pb va vb ua true { n with eb := n.eb + 1, sb := 0, fb := 0, gb := 0 })) := Lib.hid (HP6.out.set_ 16 (.bool true)); have X7 := Lib.hid (X6.out.far (p := ⟨g, 16, none⟩) (Ne.symm HNE.out) (.bool true)); have k16 : (w6.setCell ⟨g, 16, none⟩ (.bool true)).cell? ⟨g, 16, none⟩ = some (.bool true) := HP7.out.cell 16; have k1 : (w6.setCell ⟨g, 16, none⟩ (.bool true)).cell? ⟨x0, 1, none⟩ = some (.string exA) := X7.out.cell 1 |>.trans HE1.out; clear b6)))
   have HD : Hid (Blk (w6.setCell ⟨g, 16, none⟩ (.bool true)) g 33 (prC pa pb va vb ua true { n with eb := n.eb + 1, sb := 0, fb := 0, gb := 0 }) ∧ Only [g] wr (w6.setCell ⟨g, 16, none⟩ (.bool true))) := Lib.hid ⟨HP7.out, O6.out.trans (Only.setCell w6 ⟨g, 16, none⟩ (.bool true) (by simp))⟩
   clear HP7 X7 HP6 X6 O6 m16 m1 f16 k16 k1 c16 c1 HP5 X5 O5
   go_wp2_with fail
   go_roundw
   case rel => exact .inr ⟨rfl, HD⟩
   case measure => simp [intOf]
  ·
   go_wp2_with fail
   go_end0
   exact ⟨rfl, HD.out⟩
set_option maxRecDepth 100000 in
set_option maxHeartbeats 8000000 in
theorem packet_any {w : World} {base : Nat} {n : Nd} {a : Nm} (h : NdAt w base n a) (hk : NdOk n) (k data : ByteArray) (hd : data.size ≤ 100000) (hl : ((get n.O k).getD []).length ≤ 99999999) (hT : Sk.Tabs w) (hb2 : 2 ≤ base)
  (hs : ∀ x, get n.C k = some x → x.gen = 0 → Sk.SdOk x.side ∧ x.side.state = 1) (G : GF)
  (hG : ∀ (x : Cx) (m : Cm) (px : Px) (w1 : World) (a1 : Nm), NdAt w1 base n a1 → get a1.C k = some (x, m) → readF data = some px → px.kind = 70 → matchB x px = true → Sk.Tabs w1 → Calls Tryz.prog 42 #[ptrV a1.g, ptrV m.c, .string px.cont] w1 (Done w1 base a1 (G n k x px.cont).1 (G n k x px.cont).2)) :
  Calls Tryz.prog 19 #[ptrV a.g, .string k, .string data] w (DonePk w base a (pktN G n k data).1 (pktN G n k data).2) := by
 obtain ⟨RN, RC, hR⟩ : ∃ RN RC, pktN G n k data = (RN, RC) := ⟨_, _, rfl⟩
 have HR := Lib.hid hR
 have HB2 := Lib.hid hb2
 have HS := Lib.hid hs
 have HG := Lib.hid hG
 have HL := Lib.hid hl
 have HD := Lib.hid hd
 have TT := Lib.hid hT
 have H := Lib.hid h
 have HK := Lib.hid hk
 have HGC := Lib.hid (h.getC k)
 rw [hR]
 have c0 : w.cell? ⟨a.g, 0, none⟩ = some (.string n.nm) := h.pm.blk.cell 0
 have c5 : w.cell? ⟨a.g, 5, none⟩ = some (.map (some a.mc)) := h.pm.blk.cell 5
 have CN := Lib.hid (none_no a.g a.mc w c5)
 have CO := Lib.hid (other_any a.g n.nm k w c0)
 have CR := Lib.hid (fun W => readp_any data (by omega) W)
 unfold ptrV at *
 clear hR hb2 hs hG hl hd hT h hk
 obtain ⟨ot, hot⟩ : ∃ b, b = otherB n k := ⟨_, rfl⟩
 have hot2 : (nameF k && !(k.toList == n.nm.toList)) = ot := hot.symm
 rw [hot2] at CO
 have HOT := Lib.hid hot.symm
 clear hot hot2
 have HR2 := HR.out
 unfold pktN at HR2
 rw [HOT.out] at HR2
 have FO1 : Hid (ot = false → RN = (n, []) ∧ RC = 2) := Lib.hid (fun q => by rw [if_pos q] at HR2; exact ⟨(Prod.mk.inj HR2).1.symm, (Prod.mk.inj HR2).2.symm⟩)
 have FO2 : Hid (ot = true → RN = pktE G n k (readF data) ∧ RC = 0) := Lib.hid (fun q => by rw [if_neg (by rw [q]; decide)] at HR2; exact ⟨(Prod.mk.inj HR2).1.symm, (Prod.mk.inj HR2).2.symm⟩)
 clear HR2 HR HOT
 go_enter Tryz.func19, Tryz.ntmps19
 go_wp2_with fail
 refine CN.out.mono ?_
 rintro e w0 ⟨rfl, rfl⟩
 clear CN
 cases ot with
 | false =>
  obtain ⟨rfl, rfl⟩ := FO1.out rfl
  clear FO1 FO2
  go_wp2_with fail
  refine CO.out.mono ?_
  rintro e w1 ⟨rfl, b1⟩
  have D : Hid (DonePk w0 base a (n, []) 2 (.returned (.tuple #[.slice none 0 0, .int .i64 2])) w1) := Lib.hid ⟨_, a, rfl, rfl, H.out.below b1, Trail.below a b1⟩
  go_wp2_with fail
  go_ret2
  exact D.out
 | true =>
  obtain ⟨rfl, rfl⟩ := FO2.out rfl
  clear FO1 FO2
  go_wp2_with fail
  refine CO.out.mono ?_
  rintro e w1 ⟨rfl, b1⟩
  have H1 := Lib.hid (H.out.below b1)
  have T1 := Lib.hid (Trail.below a b1)
  have TT1 := Lib.hid (TT.out.below b1 TT.out.two)
  clear b1 CO c0 c5 H TT
  have d5 : w1.cell? ⟨a.g, 5, none⟩ = some (.map (some a.mc)) := H1.out.pm.blk.cell 5
  obtain ⟨cv, hcv⟩ : ∃ v, v = conV (a.C.map fun p => (p.1, p.2.2.c)) k := ⟨_, rfl⟩
  have lk := look_con H1.out.pm.cm k
  rw [← hcv] at lk
  have HCV := Lib.hid hcv
  clear hcv
  go_wp2_with fail
  refine (CR.out _).mono ?_
  rintro e w2 ⟨px, ok, rfl, hrx, b2⟩
  have HRX := Lib.hid hrx
  have H2 := Lib.hid (H1.out.below b2)
  have T2 := Lib.hid (T1.out.trans (Trail.below a b2))
  have TT2 := Lib.hid (TT1.out.below b2 TT1.out.two)
  clear b2 CR H1 T1 TT1 hrx lk d5
  unfold pxC
  go_upto_region 7 with fail
  have AL := (Below.refl w2.heap.size w2).alloc (Nat.le_refl _) (.cells (pxC px) 104)
  have X := Lib.hid (Blk.new w2 104 (pxC px))
  have H3 := Lib.hid (H2.out.below AL)
  have T3 := Lib.hid (T2.out.trans (Trail.below a AL))
  have TT3 := Lib.hid (TT2.out.below AL TT2.out.two)
  obtain ⟨bx, hbx⟩ : ∃ q, q = w2.heap.size := ⟨_, rfl⟩
  have HBX : Hid (bx ∉ foot a) := Lib.hid (fun q => by have := (H2.out.low _ q).2; omega)
  rw [← hbx] at X ⊢
  clear AL H2 T2 TT2
  unfold pxC at *
  generalize w2.alloc (.cells _ 104) = w3 at *
  clear hbx
  have hgm : get (a.C.map fun p => (p.1, p.2.2.c)) k = (get a.C k).map fun q => q.2.c := get_map (fun q : Cx × Cm => q.2.c) k a.C
  have hcv2 := HCV.out
  unfold conV at hcv2
  rw [hgm] at hcv2
  clear hgm HCV
  have hca : conA a k = cv := by
   unfold conA
   rw [hcv2]
   cases get a.C k <;> rfl
  have CH : Hid (px.cont.size ≤ 100000 → ∀ W, Below w3.heap.size w3 W → Calls Tryz.prog 44 #[.pointer (some ⟨a.g, 0, none⟩), .string k, cv, .agg #[.bool px.dials, .int .u64 (px.num : Int), .int .u8 (px.kind : Int), .string px.cont]] W (Done W base a (helloN n k px.num px.cont).1 (helloN n k px.num px.cont).2)) := Lib.hid (fun hc W bW => by
   have := hello_any (H3.out.below bW) HK.out k px hc HL.out (TT3.out.below bW TT3.out.two) HB2.out
   rw [hca] at this
   exact this)
  clear hca
  rcases hq : get a.C k with _ | ⟨x, m⟩
  case' none =>
   rw [hq] at hcv2
   obtain rfl : cv = .pointer none := hcv2
   have hqn : get n.C k = none := by have := HGC.out; rw [hq] at this; exact this
  case' some =>
   rw [hq] at hcv2
   obtain rfl : cv = .pointer (some ⟨m.c, 0, none⟩) := hcv2
   have hqn : get n.C k = some x := by have := HGC.out; rw [hq] at this; exact this
   have hpn := ptr_eq0 ⟨m.c, 0, none⟩
  all_goals cases ok
  case none.false =>
   have HRN : Hid (pktE G n k (readF data) = (n, [])) := Lib.hid (by rw [show readF data = none from HRX.out]; unfold pktE; rw [hqn]; rfl)
   have D : Hid (DonePk w0 base a (pktE G n k (readF data)) 0 (.returned (.tuple #[.slice none 0 0, .int .i64 0])) w3) := Lib.hid (by rw [HRN.out]; exact ⟨_, a, rfl, rfl, H3.out, T3.out⟩)
   clear HRN hqn hq
   go_wp2_with fail
   go_ret2
   exact D.out
  case some.false =>
   have HRN : Hid (pktE G n k (readF data) = (closeN n k x, remE k x)) := Lib.hid (by rw [show readF data = none from HRX.out]; unfold pktE; rw [hqn]; rfl)
   have CC := Lib.hid (close_any H3.out k x m hq (by have := HL.out; omega))
   unfold ptrV at CC
   clear hqn hq
   go_wp2_with fail
   refine CC.out.mono ?_
   rintro e w4 ⟨v, a', rfl, h2, h3, h4⟩
   have D : Hid (DonePk w0 base a (pktE G n k (readF data)) 0 (.returned (.tuple #[v, .int .i64 0])) w4) := Lib.hid (by rw [HRN.out]; exact DonePk.of T3.out ⟨v, a', rfl, h2, h3, h4⟩)
   clear h2 h3 h4 CC
   go_wp2_with fail
   go_ret2
   exact D.out
  case' none.true =>
   have HRN : Hid (pktE G n k (readF data) = if helB px then helloN n k px.num px.cont else (n, [])) := Lib.hid (by rw [show readF data = some px from HRX.out]; unfold pktE; rw [hqn]; rfl)
   have HRF := Lib.hid (readF_some (show readF data = some px from HRX.out))
   clear hq hqn
   go_upto_region 11 with fail
   go_quiet (fail)
   have B4 : Hid (Below w3.heap.size w3 (w3.drewN nq)) := Lib.hid (below_drewN (Below.refl _ _) _)
   generalize w3.drewN nq = w4 at *
   have d0 : w4.cell? ⟨bx, 0, none⟩ = some (.bool px.dials) := (X.out.below B4.out X.out.lt).cell 0
   have d2 : w4.cell? ⟨bx, 2, none⟩ = some (.int .u8 (px.kind : Int)) := (X.out.below B4.out X.out.lt).cell 2
   go_upto_region 14 with fail
  case' some.true =>
   have HRF := Lib.hid (readF_some (show readF data = some px from HRX.out))
   have CLN := H3.out.conn hq
   have e1 : w3.cell? ⟨m.c, 1, none⟩ = some (.bool x.dials) := CLN.con.cell 1
   have e2 : w3.cell? ⟨m.c, 2, none⟩ = some (.int .u64 (x.num : Int)) := CLN.con.cell 2
   have f0 : w3.cell? ⟨bx, 0, none⟩ = some (.bool px.dials) := X.out.cell 0
   have f1 : w3.cell? ⟨bx, 1, none⟩ = some (.int .u64 (px.num : Int)) := X.out.cell 1
   have HRM : Hid (pktE G n k (readF data) = if matchB x px then handN G n k x px else if helB px then helloN n k px.num px.cont else (n, [])) := Lib.hid (by rw [show readF data = some px from HRX.out]; unfold pktE; rw [hqn]; rfl)
   have HSX := Lib.hid (HS.out x hqn)
   have HQ := Lib.hid hq
   clear CLN hq hqn
   go_upto_region 11 with fail
   by_cases hn : x.num = px.num
   case' neg =>
    have HRN : Hid (pktE G n k (readF data) = if helB px then helloN n k px.num px.cont else (n, [])) := Lib.hid (by rw [HRM.out, show matchB x px = false by unfold matchB; rw [beq_eq_false_iff_ne.2 hn]; rfl]; rfl)
    have hne : ((x.num : Int) == (px.num : Int)) = false := by rw [beq_eq_false_iff_ne]; omega
    clear HRM hn
    go_quiet (fail)
    have B4 : Hid (Below w3.heap.size w3 (w3.drewN nq)) := Lib.hid (below_drewN (Below.refl _ _) _)
    generalize w3.drewN nq = w4 at *
    clear e1 e2 f0 f1 hne
    have d0 : w4.cell? ⟨bx, 0, none⟩ = some (.bool px.dials) := (X.out.below B4.out X.out.lt).cell 0
    have d2 : w4.cell? ⟨bx, 2, none⟩ = some (.int .u8 (px.kind : Int)) := (X.out.below B4.out X.out.lt).cell 2
    go_upto_region 14 with fail
   case' pos =>
    have hne : ((x.num : Int) == (px.num : Int)) = true := by rw [beq_iff_eq]; omega
    obtain ⟨dx, hdx⟩ : ∃ b, b = x.dials := ⟨_, rfl⟩
    obtain ⟨dp, hdp⟩ : ∃ b, b = px.dials := ⟨_, rfl⟩
    rw [← hdx] at e1
    rw [← hdp] at f0
    have HMB : Hid (matchB x px = !(dx == dp)) := Lib.hid (by unfold matchB; rw [beq_iff_eq.2 hn, hdx, hdp]; rfl)
    have HNQ := Lib.hid hn
    clear hdx hdp hn
    cases dx <;> cases dp
   case' pos.false.false =>
    have HRN : Hid (pktE G n k (readF data) = if helB px then helloN n k px.num px.cont else (n, [])) := Lib.hid (by rw [HRM.out, HMB.out]; rfl)
   case' pos.true.true =>
    have HRN : Hid (pktE G n k (readF data) = if helB px then helloN n k px.num px.cont else (n, [])) := Lib.hid (by rw [HRM.out, HMB.out]; rfl)
   case' pos.true.false =>
    have HRN : Hid (pktE G n k (readF data) = handN G n k x px) := Lib.hid (by rw [HRM.out, HMB.out]; rfl)
    have HMT : Hid (matchB x px = true) := Lib.hid HMB.out
   case' pos.false.true =>
    have HRN : Hid (pktE G n k (readF data) = handN G n k x px) := Lib.hid (by rw [HRM.out, HMB.out]; rfl)
    have HMT : Hid (matchB x px = true) := Lib.hid HMB.out
   case' pos.true.false | pos.false.true =>
    clear HRM HMB
    go_quiet (fail)
    have B4 : Hid (Below w3.heap.size w3 (w3.drewN nq)) := Lib.hid (below_drewN (Below.refl _ _) _)
    generalize w3.drewN nq = w4 at *
    clear e1 e2 f0 f1 hne
    go_upto_region 12 with fail
   case' pos.true.true | pos.false.false =>
    clear HRM HMB
    go_quiet (fail)
    have B4 : Hid (Below w3.heap.size w3 (w3.drewN nq)) := Lib.hid (below_drewN (Below.refl _ _) _)
    generalize w3.drewN nq = w4 at *
    clear e1 e2 f0 f1 hne
    have d0 : w4.cell? ⟨bx, 0, none⟩ = some (.bool px.dials) := (X.out.below B4.out X.out.lt).cell 0
    have d2 : w4.cell? ⟨bx, 2, none⟩ = some (.int .u8 (px.kind : Int)) := (X.out.below B4.out X.out.lt).cell 2
    go_upto_region 14 with fail
  case' none.true | neg | pos.true.true | pos.false.false =>
   obtain ⟨dp, hdp⟩ : ∃ b, b = px.dials := ⟨_, rfl⟩
   rw [← hdp] at d0
   have HDP := Lib.hid hdp
   clear hdp
   cases dp
   ·
    have D : Hid (DonePk w0 base a (pktE G n k (readF data)) 0 (.returned (.tuple #[.slice none 0 0, .int .i64 0])) w4) := Lib.hid (by
     rw [HRN.out, show helB px = false by unfold helB; rw [← HDP.out]; rfl]
     exact ⟨_, a, rfl, rfl, H3.out.below B4.out, T3.out.trans (Trail.below a B4.out)⟩)
    go_wp2_with fail
    go_ret2
    exact D.out
   ·
    by_cases hkk : px.kind = 72
    ·
     have CC := Lib.hid (CH.out (Nat.le_trans HRF.out.1 HD.out) w4 B4.out)
     have X4 := Lib.hid (X.out.below B4.out X.out.lt)
     have HHB : Hid (pktE G n k (readF data) = helloN n k px.num px.cont) := Lib.hid (by rw [HRN.out, show helB px = true by unfold helB; rw [← HDP.out, hkk]; rfl]; rfl)
     have hki : ((px.kind : Int) == 72) = true := by rw [beq_iff_eq]; omega
     clear hkk CH HRN
     go_wp2_with (refine wpList_load_blk rfl 104 _ rfl bx rfl _ 104 _ X4.out Tryz.underlying104 rfl info104 ?_)
     refine CC.out.mono ?_
     rintro e w5 ⟨v, a', rfl, h2, h3, h4⟩
     have D : Hid (DonePk w0 base a (pktE G n k (readF data)) 0 (.returned (.tuple #[v, .int .i64 0])) w5) := Lib.hid (by
      rw [HHB.out]
      exact DonePk.of (T3.out.trans (Trail.below a B4.out)) ⟨v, a', rfl, h2, h3, h4⟩)
     clear h2 h3 h4 CC
     go_wp2_with fail
     go_ret2
     exact D.out
    ·
     have D : Hid (DonePk w0 base a (pktE G n k (readF data)) 0 (.returned (.tuple #[.slice none 0 0, .int .i64 0])) w4) := Lib.hid (by
      rw [HRN.out, show helB px = false by unfold helB; rw [beq_eq_false_iff_ne.2 hkk, Bool.and_false]]
      exact ⟨_, a, rfl, rfl, H3.out.below B4.out, T3.out.trans (Trail.below a B4.out)⟩)
     have hki : ((px.kind : Int) == 72) = false := by rw [beq_eq_false_iff_ne]; omega
     clear hkk
     go_wp2_with fail
     go_ret2
     exact D.out
  all_goals
   obtain ⟨o1, o2, o3, h1, h2, h3, b5, hl5⟩ := hands_map a.g w4
   unfold fnV ptrV at h1 h2 h3 hl5
   have B5 := Lib.hid b5
   have g2 := ((X.out.below B4.out X.out.lt).below b5 (Nat.lt_of_lt_of_le X.out.lt B4.out.size)).cell 2
   replace g2 : ((((w4.alloc (.map #[] 0)).putObj w4.heap.size o1).putObj w4.heap.size o2).putObj w4.heap.size o3).cell? ⟨bx, 2, none⟩ = some (.int .u8 (px.kind : Int)) := g2
   have X5 := Lib.hid ((X.out.below B4.out X.out.lt).below b5 (Nat.lt_of_lt_of_le X.out.lt B4.out.size))
   have H5 := Lib.hid ((H3.out.below B4.out).below b5)
   have T5 := Lib.hid ((T3.out.trans (Trail.below a B4.out)).trans (Trail.below a b5))
   have TT5 := Lib.hid ((TT3.out.below B4.out TT3.out.two).below b5 (Nat.le_trans TT3.out.two B4.out.size))
   have HKD := Lib.hid HRF.out.2
   clear b5 CH
   rcases HKD.out with hk | hk | hk
   case' inl =>
    have hlk := hl5 px.kind 41 (by rw [hk]; rfl)
    have HC : Hid (∀ W, NdAt W base n a → Sk.Tabs W → Calls Tryz.prog 41 #[.pointer (some ⟨a.g, 0, none⟩), .pointer (some ⟨m.c, 0, none⟩), .string px.cont] W (Done W base a (handN G n k x px).1 (handN G n k x px).2)) := Lib.hid (fun W hW tW => by
     have e : handN G n k x px = shakesN n k x px.cont := by unfold handN; rw [if_pos hk]
     rw [e]
     exact shakes_any hW k x m HQ.out HL.out px.cont (Nat.le_trans HRF.out.1 HD.out) tW HSX.out)
   case' inr.inl =>
    have hlk := hl5 px.kind 42 (by rw [hk]; rfl)
    have HC : Hid (∀ W, NdAt W base n a → Sk.Tabs W → Calls Tryz.prog 42 #[.pointer (some ⟨a.g, 0, none⟩), .pointer (some ⟨m.c, 0, none⟩), .string px.cont] W (Done W base a (handN G n k x px).1 (handN G n k x px).2)) := Lib.hid (fun W hW tW => by
     have e : handN G n k x px = G n k x px.cont := by unfold handN; rw [if_neg (by omega), if_pos hk]
     rw [e]
     exact HG.out x m px W a hW HQ.out HRX.out hk HMT.out tW)
   case' inr.inr =>
    have hlk := hl5 px.kind 43 (by rw [hk]; rfl)
    have HC : Hid (∀ W, NdAt W base n a → Sk.Tabs W → Calls Tryz.prog 43 #[.pointer (some ⟨a.g, 0, none⟩), .pointer (some ⟨m.c, 0, none⟩), .string px.cont] W (Done W base a (handN G n k x px).1 (handN G n k x px).2)) := Lib.hid (fun W hW tW => by
     have e : handN G n k x px = (endsN n k x px.cont, remE k x) := by unfold handN; rw [if_neg (by omega), if_neg (by omega)]
     rw [e]
     exact ends_any hW k x m HQ.out (by have := HL.out; omega) px.cont)
   all_goals
    unfold fnV at hlk
    have hmm := @run_makeMap Tryz.prog
    clear hl5 hk HKD B5
    go_upto_region 13 with fail
    clear h1 h2 h3 hlk g2 hmm
    generalize ((((w4.alloc _).putObj _ _).putObj _ _).putObj _ _) = w5 at *
    have e3 : w5.cell? ⟨bx, 3, none⟩ = some (.string px.cont) := X5.out.cell 3
    have CC := Lib.hid (HC.out w5 H5.out TT5.out)
    clear HC
    go_wp2_with fail
    refine CC.out.mono ?_
    rintro e w6 ⟨v, a', rfl, q2, q3, q4⟩
    have D : Hid (DonePk w0 base a (pktE G n k (readF data)) 0 (.returned (.tuple #[v, .int .i64 0])) w6) := Lib.hid (by
     rw [HRN.out]
     exact DonePk.of T5.out ⟨v, a', rfl, q2, q3, q4⟩)
    clear q2 q3 q4 CC
    go_wp2_with fail
    go_ret2
    exact D.out
end Go.Proofs.YtoaimoemaoinhaaGreatDoor
