/- Put of the reference at a valid fragment. -/
import Derived.Test.YtbddggdbhfmlnaaCodeC
namespace Go.Proofs.Ytbddggdbhfmlnaa
open Go.RowKit Go.Rt Go.Rw Go.Mp Go.Lib

/-- b = append(b, eight(n)...). -/
theorem add_eight {w0 W w2 : World} {base g cap : Nat} {bs : List UInt8} {n : Nat} (s : Sl W base 5 1 bC (.slice (some ⟨g, 0, none⟩) bs.length cap) bs) (b0 : Below base w0 W) (hb : base ≤ w0.heap.size) (hl : bs.length ≤ 1000)
    (s2 : Sl w2 W.heap.size 5 1 bC (.slice (some ⟨W.heap.size, 0, none⟩) 8 8) (be8 n)) (b2 : Below W.heap.size W w2) :
    ∃ (g' cap' : Nat) (W3 : World), (Builtin.append_ #[62, 62] 62 #[.slice (some ⟨g, 0, none⟩) bs.length cap, .slice (some ⟨W.heap.size, 0, none⟩) 8 8]).run Try.prog w2 = .ok (.slice (some ⟨g', 0, none⟩) (bs.length + 8) cap') W3 ∧ Sl W3 base 5 1 bC (.slice (some ⟨g', 0, none⟩) (bs.length + 8) cap') (bs ++ be8 n) ∧ Below base w0 W3 := by
  have hz := b0.size
  have hz2 := b2.size
  have sk := s.below b2 (fun g' hg' => (s.lt g' hg').2)
  obtain ⟨g', cap', W3, hrun, s3, hg⟩ := Sl.many (P := Try.prog) (t := 62) (ty := 62) sk u62 info5 rfl (by omega) bC_len bC_one (be8 n) (by rw [be8_len]; omega) s2 (by rw [be8_len]; omega) (by rw [be8_len]; omega) (by omega)
  rw [be8_len] at hrun s3
  exact ⟨g', cap', W3, hrun, s3, (b0.trans (b2.mono (by omega))).grown hg (by omega) (fun r hr => (s.lt r hr).1)⟩

set_option maxRecDepth 100000 in
set_option maxHeartbeats 2000000 in
theorem rput_ok (i l : Nat) (fi : Bool) (data : ByteArray) (w : World) (hv : validB i l data = true) :
    Calls Try.prog 22 #[.agg #[.int .i64 i, .bool fi, .int .i64 l, .string data]] w fun e w' => e = .returned (.tuple #[.string (encF fi i l data), .int .i64 0]) ∧ Below w.heap.size w w' := by
  obtain ⟨v1, v2, v3, v4, v5⟩ := valid_of hv
  go_enter Try.func22, Try.ntmps22
  go_wp2_with fail
  refine (rvalid_yes i l fi data _ hv).mono ?_
  rintro e w1 ⟨rfl, b1⟩
  have hb1 : w1.heap[w.heap.size]? = some (.cells #[.int .i64 i, .bool fi, .int .i64 l, .string data] 30 (0, 0)) := (b1.block w.heap.size (by simp)).trans (World.alloc_heap_new w _)
  have B1 : Below w.heap.size w w1 := ((Below.refl _ w).alloc (Nat.le_refl _) _).trans (b1.mono (by simp))
  have hz1 : w.heap.size < w1.heap.size := (Array.getElem?_eq_some_iff.1 hb1).1
  have x0 := cell_at hb1 0
  have x1 := cell_at hb1 1
  have x2 := cell_at hb1 2
  have x3 := cell_at hb1 3
  simp only [List.getElem?_toArray, List.getElem?_cons_zero, List.getElem?_cons_succ] at x0 x1 x2 x3
  have S1 : Hid (Sl (w1.alloc (.cells #[.int .u8 131, .int .u8 (if fi then 69 else 70)] 5)) w1.heap.size 5 1 bC (.slice (some ⟨w1.heap.size, 0, none⟩) 2 2) [131, if fi then 69 else 70]) := by
    refine Lib.hid ?_
    have := Sl.lit (base := w1.heap.size) (e := 5) (m := 1) (c := bC) w1 [131, if fi then 69 else 70] bC_len (Nat.le_refl _) (by simp [maxLen])
    cases fi <;> simpa [bC] using this
  have BB1 := Lib.hid B1
  have HX : Hid (∀ W, Below w1.heap.size w1 W → W.cell? ⟨w.heap.size, 2, none⟩ = some (.int .i64 l) ∧ W.cell? ⟨w.heap.size, 3, none⟩ = some (.string data)) :=
    Lib.hid fun W hb => ⟨(hb.cell (p := ⟨w.heap.size, 2, none⟩) hz1).trans x2, (hb.cell (p := ⟨w.heap.size, 3, none⟩) hz1).trans x3⟩
  have hi : i ≤ 9223372036854775807 := by omega
  have hlb : l ≤ 9223372036854775807 := by omega
  obtain ⟨HD, hHD⟩ : ∃ HD : ByteArray, HD = ⟨(headL fi i l).toArray⟩ := ⟨_, rfl⟩
  have HEN : Hid ((⟨([131, if fi then 69 else 70] ++ be8 i ++ be8 l).toArray⟩ : ByteArray) = HD) := by refine Lib.hid ?_; rw [hHD]; rfl
  have HEN2 : Hid (encF fi i l data = HD ++ data) := by refine Lib.hid ?_; rw [hHD]; rfl
  have hHs : HD.size ≤ 18 := by rw [hHD]; show (headL _ i l).length ≤ 18; rw [headL_len]; omega
  clear hHD
  clear b1 hb1 B1
  cases fi
  all_goals
    simp only [Bool.false_eq_true, if_false, if_true] at S1 HEN
    go_wp2_with fail
    refine (eight_any i _ hi).mono ?_
    rintro e w2 ⟨rfl, s2, b2⟩
    obtain ⟨g3, cap3, W3, hrun3, s3, b3⟩ := add_eight (w0 := w1) S1.out ((Below.refl _ w1).alloc (Nat.le_refl _) _) (Nat.le_refl _) (by simp) s2 b2
    obtain ⟨y2, y3⟩ := HX.out W3 b3
    simp only [World.size_alloc, List.length_cons, List.length_nil, Nat.reduceAdd] at hrun3 s3
    have HR3 := Lib.hid hrun3
    have HS3 := Lib.hid s3
    have HB3 := Lib.hid b3
    clear hrun3 s3 b3 s2 b2
    go_wp2_with (at_builtin; refine wpList_append_run rfl _ _ 62 62 rfl rfl rfl HR3.out ?_)
    refine (eight_any l _ hlb).mono ?_
    rintro e w4 ⟨rfl, s4, b4⟩
    have s3' := HS3.out
    obtain ⟨g5, cap5, W5, hrun5, s5, b5⟩ := add_eight (w0 := w1) (bs := [131, _] ++ be8 i) (by simpa [be8_len] using s3') HB3.out (Nat.le_refl _) (by simp [be8_len]) s4 b4
    simp only [List.length_append, be8_len, List.length_cons, List.length_nil, Nat.reduceAdd] at hrun5 s5
    obtain ⟨_, z3⟩ := HX.out W5 b5
    have hcv := conv_bytes s5
    have HR5 := Lib.hid hrun5
    have HB5 := Lib.hid (BB1.out.trans (b5.mono BB1.out.size))
    clear hrun5 s5 b5 s4 b4 s3'
    rw [HEN.out] at hcv
    go_wp2_with (at_builtin; refine wpList_append_run rfl _ _ 62 62 rfl rfl rfl HR5.out ?_)
    go_ret2
    exact ⟨by rw [HEN2.out]; rfl, HB5.out⟩
end Go.Proofs.Ytbddggdbhfmlnaa
