/- Put of frags and of its reference. -/
import Derived.Test.YtbddggdbhfmlnaaCodeA
import Derived.Deep.RegionWith
import Derived.Deep.DeepCutAuto
namespace Go.Proofs.Ytbddggdbhfmlnaa
open Go.RowKit Go.Rt Go.Rw Go.Mp Go.Lib

def headL (fi : Bool) (i l : Nat) : List UInt8 := [131, if fi then 69 else 70] ++ be8 i ++ be8 l
def encF (fi : Bool) (i l : Nat) (data : ByteArray) : ByteArray := ⟨(headL fi i l).toArray⟩ ++ data
theorem headL_len (fi : Bool) (i l : Nat) : (headL fi i l).length = 18 := by simp [headL, be8_len]

theorem conv_bytes {W : World} {base g n cap : Nat} {bs : List UInt8} (h : Sl W base 5 1 bC (.slice (some ⟨g, 0, none⟩) n cap) bs) : (convert 62 9 (.slice (some ⟨g, 0, none⟩) n cap)).run Try.prog W = .ok (.string ⟨bs.toArray⟩) W := by
  obtain rfl : n = bs.length := by
    rcases h.form with ⟨e, _⟩ | ⟨g', c', e, _⟩
    · cases e
    · cases e; rfl
  refine run_convert_bytes_back (P := Try.prog) W 62 9 5 ⟨g, 0, none⟩ cap bs u62 u5 u9 ?_
  intro j hj
  rw [add_none, Nat.zero_add]
  have := h.cell bC_len j 0 hj (by omega)
  simpa [bC] using this

set_option maxRecDepth 100000 in
set_option maxHeartbeats 2000000 in
theorem put_ok (i l : Nat) (fi : Bool) (data : ByteArray) (w : World) (hv : validB i l data = true) :
    Calls Try.prog 21 #[.agg #[.int .i64 i, .bool fi, .int .i64 l, .string data]] w fun e w' => e = .returned (.tuple #[.string (encF fi i l data), .int .i64 0]) ∧ Below w.heap.size w w' := by
  obtain ⟨v1, v2, v3, v4, v5⟩ := valid_of hv
  go_enter Try.func21, Try.ntmps21
  go_wp2_with fail
  refine (valid_yes i l fi data _ hv).mono ?_
  rintro e w1 ⟨rfl, b1⟩
  have hb1 : w1.heap[w.heap.size]? = some (.cells #[.int .i64 i, .bool fi, .int .i64 l, .string data] 30 (0, 0)) := (b1.block w.heap.size (by simp)).trans (World.alloc_heap_new w _)
  have B1 : Below w.heap.size w w1 := ((Below.refl _ w).alloc (Nat.le_refl _) _).trans (b1.mono (by simp))
  have hz1 : w.heap.size < w1.heap.size := (Array.getElem?_eq_some_iff.1 hb1).1
  have x0 := cell_at hb1 0
  have x1 := cell_at hb1 1
  have x2 := cell_at hb1 2
  have x3 := cell_at hb1 3
  simp only [List.getElem?_toArray, List.getElem?_cons_zero, List.getElem?_cons_succ] at x0 x1 x2 x3
  have S1 : Hid (Sl (w1.alloc (.cells #[.int .u8 131, .int .u8 (if fi then 69 else 70)] 5)) w1.heap.size 5 1 bC (.slice (some ⟨w1.heap.size, 0, none⟩) 2 2) [131, if fi then 69 else 70]) := by
    refine Lib.hid ?_
    have := Sl.lit (base := w1.heap.size) (e := 5) (m := 1) (c := bC) w1 [131, if fi then 69 else 70] bC_len (Nat.le_refl _) (by simp [maxLen])
    cases fi <;> simpa [bC] using this
  have HB1 := Lib.hid hb1
  have BB1 := Lib.hid B1
  clear b1 hb1 B1
  have z1 : IntKind.u64.wrap (i : Int) = i := by rw [IntKind.wrap_u64]; omega
  have z2 : IntKind.u64.wrap (l : Int) = l := by rw [IntKind.wrap_u64]; omega
  have N1 : Hid (∀ (g cap : Nat) (W : World) (bs : List UInt8) (n : Nat), Sl W w1.heap.size 5 1 bC (.slice (some ⟨g, 0, none⟩) bs.length cap) bs → w1.heap.size ≤ W.heap.size → bs.length ≤ 1000 → n < 18446744073709551616 →
      Calls Try.prog 28 #[.slice (some ⟨g, 0, none⟩) bs.length cap, .int .u64 n] W fun e w' => ∃ g cap, e = .returned (.slice (some ⟨g, 0, none⟩) (bs.length + 8) cap) ∧ Sl w' w1.heap.size 5 1 bC (.slice (some ⟨g, 0, none⟩) (bs.length + 8) cap) (bs ++ be8 n) ∧ Below w1.heap.size W w') :=
    Lib.hid fun g cap W bs n h1 h2 h3 h4 => number_any _ bs n W h1 h2 h3 h4
  have HX : Hid (∀ W, Below w1.heap.size w1 W → W.cell? ⟨w.heap.size, 0, none⟩ = some (.int .i64 i) ∧ W.cell? ⟨w.heap.size, 2, none⟩ = some (.int .i64 l)) :=
    Lib.hid fun W hb => ⟨(hb.cell (p := ⟨w.heap.size, 0, none⟩) hz1).trans x0, (hb.cell (p := ⟨w.heap.size, 2, none⟩) hz1).trans x2⟩
  have D1 : Hid (∀ o, Below w1.heap.size w1 (w1.alloc o).drew) := Lib.hid fun o => ((Below.refl _ w1).alloc (Nat.le_refl _) o).drew
  obtain ⟨HD, hHD⟩ : ∃ HD, HD = headL fi i l := ⟨_, rfl⟩
  have HL := Lib.hid hHD
  have hHl : HD.length ≤ 18 := by rw [hHD, headL_len]; omega
  have hHs : (ByteArray.mk HD.toArray).size ≤ 18 := hHl
  have HEN : Hid (encF fi i l data = ⟨HD.toArray⟩ ++ data) := by refine Lib.hid ?_; rw [hHD]; rfl
  clear hHD
  cases fi
  all_goals
    simp only [Bool.false_eq_true, if_false, if_true] at S1
    go_upto_region 6 with fail
    go_cut [4] (fun s4 wx => ∃ g cap, s4 = .slice (some ⟨g, 0, none⟩) 18 cap ∧ Sl wx w1.heap.size 5 1 bC (.slice (some ⟨g, 0, none⟩) 18 cap) HD ∧ Below w1.heap.size w1 wx)
    case first =>
      go_region_with (first
        | (go_at_call_of 28 (Value.slice (some ⟨w1.heap.size, 0, none⟩) 2 2); refine (N1.out w1.heap.size 2 _ [131, _] i S1.out.drew (by simp) (by simp) (by omega)).mono ?_; rintro e w2 ⟨g2, cap2, rfl, s2, b2⟩; obtain ⟨y0, y2⟩ := HX.out w2 ((D1.out _).trans b2))
        | (go_at_call 28; refine (N1.out _ _ _ _ l s2 (by have := b2.size; simp at this; omega) (by simp [be8_len]) (by omega)).mono ?_; rintro e w3 ⟨g3, cap3, rfl, s3, b3⟩))
      all_goals (go_wp2_with fail; go_meet; exact ⟨g3, cap3, by simp [be8_len], by have q := s3; simp only [List.length_append, be8_len, List.length_cons, List.length_nil, Nat.reduceAdd] at q; rw [HL.out]; exact q, ((D1.out _).trans b2).trans b3⟩)
    case rest =>
      obtain ⟨g, cap, rfl, s2, b2⟩ := hcut
      have x3' := (b2.cell (p := ⟨w.heap.size, 3, none⟩) hz1).trans x3
      have hcv := conv_bytes s2
      have BB2 := Lib.hid (BB1.out.trans (b2.mono BB1.out.size))
      clear s2 b2
      go_wp2
      go_ret2
      refine ⟨?_, BB2.out⟩
      rw [HEN.out]
      rfl
end Go.Proofs.Ytbddggdbhfmlnaa
