/- frags.Cut: what it hands back, said as a list of fragments. -/
import Derived.Test.YtbddggdbhfmlnaaPieces
namespace Go.Proofs.Ytbddggdbhfmlnaa
open Go.RowKit Go.Shelf Go.Rt Go.Rw
attribute [local go_sem] Oper.semAt_some

/-- The cells of a fragment. -/
def fc (f : FragD) : List Value := [.int .i64 f.1, .bool f.2.1, .int .i64 f.2.2.1, .string f.2.2.2]
theorem fc_len (f : FragD) : (fc f).length = 4 := rfl
theorem fc_one (f : FragD) : ∀ u ∈ fc f, u.oneCell' = true := by simp [fc, Value.oneCell']
theorem u23 : Try.prog.underlying 23 = some (.slice 30) := by kernel_rfl
theorem info30 : (Try.prog.info? 30).map (fun i => (i.zero, i.size, i.bytes)) = some (some (.agg #[.int .i64 0, .bool false, .int .i64 0, .string ByteArray.empty]), 4, 40) := by kernel_rfl

def cutL (id : Int) (data : ByteArray) (most : Nat) : List FragD := (List.range (manyK data most)).map fun k : Nat => (id, decide (k = 0), (manyK data most : Int) - (k : Int), partK data most k)
theorem cutL_len (id : Int) (data : ByteArray) (most : Nat) : (cutL id data most).length = manyK data most := by simp [cutL]
theorem cutL_take (id : Int) (data : ByteArray) (most k : Nat) (hk : k < manyK data most) : (cutL id data most).take (k + 1) = (cutL id data most).take k ++ [(id, decide (k = 0), (manyK data most : Int) - (k : Int), partK data most k)] := by
  rw [List.take_succ_eq_append_getElem (by rw [cutL_len]; exact hk)]
  simp [cutL]

def CutI (w : World) (Bo Bi : Nat) (id : Int) (data : ByteArray) (most : Nat) (k : Nat) (T : List Nat) (W : World) : Prop :=
  ∃ v, Boxed W Bo 23 v ∧ Sl W w.heap.size 30 4 fc v ((cutL id data most).take k) ∧ Bo ∉ T ∧ Off v T ∧ Boxed W Bi 2 (.int .i64 id) ∧ Bi ∉ T ∧ Below w.heap.size w W
theorem boxed_only {W W' : World} {bs : List Nat} {B : Nat} {t : TypeId} {v : Value} (h : Boxed W B t v) (ho : Only bs W W') (hn : B ∉ bs) : Boxed W' B t v := (ho.block B h.lt hn).trans h
theorem off_more {W : World} {base e m : Nat} {α : Type} {c : α → List Value} {v : Value} {L : List α} (h : Sl W base e m c v L) {T T' : List Nat} (ho : Off v T) (hT : ∀ r ∈ T', r ∈ T ∨ W.heap.size ≤ r) : Off v T' := by
  intro g hg hm
  have := (h.lt g hg).2
  rcases hT g hm with q | q
  · exact ho g hg q
  · omega
theorem not_more {W : World} {B : Nat} {t : TypeId} {v : Value} (h : Boxed W B t v) {T T' : List Nat} (ho : B ∉ T) (hT : ∀ r ∈ T', r ∈ T ∨ W.heap.size ≤ r) : B ∉ T' := by
  intro hm
  have := h.lt
  rcases hT B hm with q | q
  · exact ho q
  · omega
theorem cutI_abides (w : World) (Bo Bi : Nat) (id : Int) (data : ByteArray) (most : Nat) : Rt.Abides (fun k T W => CutI w Bo Bi id data most k T W ∧ ∀ r ∈ T, w.heap.size ≤ r) := by
  rintro k T A T' B ⟨⟨v, b1, s1, n1, o1, b2, n2, bl⟩, hT0⟩ ho hT hlt
  have hz := bl.size
  have hT0' : ∀ r ∈ T', w.heap.size ≤ r := fun r hr => (hT r hr).elim (hT0 r) (fun q => by omega)
  exact ⟨⟨v, boxed_only b1 ho n1, s1.only ho o1, not_more b1 n1 hT, off_more s1 o1 hT, boxed_only b2 ho n2, not_more b2 n2 hT, bl.trans (ho.below hT0 hz)⟩, hT0'⟩

set_option maxRecDepth 100000 in
set_option maxHeartbeats 2000000 in
theorem cut_ok (id : Int) (data : ByteArray) (most : Nat) (w : World) (hi1 : 1 ≤ id) (hi2 : id ≤ 2147483647) (hm : 1 ≤ most) (hm2 : most ≤ 4096) (hd : data.size ≤ 262144) :
    Calls Try.prog 12 #[.int .i64 id, .string data, .int .i64 most] w fun e w' => ∃ v, e = .returned (.tuple #[v, .int .i64 0]) ∧ Sl w' w.heap.size 30 4 fc v (cutL id data most) ∧ Below w.heap.size w w' := by
  refine (callsIn_wide (n := 3)).1 ?_
  refine callsIn_of_wp_marks Try.func12 rfl trivial ?_ rfl
  simp only [Try.ntmps12, List.size_toArray, List.length_cons, List.length_nil, Nat.reduceAdd, Nat.reduceSub, Array.replicate_succ, Array.replicate_zero, List.push_toArray, List.append_toArray, List.nil_append, List.cons_append]
  have d1 : ¬ id < 1 := by omega
  have d2 : ¬ 2147483647 < id := by omega
  have d3 : ¬ (most : Int) < 1 := by omega
  have d4 : ¬ 4096 < (most : Int) := by omega
  have d5 : ¬ 262144 < (data.size : Int) := by omega
  gi_wp2_with (refine ⟨trivial, ?_⟩; gi_at_call 25; refine (pieces_in Fence.wide _ trivial rfl _ _ _).mono ?_; rintro e w' ⟨rfl, rfl⟩)
  obtain ⟨W0, hW0⟩ : ∃ W0, (((w.alloc (.cells #[.int .i64 id] 2)).alloc (.cells #[.slice none 0 0] 23)).alloc (.cells #[.string data] 9)).alloc (.cells #[.int .i64 most] 3) = W0 := ⟨_, rfl⟩
  have bI : Boxed W0 w.heap.size 2 (.int .i64 id) := by rw [← hW0]; exact (((Boxed.new w 2 _).alloc _).alloc _).alloc _
  have bO : Boxed W0 (w.heap.size + 1) 23 (.slice none 0 0) := by
    rw [← hW0]; have := Boxed.new (w.alloc (.cells #[.int .i64 id] 2)) 23 (.slice none 0 0); rw [World.size_alloc] at this; exact (this.alloc _).alloc _
  have bD : Boxed W0 (w.heap.size + 1 + 1) 9 (.string data) := by
    rw [← hW0]; have := Boxed.new ((w.alloc (.cells #[.int .i64 id] 2)).alloc (.cells #[.slice none 0 0] 23)) 9 (.string data); rw [World.size_alloc, World.size_alloc] at this; exact this.alloc _
  have bM : Boxed W0 (w.heap.size + 1 + 1 + 1) 3 (.int .i64 most) := by
    rw [← hW0]; have := Boxed.new (((w.alloc (.cells #[.int .i64 id] 2)).alloc (.cells #[.slice none 0 0] 23)).alloc (.cells #[.string data] 9)) 3 (.int .i64 most); rw [World.size_alloc, World.size_alloc, World.size_alloc] at this; exact this
  have hB0 : Below w.heap.size w W0 := by
    rw [← hW0]; exact ((((Below.refl _ w).alloc (Nat.le_refl _) _).alloc (by simp) _).alloc (by simp; omega) _).alloc (by simp; omega) _
  have hsz : W0.heap.size = w.heap.size + 4 := by rw [← hW0]; simp
  rw [hW0]
  clear hW0
  refine wpIn_rangeFunc_T (F := Fence.wide) (n := 3) rfl (by omega) (gf := 31) (lb := #[.pointer (some ⟨w.heap.size + 1 + 1, 0, none⟩), .pointer (some ⟨w.heap.size + 1 + 1 + 1, 0, none⟩)]) rfl trivial (enters_of Try.func31 (by kernel_rfl) rfl)
    (pieces1_runs Fence.wide (3 - 1) trivial rfl (by omega) (w.heap.size + 1 + 1) (w.heap.size + 1 + 1 + 1) data most hm hm2 hd)
    (fun W hb => ⟨(hb.block _ bD.lt).trans bD, (hb.block _ bM.lt).trans bM⟩)
    (by intro r hr; simp only [List.mem_cons, List.not_mem_nil, or_false] at hr; rcases hr with rfl | rfl <;> omega) (fun _ => rfl)
    (fun k T W => CutI w (w.heap.size + 1) w.heap.size id data most k T W ∧ ∀ r ∈ T, w.heap.size ≤ r) (fun _ _ _ _ => False) (cutI_abides w _ _ id data most) (fun _ _ _ _ _ _ h _ _ _ => h)
    ⟨⟨_, bO, Sl.nil _ _ _ _ _, by simp, fun g hg => by simp [Value.ownBlock] at hg, bI, by simp; omega, hB0⟩, by intro r hr; simp only [List.mem_cons, List.not_mem_nil, or_false] at hr; rcases hr with rfl | rfl <;> omega⟩
    (fun x => { tmps := #[.int .i64 id, .string data, .int .i64 most, .pointer (some ⟨w.heap.size, 0, none⟩), undef, undef, .slice none 0 0,
          .int .i64 0, .pointer (some ⟨w.heap.size + 1, 0, none⟩), .int .i64 x.1, .string x.2,
          .int .i64 id, .bool false, .bool false, .int .i64 id, .bool false,
          .bool false, .bool false, .int .i64 most, .bool false, .bool false,
          .bool false, .int .i64 most, .bool false, .bool false, .string data,
          .int .i64 data.size, .bool false, .string data, .int .i64 most,
          .func (.func 31) #[] #[.pointer (some ⟨w.heap.size + 1 + 1, 0, none⟩), .pointer (some ⟨w.heap.size + 1 + 1 + 1, 0, none⟩)],
          .int .i64 x.1, .string x.2, undef, undef, undef, undef, undef, undef, undef, undef, undef, undef, undef], defers := [] }) ?assign ?body ?done ?stop
  case assign =>
    intro l x W K hK
    gi_wp2
    exact hK
  case body =>
    rintro l k hk T W ⟨⟨v, b1, s1, n1, o1, b2, n2, bl⟩, hT0⟩ hTl
    rw [piecesL_len] at hk
    simp only [piecesL_get]
    have hlen : ((cutL id data most).take k).length = k := by rw [List.length_take, cutL_len]; omega
    have hml := many_le data most hm
    have hw0 := bl.size
    obtain ⟨x, hx⟩ : ∃ x : FragD, x = (id, decide (k = 0), (manyK data most : Int) - (k : Int), partK data most k) := ⟨_, rfl⟩
    have hnew := World.alloc_heap_new W (.cells (fc x).toArray 30)
    obtain ⟨g, cap, W2, hrun, s2, hgrow, hwhere⟩ := Sl.push (P := Try.prog) (t := 23) (ty := 23) (s1.only (Only.alloc T W (.cells (fc x).toArray 30)) o1) u23 info30 rfl (by omega) fc_len fc_one x hnew (by rw [hlen]; omega) (by rw [hlen]; omega) (by simp; omega) 1
    rw [hx, ← cutL_take id data most k hk] at s2
    rw [hlen] at hrun s2
    have b1' : Boxed W2 (w.heap.size + 1) 23 v := (b1.alloc _).kept hgrow (b1.not_row (by decide) s1)
    have b2' : Boxed W2 w.heap.size 2 (.int .i64 id) := (b2.alloc _).kept hgrow (b2.not_row (by decide) s1)
    have c1 := b1.cell
    have c2 := b2.cell
    have c1' := b1'.cell
    have f1' := b1'.frozen
    obtain ⟨sa, cp, hv⟩ : ∃ sa cp, v = .slice sa k cp := by
      rcases s1.form with ⟨rfl, h0⟩ | ⟨g0, cap0, rfl, _⟩
      · rw [h0] at hlen; exact ⟨none, 0, by rw [← hlen]; rfl⟩
      · exact ⟨_, _, by rw [hlen]⟩
    have oW : Only [w.heap.size + 1] W (W2.setCell ⟨w.heap.size + 1, 0, none⟩ (.slice (some ⟨g, 0, none⟩) (k + 1) cap)) ∨ True := .inr trivial
    have fin : CutI w (w.heap.size + 1) w.heap.size id data most (k + 1) T (W2.setCell ⟨w.heap.size + 1, 0, none⟩ (.slice (some ⟨g, 0, none⟩) (k + 1) cap)) ∧ KeepsT T W (W2.setCell ⟨w.heap.size + 1, 0, none⟩ (.slice (some ⟨g, 0, none⟩) (k + 1) cap)) := by
      have og : Only (v.ownBlock.toList) W W2 := (Only.alloc _ _ _).trans (Only.grown hgrow (fun r hr => .inl (by simp [hr])))
      have os : Only ((w.heap.size + 1) :: v.ownBlock.toList) W (W2.setCell ⟨w.heap.size + 1, 0, none⟩ (.slice (some ⟨g, 0, none⟩) (k + 1) cap)) :=
        (og.mono (fun b hb => .inl (by simp [hb]))).trans (Only.setCell _ _ _ (by simp))
      have hgne : g ≠ w.heap.size + 1 := by
        intro e
        have := b1'.not_row (by decide) s2
        simp [Value.ownBlock, e] at this
      have hgo : Off (.slice (some ⟨g, 0, none⟩) (k + 1) cap) T := by
        intro g' hg' hm'
        simp [Value.ownBlock] at hg'
        subst hg'
        rcases hwhere with q | q
        · exact o1 g q hm'
        · have := hTl g hm'
          simp at q
          omega
      refine ⟨⟨_, b1'.set _, s2.only (Only.setCell (bs := [w.heap.size + 1]) _ _ _ (by simp)) (fun g' hg' => by simp [Value.ownBlock] at hg'; subst hg'; simpa using hgne), n1, hgo, ?_, n2, ?_⟩, ?_⟩
      · exact (Below.heap_setCell _ _ _ _ (by simp)).trans b2'
      · refine bl.trans (os.below ?_ hw0)
        intro b hb
        simp only [List.mem_cons, Option.mem_toList] at hb
        rcases hb with rfl | hb
        · omega
        · exact (s1.lt b hb).1
      · refine KeepsT.of_only os ?_ hTl
        intro r hr hm'
        simp only [List.mem_cons, Option.mem_toList] at hm'
        rcases hm' with rfl | hb
        · exact n1 hr
        · exact o1 r hb hr
    have FIN := Lib.hid fin
    have HT0 := Lib.hid hT0
    rw [hx] at hrun
    clear fin hT0 oW hTl s1 o1 n1 n2 b1 b2 b1' b2' s2 hgrow hwhere hnew hx hlen
    subst hv
    simp only [fc] at hrun
    by_cases hk0 : k = 0
    · subst hk0
      simp only [decide_true] at hrun
      have HRN := Lib.hid hrun
      clear hrun
      gi_wp2_with (gi_at_builtin; refine wpListIn_append_run rfl _ _ 23 23 rfl rfl rfl HRN.out ?_)
      exact ⟨FIN.out.2, FIN.out.1, HT0.out⟩
    · have hk1 : ((k : Int) == 0) = false := by simp; omega
      simp only [hk0, decide_false] at hrun
      have HRN := Lib.hid hrun
      clear hrun
      gi_wp2_with (gi_at_builtin; refine wpListIn_append_run rfl _ _ 23 23 rfl rfl rfl HRN.out ?_)
      exact ⟨FIN.out.2, FIN.out.1, HT0.out⟩
  case done =>
    rintro D T W hD hTl ⟨⟨v, b1, s1, n1, o1, b2, n2, bl⟩, hT0⟩ hK
    rw [piecesL_len] at s1
    have hlen : (cutL id data most).take (manyK data most) = cutL id data most := List.take_of_length_le (by rw [cutL_len]; exact Nat.le_refl _)
    rw [hlen] at s1
    have c1 := b1.cell
    gi_wp2
    refine ⟨by simp, .inl ⟨_, _, rfl, run_takeDeferred hK, ?_⟩⟩
    refine ⟨_, results_tmp2 rfl _ _ _, v, rfl, s1.only (Only.putObj (bs := T) _ _ _ hD) o1, bl.trans ((Only.putObj (bs := T) _ _ _ hD).below hT0 bl.size)⟩
  case stop =>
    rintro D T c k W _ _ _ h _
    exact h.elim
end Go.Proofs.Ytbddggdbhfmlnaa
