/- The messages that a closure of ShakeReplays notes: a list of strings behind a boxed slice. -/
import Derived.Test.YtnkkbkceapcahaaDoorRunP
namespace Go.Proofs.YtnkkbkceapcahaaDoor
open Go.RowKit Go.Rt Go.Rw

def sC (b : ByteArray) : List Value := [.string b]
theorem sC_len (b : ByteArray) : (sC b).length = 1 := rfl
theorem sC_one (b : ByteArray) : ∀ u ∈ sC b, u.oneCell' = true := by simp [sC, Value.oneCell']
theorem u57 : Tryd.prog.underlying 57 = some (.slice 9) := by kernel_rfl
theorem info9 : (Tryd.prog.info? 9).map (fun i => (i.zero, i.size, i.bytes)) = some (some (.string ByteArray.empty), 1, 16) := by kernel_rfl
/-- The noted messages: a box that leads to their slice, off the blocks T. -/
structure SaidV (w0 W : World) (B : Nat) (T : List Nat) (v : Value) (l : List ByteArray) : Prop where
  box : Boxed W B 57 v
  row : Sl W w0.heap.size 9 1 sC v l
  off : Off v T
  boff : B ∉ T
  lo : w0.heap.size ≤ B
  lt : ∀ r ∈ T, r < W.heap.size
def Said (w0 W : World) (B : Nat) (T : List Nat) (l : List ByteArray) : Prop := ∃ v, SaidV w0 W B T v l
theorem SaidV.row_ne {w0 W : World} {B : Nat} {T : List Nat} {v : Value} {l : List ByteArray} (h : SaidV w0 W B T v l) : some B ≠ v.ownBlock := h.box.not_row (by decide) h.row
theorem Said.only {w0 W W' : World} {B : Nat} {T bs : List Nat} {l : List ByteArray} (h : Said w0 W B T l) (ho : Only bs W W') (hs : ∀ r ∈ bs, r ∈ T) : Said w0 W' B T l := by
  obtain ⟨v, h⟩ := h
  refine ⟨v, ⟨?_, h.row.only ho (fun g hg hm => h.off g hg (hs g hm)), h.off, h.boff, h.lo, fun r hr => Nat.lt_of_lt_of_le (h.lt r hr) ho.size⟩⟩
  exact (ho.block B h.box.lt (fun hm => h.boff (hs B hm))).trans h.box
theorem Said.below {w0 W W' : World} {B : Nat} {T : List Nat} {l : List ByteArray} (h : Said w0 W B T l) (hb : Below W.heap.size W W') : Said w0 W' B T l :=
  h.only (bs := []) (Only.of_below [] hb (Nat.le_refl _)) (fun _ h => by cases h)
/-- A step of the closure: what it leaves of the rest. -/
structure Noted (w0 W W' : World) (B : Nat) (T : List Nat) (l : List ByteArray) : Prop where
  said : Said w0 W' B T l
  keep : ∀ r ∈ T, W'.heap[r]? = W.heap[r]?
  bel : Below w0.heap.size W W'
set_option maxRecDepth 100000 in
set_option maxHeartbeats 1000000 in
theorem note_any {w0 W : World} {B : Nat} {T : List Nat} {l : List ByteArray} (h : Said w0 W B T l) (hl : l.length ≤ 100) (hw : w0.heap.size ≤ W.heap.size) (i : Int) (b : ByteArray) :
    Calls Tryd.prog 22 #[.int .i64 i, .string b, .pointer (some ⟨B, 0, none⟩)] W fun e W' => e = .returned (.string b) ∧ Noted w0 W W' B T (l ++ [b]) := by
  obtain ⟨v, h⟩ := h
  have s0 := h.row.only (Only.alloc (v.ownBlock.toList.map (fun _ => W.heap.size)) W (.cells (sC b).toArray 9)) (fun g hg hm => by
    have := (h.row.lt g hg).2
    simp [hg] at hm
    omega)
  obtain ⟨g, cap, W2, hrun, s2, hgrow, hwhere⟩ := Sl.push (P := Tryd.prog) (t := 57) (ty := 57) s0 u57 info9 rfl (by omega) sC_len sC_one b (World.alloc_heap_new W _) (by omega) (by omega) (by simp; omega) 1
  have hne := h.row_ne
  have b2 : Boxed W2 B 57 v := (h.box.alloc _).kept hgrow hne
  have c1 := h.box.cell
  have c2 := b2.cell
  have f2 := b2.frozen
  obtain ⟨sa, cp, hv⟩ : ∃ sa cp, v = .slice sa l.length cp := by
    rcases h.row.form with ⟨rfl, h0⟩ | ⟨g0, cap0, rfl, _⟩
    · exact ⟨none, 0, by rw [h0]; rfl⟩
    · exact ⟨_, _, rfl⟩
  have og : Only (v.ownBlock.toList) W W2 := (Only.alloc _ _ _).trans (Only.grown hgrow (fun r hr => .inl (by simp [hr])))
  have os : Only (B :: v.ownBlock.toList) W (W2.setCell ⟨B, 0, none⟩ (.slice (some ⟨g, 0, none⟩) (l.length + 1) cap)) :=
    (og.mono (fun b hb => .inl (by simp [hb]))).trans (Only.setCell _ _ _ (by simp))
  have hgne : g ≠ B := by
    intro e
    have := b2.not_row (by decide) s2
    simp [Value.ownBlock, e] at this
  have fin : Noted w0 W (W2.setCell ⟨B, 0, none⟩ (.slice (some ⟨g, 0, none⟩) (l.length + 1) cap)) B T (l ++ [b]) := by
    refine ⟨⟨_, ⟨b2.set _, s2.only (Only.setCell (bs := [B]) _ _ _ (by simp)) (fun g' hg' => by simp [Value.ownBlock] at hg'; subst hg'; simpa using hgne), ?_, h.boff, h.lo, fun r hr => Nat.lt_of_lt_of_le (h.lt r hr) os.size⟩⟩, ?_, ?_⟩
    · intro g' hg' hm'
      simp [Value.ownBlock] at hg'
      subst hg'
      rcases hwhere with q | q
      · exact h.off g q hm'
      · have := h.lt g hm'
        simp at q
        omega
    · intro r hr
      refine os.block r (h.lt r hr) ?_
      intro hm
      simp only [List.mem_cons, Option.mem_toList] at hm
      rcases hm with rfl | hm
      · exact h.boff hr
      · exact h.off r hm hr
    · refine os.below ?_ hw
      intro r hr
      simp only [List.mem_cons, Option.mem_toList] at hr
      rcases hr with rfl | hr
      · exact h.lo
      · exact (h.row.lt r hr).1
  have FIN := Lib.hid fin
  have HRN := Lib.hid hrun
  clear fin hrun h s0 s2 hgrow hwhere hne b2 og os hgne hl hw
  subst hv
  go_enter Tryd.func22, Tryd.ntmps22
  go_wp2_with (at_builtin; refine wpList_append_run rfl _ _ 57 57 rfl rfl rfl HRN.out ?_)
  go_ret
  exact ⟨rfl, FIN.out⟩
theorem Ss.noted {w0 W W' : World} {B : Nat} {L : List Ent} {T : List Nat} {l : List ByteArray} (h : Ss w0 W L) (t0 : Tabs w0) (n : Noted w0 W W' B T l) (hT : ∀ (i : Nat) (x : Ent), L[i]? = some x → x.1 ∈ T) : Ss w0 W' L :=
  ⟨fun i x hx => ⟨(n.keep x.1 (hT i x hx)).trans (h.blk i x hx).1, (h.blk i x hx).2⟩, h.ne, ⟨t0.below (h.st.bel.trans n.bel) t0.two, h.st.bel.trans n.bel⟩⟩
end Go.Proofs.YtnkkbkceapcahaaDoor
