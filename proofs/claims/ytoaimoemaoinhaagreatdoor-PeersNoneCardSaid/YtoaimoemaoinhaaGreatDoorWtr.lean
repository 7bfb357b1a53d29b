/- wire.writer: an embedded strings.Builder (copyCheck, Write, WriteString, String), bytes. -/
import Derived.Test.YtoaimoemaoinhaaGreatDoorGreat
import Derived.Lib.Builder
import Derived.Lib.AppendStr
import Derived.Lib.UnsafeStr
import Derived.Laws.Externs
import Derived.Laws.BitsLemmas
namespace Go.Proofs.YtoaimoemaoinhaaGreatDoor
open Go.RowKit Go.Rt Go.Rw

/-- A writer in block b that holds the bytes l. -/
def Wr (B b : Nat) (l : List UInt8) (w : World) : Prop := Lib.IsBuilder 187 5 B b (Lib.byteCells l) w
/-- .. that has been used. -/
def Wu (B b : Nat) (l : List UInt8) (w : World) : Prop := Lib.BuilderAt 187 5 B b (.pointer (some ⟨b, 0, none⟩)) (Lib.byteCells l) w
theorem Wu.wr {B b : Nat} {l : List UInt8} {w : World} (h : Wu B b l w) : Wr B b l w := .inr h
/-- Only the writer's block and blocks of bytes have turned. -/
structure WFr (B b : Nat) (w w' : World) : Prop where
  os : w'.os = w.os
  tape : w'.tape = w.tape
  output : w'.output = w.output
  size : w.heap.size ≤ w'.heap.size
  low : ∀ k, k < B → w'.heap[k]? = w.heap[k]?
  keep : ∀ k, k < w.heap.size → k ≠ b → (∀ cs p, w.heap[k]? ≠ some (.cells cs 5 p)) → w'.heap[k]? = w.heap[k]?
theorem WFr.refl (B b : Nat) (w : World) : WFr B b w w := ⟨rfl, rfl, rfl, Nat.le_refl _, fun _ _ => rfl, fun _ _ _ _ => rfl⟩
theorem WFr.trans {B b : Nat} {u v w : World} (h : WFr B b u v) (k : WFr B b v w) : WFr B b u w :=
  ⟨k.os.trans h.os, k.tape.trans h.tape, k.output.trans h.output, Nat.le_trans h.size k.size, fun i hi => (k.low i hi).trans (h.low i hi), fun i hi hb h5 => by
    have e := h.keep i hi hb h5
    exact (k.keep i (Nat.lt_of_lt_of_le hi h.size) hb (by rw [e]; exact h5)).trans e⟩
theorem WFr.below {B b : Nat} {w w' : World} (h : WFr B b w w') : Below B w w' := ⟨h.os, h.tape, h.output, h.size, h.low⟩
theorem WFr.of_below {B b : Nat} {w w' : World} (h : Below w.heap.size w w') (hB : B ≤ w.heap.size) : WFr B b w w' := ⟨h.os, h.tape, h.output, h.size, fun k hk => h.block k (by omega), fun k hk _ _ => h.block k hk⟩
theorem WFr.blk {B b g : Nat} {t : TypeId} {cs : Array Value} {w w' : World} (h : WFr B b w w') (hk : Blk w g t cs) (hg : g ≠ b) (ht : t ≠ 5) : Blk w' g t cs :=
  (h.keep g hk.lt hg (fun ds p e => by unfold Blk at hk; rw [hk] at e; injection e with e; injection e with _ e _; exact ht e)).trans hk
theorem WFr.set {B b : Nat} {w : World} (hB : B ≤ b) (i : Nat) (v : Value) : WFr B b w (w.setCell ⟨b, i, none⟩ v) :=
  ⟨rfl, rfl, rfl, by simp [World.setCell], fun k hk => Below.heap_setCell _ _ _ _ (by show k ≠ b; omega), fun k _ hb _ => Below.heap_setCell _ _ _ _ hb⟩
theorem WFr.grown {B b : Nat} {w w' : World} {v : Value} {n : Nat} {xs : List Value} (h : w.grownBy w' v.ownBlock) (ho : w.ownsRow B 5 1 v n xs) (hB : B ≤ w.heap.size) : WFr B b w w' := by
  refine ⟨h.os, h.tape, h.output, h.size, fun k hk => h.block k (by omega) (fun e => ?_), fun k hk _ h5 => h.block k hk (fun e => ?_)⟩
  · have := (ho.lt k e.symm).1
    omega
  · rcases ho.2 with ⟨hv, _⟩ | ⟨g, cap, cur, hv, _, hg, _⟩
    · rw [hv] at e; cases e
    · rw [hv] at e
      cases e
      exact h5 _ _ hg
theorem Wr.at {B b : Nat} {l : List UInt8} {w : World} (h : Wr B b l w) : ∃ p, Lib.BuilderAt 187 5 B b p (Lib.byteCells l) w := by
  rcases h with h | h
  · exact ⟨_, h⟩
  · exact ⟨_, h⟩
theorem Wr.lt {B b : Nat} {l : List UInt8} {w : World} (h : Wr B b l w) : b < w.heap.size := by
  obtain ⟨p, h⟩ := h.at
  exact h.lt
theorem Wr.le {B b : Nat} {l : List UInt8} {w : World} (h : Wr B b l w) : B ≤ b := by
  obtain ⟨p, h⟩ := h.at
  exact h.1
/-- The writer is as it was where only new blocks have come. -/
theorem bat_below {B b : Nat} {p : Value} {bs : List Value} {w w' : World} (h : Lib.BuilderAt 187 5 B b p bs w) (hb : Below w.heap.size w w') : Lib.BuilderAt 187 5 B b p bs w' := by
  obtain ⟨hB, v, hbk, hown, hne⟩ := h
  have hlt : b < w.heap.size := Lib.BuilderAt.lt ⟨hB, v, hbk, hown, hne⟩
  refine ⟨hB, v, (hb.block b hlt).trans hbk, ?_, hne⟩
  refine ⟨hown.1, ?_⟩
  rcases hown.2 with h | ⟨g, cap, cur, hv, h1, hg, h2⟩
  · exact .inl h
  · have hgl : g < w.heap.size := (Array.getElem?_eq_some_iff.1 hg).1
    exact .inr ⟨g, cap, cur, hv, h1, (hb.block g hgl).trans hg, h2⟩
theorem Wu.below {B b : Nat} {l : List UInt8} {w w' : World} (h : Wu B b l w) (hb : Below w.heap.size w w') : Wu B b l w' := bat_below h hb
theorem Wr.below {B b : Nat} {l : List UInt8} {w w' : World} (h : Wr B b l w) (hb : Below w.heap.size w w') : Wr B b l w' := by
  rcases h with h | h
  · exact .inl (bat_below h hb)
  · exact .inr (bat_below h hb)
/-- Block k holds the bytes of the writer in block b. -/
def rowOf (w : World) (b k : Nat) : Prop := ∃ p v, w.heap[b]? = some (.cells #[p, v] 187 (0, 0)) ∧ v.ownBlock = some k
/-- One write: all other blocks are as they were. -/
def One (b : Nat) (w w' : World) : Prop := ∀ k, k < w.heap.size → k ≠ b → ¬ rowOf w b k → w'.heap[k]? = w.heap[k]?
theorem Wr.row_lt {B b k : Nat} {l : List UInt8} {w : World} (h : Wr B b l w) (hk : rowOf w b k) : k < w.heap.size := by
  obtain ⟨p, _, v, hbk, hown, _⟩ := h.at
  obtain ⟨p', v', hbk', e⟩ := hk
  rw [hbk] at hbk'
  have h2 : #[p, v] = #[p', v'] := by injection hbk' with h; injection h
  have : v = v' := by simp at h2; exact h2.2
  subst this
  exact (hown.lt k e).2
theorem Wr.new (w : World) : Wr w.heap.size w.heap.size [] (w.alloc (.cells #[.pointer none, .slice none 0 0] 187)) :=
  .inl ⟨Nat.le_refl _, .slice none 0 0, Blk.new w 187 _, ⟨by simp [Lib.byteCells], .inl ⟨rfl, rfl⟩⟩, by simp [Value.ownBlock]⟩

theorem lies57 : liesAt Tryz.prog Tryz.prog.depth 187 (2 / Tryz.prog.cellsOf 187) 0 185 1 = true := by kernel_rfl
theorem info57 : (Tryz.prog.info? 185).map (·.size) = some 2 := by kernel_rfl
theorem info5 : (Tryz.prog.info? 5).map (fun i => (i.zero, i.size, i.bytes)) = some (some (.int .u8 0), 1, 1) := by kernel_rfl
set_option maxRecDepth 100000 in
set_option maxHeartbeats 1000000 in
theorem check_used (b : Nat) (w : World) (h0 : w.cell? ⟨b, 0, none⟩ = some (.pointer (some ⟨b, 0, none⟩))) :
    Calls Tryz.prog 193 #[.pointer (some ⟨b, 0, none⟩)] w fun e w' => e = .returned (.tuple #[]) ∧ w' = w := by
  obtain ⟨j, hj, _⟩ := Option.map_eq_some_iff.1 info57
  go_enter Tryz.func193, Tryz.ntmps193
  go_wp2_with fail
  rw [Lib.run_neq_ptr_same w _ Tryz.underlying183 hj]
  go_wp2_with fail
  go_end0
  exact ⟨rfl, rfl⟩
set_option maxRecDepth 100000 in
set_option maxHeartbeats 1000000 in
theorem check_fresh (b : Nat) (w : World) (h0 : w.cell? ⟨b, 0, none⟩ = some (.pointer none)) (hsh : w.shape? b = some (187, 2)) (hfz : w.frozen? ⟨b, 0, none⟩ = false) :
    Calls Tryz.prog 193 #[.pointer (some ⟨b, 0, none⟩)] w fun e w' => e = .returned (.tuple #[]) ∧ w' = w.setCell ⟨b, 0, none⟩ (.pointer (some ⟨b, 0, none⟩)) := by
  obtain ⟨j, hj, hjs⟩ := Option.map_eq_some_iff.1 info57
  go_enter Tryz.func193, Tryz.ntmps193
  go_wp2_with fail
  rw [Lib.run_to_unsafe w ⟨b, 0, none⟩ Tryz.underlying183 Tryz.underlying292 hj (by rw [hjs]; decide) hsh (Nat.zero_lt_succ 1)]
  simp only [Result.andThen]
  rw [Oper.upon_value]
  go_wp2_with fail
  rw [run_callFunc_extern Tryz.func220 (by kernel_rfl) (by kernel_rfl) (by kernel_rfl) (e := Extern.AbiNoEscape.same) (by kernel_rfl)]
  rw [Lib.run_noEscape]
  simp only [Result.andThen]
  rw [Oper.upon_value]
  go_wp2_with fail
  rw [Lib.run_from_unsafe w ⟨b, 0, none⟩ Tryz.underlying292 Tryz.underlying183 hj hsh lies57]
  simp only [Result.andThen]
  rw [Oper.upon_value]
  go_wp2_with fail
  go_end0
  exact ⟨rfl, rfl⟩
theorem check_any68 {B b : Nat} {l : List UInt8} {w : World} (h : Wr B b l w) :
    Calls Tryz.prog 193 #[.pointer (some ⟨b, 0, none⟩)] w fun e w' => e = .returned (.tuple #[]) ∧ Wu B b l w' ∧ WFr B b w w' ∧ (∀ k, k ≠ b → w'.heap[k]? = w.heap[k]?) ∧ (∀ k, rowOf w' b k → rowOf w b k) := by
  rcases h with h | h
  · refine (check_fresh b w h.cell0 h.shape h.frozen0).mono ?_
    rintro e w' ⟨rfl, rfl⟩
    refine ⟨rfl, h.used _, WFr.set h.1 0 _, fun k hk => Below.heap_setCell _ _ _ _ hk, fun k hk => ?_⟩
    obtain ⟨hB, v, hbk, _⟩ := h
    obtain ⟨p', v', hbk', e⟩ := hk
    have hb2 : (w.setCell ⟨b, 0, none⟩ (.pointer (some ⟨b, 0, none⟩))).heap[b]? = some (.cells #[.pointer (some ⟨b, 0, none⟩), v] 187 (0, 0)) := by
      simp [World.setCell, Array.getElem?_modify, hbk]
    rw [hb2] at hbk'
    have h2 : #[Value.pointer (some ⟨b, 0, none⟩), v] = #[p', v'] := by injection hbk' with h; injection h
    have : v = v' := by simp at h2; exact h2.2
    subst this
    exact ⟨_, v, hbk, e⟩
  · refine (check_used b w h.cell0).mono ?_
    rintro e w' ⟨rfl, rfl⟩
    exact ⟨rfl, h, WFr.refl _ _ _, fun _ _ => rfl, fun _ h => h⟩
theorem byteCells_append (a b : List UInt8) : Lib.byteCells (a ++ b) = Lib.byteCells a ++ Lib.byteCells b := by simp [Lib.byteCells]
set_option maxRecDepth 100000 in
set_option maxHeartbeats 2000000 in
/-- (*strings.Builder).Write of a slice of bytes that is not empty. -/
theorem write_any {B b : Nat} {l s : List UInt8} {w : World} (h : Wr B b l w) (g o cap : Nat) (hs : s ≠ []) (hg : g ≠ b) (hc : ∀ j u, (Lib.byteCells s)[j]? = some u → w.cell? ⟨g, o + j, none⟩ = some u) (hlen : l.length + s.length ≤ 140737488355328) :
    Calls Tryz.prog 150 #[.pointer (some ⟨b, 0, none⟩), .slice (some ⟨g, o, none⟩) s.length cap] w fun e w' => e = .returned (.tuple #[.int .i64 (s.length : Nat), .nilIface]) ∧ Wu B b (l ++ s) w' ∧ WFr B b w w' ∧ One b w w' := by
  obtain ⟨i0, hi, hz0, hz1, hz2⟩ := info_parts info5
  have HW := Lib.hid h
  have HC := Lib.hid hc
  have hpos : 0 < s.length := List.length_pos_iff.2 hs
  clear h hc hs
  go_enter Tryz.func150, Tryz.ntmps150
  go_wp2_with fail
  refine (check_any68 HW.out).mono ?_
  rintro e w1 ⟨rfl, u1, f1, k1, r1⟩
  have F1 := Lib.hid f1
  have HC1 : Hid (∀ j u, (Lib.byteCells s)[j]? = some u → w1.cell? ((⟨g, o, none⟩ : Addr).add j) = some u) := Lib.hid (fun j u hu => by
    rw [show ((⟨g, o, none⟩ : Addr).add j) = ⟨g, o + j, none⟩ by simp [Addr.add]]
    rw [← HC.out j u hu]
    unfold World.cell?
    dsimp only
    rw [k1 g hg])
  obtain ⟨hB, v, hbk, hown, hne⟩ := u1
  have HBK := Lib.hid hbk
  have HOWN := Lib.hid hown
  have HNE := Lib.hid hne
  have hBw : B ≤ w1.heap.size := by have : b < w1.heap.size := (Array.getElem?_eq_some_iff.1 hbk).1; omega
  have c1 : w1.cell? ⟨b, 1, none⟩ = some v := by simp [World.cell?, hbk]
  have HO : Hid (∀ k, k ≠ b → ¬ rowOf w b k → some k ≠ v.ownBlock ∧ w1.heap[k]? = w.heap[k]?) := Lib.hid (fun k hk hr => ⟨fun e => hr (r1 k ⟨_, v, hbk, e.symm⟩), k1 k hk⟩)
  clear f1 k1 r1 hbk hown hne HC HW
  have hl : (Lib.byteCells l).length = l.length := Lib.byteCells_length l
  go_wp2_with (at_builtin; refine wpList_append_own _ rfl _ _ 124 rfl B 5 i0 (.int .u8 0) 1 1 Tryz.underlying124 hi hz0 hz1 hz2 rfl (by decide) _ _ _ rfl HOWN.out ⟨g, o, none⟩ s.length cap (Lib.byteCells s) rfl (by rw [Lib.byteCells_length]; omega) HC1.out (by intro u hu; simp [Lib.byteCells] at hu; obtain ⟨x, _, rfl⟩ := hu; rfl) (by unfold maxLen; omega) (by omega) hBw ?_)
  intro v' w2 hown' hgrow _
  have HO3 : Hid (∀ k, k < w.heap.size → k ≠ b → ¬ rowOf w b k → w2.heap[k]? = w.heap[k]?) := Lib.hid (fun k hk hb hr => (hgrow.block k (Nat.lt_of_lt_of_le hk F1.out.size) (HO.out k hb hr).1).trans (HO.out k hb hr).2)
  have F2 := Lib.hid (F1.out.trans (WFr.grown (b := b) hgrow HOWN.out hBw))
  have hb2 : w2.heap[b]? = some (.cells #[.pointer (some ⟨b, 0, none⟩), v] 187 (0, 0)) := by
    rw [hgrow.block b (Array.getElem?_eq_some_iff.1 HBK.out).1 (fun e => HNE.out e.symm)]
    exact HBK.out
  have d1 : w2.cell? ⟨b, 1, none⟩ = some v := by simp [World.cell?, hb2]
  have e1 : w2.frozen? ⟨b, 1, none⟩ = false := by simp [World.frozen?, hb2]
  have HB2 := Lib.hid hb2
  obtain ⟨ao, n', c', rfl⟩ : ∃ ao n' c', v' = .slice ao n' c' := by
    rcases hown'.2 with ⟨hv, _⟩ | ⟨g, cap, cur, hv, _⟩
    · exact ⟨_, _, _, hv⟩
    · exact ⟨_, _, _, hv⟩
  have HO2 := Lib.hid hown'
  clear hown' hgrow hb2 HOWN HC1 c1
  go_wp2_with fail
  go_ret2
  refine ⟨rfl, ?_, F2.out.trans (WFr.set hB 1 _), fun k hk hb hr => (Below.heap_setCell _ _ _ _ hb).trans (HO3.out k hk hb hr)⟩
  refine Lib.BuilderAt.put (T := 187) (e := 5) hB HB2.out ?_ (by decide)
  rw [byteCells_append, List.length_append, Lib.byteCells_length, Lib.byteCells_length]
  exact HO2.out
theorem strCells_eq (s : ByteArray) : Lib.strCells s = Lib.byteCells s.data.toList := rfl
set_option maxRecDepth 100000 in
set_option maxHeartbeats 2000000 in
/-- (*strings.Builder).WriteString. -/
theorem writes_any {B b : Nat} {l : List UInt8} {w : World} (h : Wr B b l w) (s : ByteArray) (hlen : l.length + s.size ≤ 140737488355328) :
    Calls Tryz.prog 154 #[.pointer (some ⟨b, 0, none⟩), .string s] w fun e w' => e = .returned (.tuple #[.int .i64 (s.size : Nat), .nilIface]) ∧ Wu B b (l ++ s.data.toList) w' ∧ WFr B b w w' := by
  obtain ⟨i0, hi, hz0, hz1, hz2⟩ := info_parts info5
  have HW := Lib.hid h
  clear h
  go_enter Tryz.func154, Tryz.ntmps154
  go_wp2_with fail
  refine (check_any68 HW.out).mono ?_
  rintro e w1 ⟨rfl, u1, f1, k1, r1⟩
  have F1 := Lib.hid f1
  obtain ⟨hB, v, hbk, hown, hne⟩ := u1
  have HBK := Lib.hid hbk
  have HOWN := Lib.hid hown
  have HNE := Lib.hid hne
  have hBw : B ≤ w1.heap.size := by have : b < w1.heap.size := (Array.getElem?_eq_some_iff.1 hbk).1; omega
  have c1 : w1.cell? ⟨b, 1, none⟩ = some v := by simp [World.cell?, hbk]
  clear f1 k1 r1 hbk hown hne HW
  have hl : (Lib.byteCells l).length = l.length := Lib.byteCells_length l
  go_wp2_with (at_builtin; refine Lib.wpList_append_own_string _ rfl _ _ 124 9 rfl B 5 i0 Tryz.underlying124 Tryz.underlying9 hi hz0 hz1 hz2 _ _ _ rfl HOWN.out s rfl (by unfold maxLen; omega) (by omega) hBw ?_)
  intro v' w2 hown' hgrow _
  have F2 := Lib.hid (F1.out.trans (WFr.grown (b := b) hgrow HOWN.out hBw))
  have hb2 : w2.heap[b]? = some (.cells #[.pointer (some ⟨b, 0, none⟩), v] 187 (0, 0)) := by
    rw [hgrow.block b (Array.getElem?_eq_some_iff.1 HBK.out).1 (fun e => HNE.out e.symm)]
    exact HBK.out
  have d1 : w2.cell? ⟨b, 1, none⟩ = some v := by simp [World.cell?, hb2]
  have e1 : w2.frozen? ⟨b, 1, none⟩ = false := by simp [World.frozen?, hb2]
  have HB2 := Lib.hid hb2
  obtain ⟨ao, n', c', rfl⟩ : ∃ ao n' c', v' = .slice ao n' c' := by
    rcases hown'.2 with ⟨hv, _⟩ | ⟨g, cap, cur, hv, _⟩
    · exact ⟨_, _, _, hv⟩
    · exact ⟨_, _, _, hv⟩
  have HO2 := Lib.hid hown'
  clear hown' hgrow hb2 HOWN c1
  go_wp2_with fail
  go_ret2
  refine ⟨rfl, ?_, F2.out.trans (WFr.set hB 1 _)⟩
  refine Lib.BuilderAt.put (T := 187) (e := 5) hB HB2.out ?_ (by decide)
  rw [byteCells_append, List.length_append, Lib.byteCells_length, Lib.byteCells_length, Array.length_toList]
  exact HO2.out
set_option maxRecDepth 100000 in
set_option maxHeartbeats 1000000 in
/-- (*writer).bytes of a slice of bytes that is not empty. -/
theorem bytes_any {B b : Nat} {l s : List UInt8} {w : World} (h : Wr B b l w) (g o cap : Nat) (hs : s ≠ []) (hg : g ≠ b) (hc : ∀ j u, (Lib.byteCells s)[j]? = some u → w.cell? ⟨g, o + j, none⟩ = some u) (hlen : l.length + s.length ≤ 140737488355328) :
    Calls Tryz.prog 119 #[.pointer (some ⟨b, 0, none⟩), .slice (some ⟨g, o, none⟩) s.length cap] w fun e w' => e = .returned (.tuple #[]) ∧ Wu B b (l ++ s) w' ∧ WFr B b w w' ∧ One b w w' := by
  have C := Lib.hid (write_any h g o cap hs hg hc hlen)
  clear h hs hg hc hlen
  go_enter Tryz.func119, Tryz.ntmps119
  go_wp2_with fail
  refine C.out.mono ?_
  rintro e w1 ⟨rfl, u1, f1, o1⟩
  have U1 := Lib.hid u1
  have F1 := Lib.hid f1
  have O1 := Lib.hid o1
  clear u1 f1 o1 C
  go_wp2_with fail
  go_end0
  exact ⟨rfl, U1.out, F1.out, O1.out⟩
/-- .. of a literal row of bytes. -/
theorem lit_any {B b : Nat} {l : List UInt8} (s : List UInt8) {w : World} (h : Wr B b l w) (cs : Array Value) (k : Nat) (hk : k = s.length) (hcs : cs = (Lib.byteCells s).toArray) (hs : s ≠ []) (hlen : l.length + s.length ≤ 140737488355328) :
    Calls Tryz.prog 119 #[.pointer (some ⟨b, 0, none⟩), .slice (some ⟨w.heap.size, 0, none⟩) k k] (w.alloc (.cells cs 5)) fun e w' => e = .returned (.tuple #[]) ∧ Wu B b (l ++ s) w' ∧ WFr B b w w' ∧ One b w w' := by
  subst hk hcs
  have hb : Below w.heap.size w (w.alloc (.cells (Lib.byteCells s).toArray 5)) := (Below.refl _ _).alloc (Nat.le_refl _) _
  have hlt := h.lt
  refine (bytes_any (h.below hb) w.heap.size 0 s.length hs (by omega) (fun j u hu => ?_) hlen).mono ?_
  · rw [Nat.zero_add, (Blk.new w 5 (Lib.byteCells s).toArray).cell j]
    simpa using hu
  · rintro e w' ⟨rfl, u, f, o⟩
    refine ⟨rfl, u, (WFr.of_below hb (by have := h.le; omega)).trans f, fun k hk hkb hr => ?_⟩
    refine (o k (Nat.lt_of_lt_of_le hk hb.size) hkb (fun q => hr ?_)).trans (hb.block k hk)
    obtain ⟨p, v, q1, q2⟩ := q
    exact ⟨p, v, (hb.block b hlt).symm.trans q1, q2⟩
set_option maxRecDepth 100000 in
set_option maxHeartbeats 2000000 in
/-- (*strings.Builder).String of a builder that holds a byte. -/
theorem string_any {B b : Nat} {l : List UInt8} {w : World} (h : Wr B b l w) (h0 : l ≠ []) :
    Calls Tryz.prog 121 #[.pointer (some ⟨b, 0, none⟩)] w fun e w' => e = .returned (.string ⟨l.toArray⟩) ∧ Below B w w' := by
  obtain ⟨p, h⟩ := h.at
  obtain ⟨hB, v, hbk, hown, hne⟩ := h
  have hl0 : l.length ≠ 0 := by simpa using h0
  rw [Lib.byteCells_length] at hown
  obtain ⟨g, cap, cur, rfl, hbg, hg, hnc, hcm, hcs, htake⟩ : ∃ g cap cur, v = .slice (some ⟨g, 0, none⟩) l.length cap ∧ B ≤ g ∧ w.heap[g]? = some (.cells cur 5 (0, 0)) ∧ l.length ≤ cap ∧ cap ≤ maxLen ∧ cur.size = cap * 1 ∧ cur.toList.take (l.length * 1) = Lib.byteCells l := by
    rcases hown.2 with ⟨_, hz⟩ | ⟨g, cap, cur, hv, r⟩
    · exact absurd hz hl0
    · exact ⟨g, cap, cur, hv, r⟩
  have c1 : w.drew.cell? ⟨b, 1, none⟩ = some (.slice (some ⟨g, 0, none⟩) l.length cap) := by
    have : w.drew.heap[b]? = some (.cells #[p, .slice (some ⟨g, 0, none⟩) l.length cap] 187 (0, 0)) := hbk
    rw [Lib.cell_of_heap this]; rfl
  have hSD : (Builtin.unsafeSliceData_ #[124] 239 #[.slice (some ⟨g, 0, none⟩) l.length cap]).run Tryz.prog w.drew = .ok (.pointer (some ⟨g, 0, none⟩)) w.drew :=
    Lib.run_unsafeSliceData_row _ _ _ _ _ _ (by omega)
  have hUS : (Builtin.unsafeString_ #[239, 3] 9 #[.pointer (some ⟨g, 0, none⟩), .int .i64 l.length]).run Tryz.prog w.drew = .ok (.string ⟨l.toArray⟩) (w.drew.freeze ⟨g, 0, none⟩ l.length) := by
    refine Lib.run_unsafeString_row w.drew 239 3 9 5 Tryz.underlying239 (by kernel_rfl) g cur.size (by have hg' : w.drew.heap[g]? = some (.cells cur 5 (0, 0)) := hg; simp [World.shape?, hg']) l h0 (by omega) (by unfold maxLen at hcm; omega) ?_
    intro j x hx
    have := hown.cells (g := g) rfl j (.int .u8 x.toNat) (by simp [Lib.byteCells, hx])
    exact this
  clear hbk hown hne hg hnc hcm hcs htake
  go_enter Tryz.func121, Tryz.ntmps121
  go_wp2_with fail
  go_region
  all_goals (go_wp2; go_ret; exact ⟨rfl, Lib.below_freeze (Below.drew (Below.refl B w)) (p := ⟨g, 0, none⟩) hbg _⟩)
end Go.Proofs.YtoaimoemaoinhaaGreatDoor
