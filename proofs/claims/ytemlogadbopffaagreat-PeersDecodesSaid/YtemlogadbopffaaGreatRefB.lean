/- The reference's writers of bytes: number, atom, integer. -/
import Derived.Test.YtemlogadbopffaaGreatShort
namespace Go.Proofs.YtemlogadbopffaaGreat
open Go.RowKit Go.Rt Go.Rw

def bC (b : UInt8) : List Value := [.int .u8 (b.toNat : Int)]
theorem bC_len (b : UInt8) : (bC b).length = 1 := rfl
theorem bC_one (b : UInt8) : ∀ u ∈ bC b, u.oneCell' = true := by intro u hu; simp [bC] at hu; subst hu; rfl
theorem bC_flat (l : List UInt8) : l.flatMap bC = Lib.byteCells l := by
 induction l with
 | nil => rfl
 | cons c r ih => rw [List.flatMap_cons, ih]; rfl
/-- A slice of bytes that the call owns. -/
abbrev BS (w : World) (B : Nat) (v : Value) (l : List UInt8) : Prop := Sl w B 5 1 bC v l
/-- Blocks of bytes may have turned from B on; all other blocks are as they were. -/
structure F5 (B : Nat) (w w' : World) : Prop where
 os : w'.os = w.os
 tape : w'.tape = w.tape
 output : w'.output = w.output
 size : w.heap.size ≤ w'.heap.size
 low : ∀ k, k < B → w'.heap[k]? = w.heap[k]?
 keep : ∀ k, k < w.heap.size → (∀ cs p, w.heap[k]? ≠ some (.cells cs 5 p)) → w'.heap[k]? = w.heap[k]?
theorem F5.refl (B : Nat) (w : World) : F5 B w w := ⟨rfl, rfl, rfl, Nat.le_refl _, fun _ _ => rfl, fun _ _ _ => rfl⟩
theorem F5.trans {B : Nat} {u v w : World} (h : F5 B u v) (k : F5 B v w) : F5 B u w :=
 ⟨k.os.trans h.os, k.tape.trans h.tape, k.output.trans h.output, Nat.le_trans h.size k.size, fun i hi => (k.low i hi).trans (h.low i hi), fun i hi h5 => by
  have e := h.keep i hi h5
  exact (k.keep i (Nat.lt_of_lt_of_le hi h.size) (by rw [e]; exact h5)).trans e⟩
theorem F5.below {B : Nat} {w w' : World} (h : F5 B w w') : Below B w w' := ⟨h.os, h.tape, h.output, h.size, h.low⟩
theorem F5.of_below {B : Nat} {w w' : World} (h : Below w.heap.size w w') (hB : B ≤ w.heap.size) : F5 B w w' := ⟨h.os, h.tape, h.output, h.size, fun k hk => h.block k (by omega), fun k hk _ => h.block k hk⟩
theorem F5.blk {B g : Nat} {t : TypeId} {cs : Array Value} {w w' : World} (h : F5 B w w') (hk : Blk w g t cs) (ht : t ≠ 5) : Blk w' g t cs :=
 (h.keep g hk.lt (fun ds p e => by unfold Blk at hk; rw [hk] at e; injection e with e; injection e with _ e _; exact ht e)).trans hk
theorem F5.grown {B : Nat} {w w' : World} {v : Value} {l : List UInt8} (h : w.grownBy w' v.ownBlock) (ho : BS w B v l) (hB : B ≤ w.heap.size) : F5 B w w' := by
 refine ⟨h.os, h.tape, h.output, h.size, fun k hk => h.block k (by omega) (fun e => ?_), fun k hk h5 => h.block k hk (fun e => ?_)⟩
 ·
  have := (Sl.lt ho k e.symm).1
  omega
 ·
  rcases Sl.form ho with ⟨hv, _⟩ | ⟨g, cap, hv, _, _, _, _, cur, hg, _⟩
  ·
   rw [hv] at e; cases e
  ·
   rw [hv] at e
   cases e
   exact h5 _ _ hg
theorem bs_blk {w : World} {B g : Nat} {cs : Array Value} (h : Blk w g 5 cs) (hB : B ≤ g) (L : List UInt8) (k : Nat) (hk : k = L.length) (hcs : cs = (Lib.byteCells L).toArray) (hm : L.length ≤ maxLen) : BS w B (.slice (some ⟨g, 0, none⟩) k k) L := by
 subst hk hcs
 refine ⟨by rw [bC_flat, Lib.byteCells_length, Nat.mul_one], .inr ⟨g, L.length, _, rfl, hB, h, Nat.le_refl _, hm, ?_, ?_⟩⟩
 ·
  simp [Lib.byteCells_length]
 ·
  rw [bC_flat, Nat.mul_one, List.toList_toArray, ← Lib.byteCells_length L, List.take_length]
theorem lit_bs (w : World) (cs : Array Value) (L : List UInt8) (k : Nat) (hk : k = L.length) (hcs : cs = (Lib.byteCells L).toArray) (hm : L.length ≤ maxLen) : BS (w.alloc (.cells cs 5)) w.heap.size (.slice (some ⟨w.heap.size, 0, none⟩) k k) L := bs_blk (Blk.new w 5 cs) (Nat.le_refl _) L k hk hcs hm
theorem BS.some {w : World} {B : Nat} {v : Value} {l : List UInt8} (h : BS w B v l) (hl : l ≠ []) : ∃ g cap, v = .slice (some ⟨g, 0, none⟩) l.length cap ∧ B ≤ g ∧ g < w.heap.size := by
 rcases Sl.form h with ⟨_, e⟩ | ⟨g, cap, hv, h1, h2, _⟩
 ·
  exact absurd e hl
 ·
  exact ⟨g, cap, hv, h1, h2⟩
/-- append(v, u...) -/
theorem bs_app {W : World} {B B2 : Nat} {v u : Value} {l m : List UInt8} (h : BS W B v l) (k : BS W B2 u m) (hm : m ≠ []) (hl : l.length + m.length ≤ 3000000000) (hB : B ≤ W.heap.size) :
  ∃ g cap W2, (Builtin.append_ #[48, 48] 48 #[v, u]).run Tryz.prog W = .ok (.slice (some ⟨g, 0, none⟩) (l.length + m.length) cap) W2 ∧ BS W2 B (.slice (some ⟨g, 0, none⟩) (l.length + m.length) cap) (l ++ m) ∧ F5 B W W2 := by
 obtain ⟨b, cc, rfl, _, _⟩ := BS.some k hm
 obtain ⟨v', W2, hrun, hs, hg, _⟩ := Sl.pushs (t := 48) (ty := 48) (o := 0) (b := b) h Tryz.underlying48 info5 rfl (by decide) bC_len bC_one m (fun j u hu => by
  have := World.ownsRow.cells (g := b) k rfl j u hu
  rw [add_none] at this
  exact this) (by omega) (by omega) hB cc
 have hf := F5.grown hg h hB
 obtain ⟨g, cap, rfl, _, _⟩ := BS.some hs (by simp [hm])
 rw [List.length_append] at hrun hs
 exact ⟨g, cap, W2, hrun, hs, hf⟩
/-- append(v, s...) of a string. -/
theorem bs_str {W : World} {B : Nat} {v : Value} {l : List UInt8} (h : BS W B v l) (s : ByteArray) (hne : l ≠ []) (hl : l.length + s.size ≤ 3000000000) (hB : B ≤ W.heap.size) :
  ∃ g cap W2, (Builtin.append_ #[48, 9] 48 #[v, .string s]).run Tryz.prog W = .ok (.slice (some ⟨g, 0, none⟩) (l.length + s.size) cap) W2 ∧ BS W2 B (.slice (some ⟨g, 0, none⟩) (l.length + s.size) cap) (l ++ s.data.toList) ∧ F5 B W W2 := by
 obtain ⟨i0, hi, hz0, hz1, hz2⟩ := info_parts info5
 have ho : W.ownsRow B 5 1 v l.length (l.flatMap bC) := h
 obtain ⟨v', W2, hrun, hown, hgrow, _⟩ := Lib.run_append_own_string (P := Tryz.prog) W B 48 9 48 5 i0 Tryz.underlying48 Tryz.underlying9 hi hz0 hz1 hz2 v l.length (l.flatMap bC) ho s (by unfold maxLen; omega) (by omega) hB
 have hs : BS W2 B v' (l ++ s.data.toList) := by
  unfold BS Sl
  rw [List.flatMap_append, List.length_append, bC_flat, bC_flat, ← strCells_eq, Array.length_toList]
  rw [bC_flat] at hown
  exact hown
 have hf := F5.grown hgrow h hB
 obtain ⟨g, cap, rfl, _, _⟩ := BS.some hs (by simp [hne])
 rw [List.length_append, Array.length_toList] at hrun hs
 exact ⟨g, cap, W2, hrun, hs, hf⟩
/-- What a function answers that makes bytes. -/
def BR (l : List UInt8) (w : World) (e : Ending) (w' : World) : Prop :=
 ∃ g cap, e = .returned (.slice (some ⟨g, 0, none⟩) l.length cap) ∧ BS w' w.heap.size (.slice (some ⟨g, 0, none⟩) l.length cap) l ∧ Below w.heap.size w w'
set_option maxRecDepth 100000 in
set_option maxHeartbeats 2000000 in
theorem rnum4 (n : Int) (w : World) : Calls Tryz.prog 91 #[.int .i64 n, .int .i64 4] w (BR (num4 n) w) := by
 have hmk : ∀ W, (Instr.makeSlice 48 (.int .i64 4) (.int .i64 4)).run Tryz.prog W = .ok (.slice (some ⟨W.heap.size, 0, none⟩) 4 4) (W.alloc (.cells #[.int .u8 0, .int .u8 0, .int .u8 0, .int .u8 0] 5)) := fun W => by
  obtain ⟨i0, hi, hz0, hz1, hz2⟩ := info_parts info5
  have h := run_make (P := Tryz.prog) W 48 5 i0 (.int .u8 0) Tryz.underlying48 hi hz0 .i64 .i64 4 4 (by decide) (by decide) (by rw [hz2]; decide) (by decide)
  rw [hz1, show madeCells (Value.int .u8 0).cells (Int.toNat 4 * 1) = #[.int .u8 0, .int .u8 0, .int .u8 0, .int .u8 0] by simp [madeCells, Value.cells, Array.range]; rfl] at h
  exact h
 have X_0 := Lib.hid (Blk.new w 5 #[.int .u8 0, .int .u8 0, .int .u8 0, .int .u8 0])
 have B_0 := Lib.hid ((Below.refl w.heap.size w).alloc (Nat.le_refl _) (.cells #[.int .u8 0, .int .u8 0, .int .u8 0, .int .u8 0] 5))
 go_enter Tryz.func91, Tryz.ntmps91
 go_upto_region 2 with fail
 generalize w.alloc (.cells #[.int .u8 0, .int .u8 0, .int .u8 0, .int .u8 0] 5) = v0 at X_0 B_0 ⊢
 clear hmk
 go_wp2_with fail
 refine wp_loop_rounds 5 ?_
 rw [rounds_succ]
 go_wp2_with (refine wpList_store_fld rfl 5 _ _ rfl rfl w.heap.size 3 _ 5 (.int .u8 (n % 256)) rfl rfl X_0.out (Nat.le_of_ble_eq_true rfl) (by kernel_rfl) rfl ?_)
 intro v1 ev
 have X_1 := Lib.hid (show Blk v1 w.heap.size 5 #[.int .u8 0, .int .u8 0, .int .u8 0, .int .u8 (n % 256)] by rw [ev]; exact X_0.out.set_ 3 _)
 have B_1 := Lib.hid (show Below w.heap.size w v1 by rw [ev]; exact B_0.out.setCell (Nat.le_refl _) _)
 clear ev X_0 B_0
 go_wp2_with fail
 rw [rounds_succ]
 go_wp2_with (refine wpList_store_fld rfl 5 _ _ rfl rfl w.heap.size 2 _ 5 (.int .u8 ((n / 256) % 256)) rfl rfl X_1.out (Nat.le_of_ble_eq_true rfl) (by kernel_rfl) rfl ?_)
 intro v2 ev
 have X_2 := Lib.hid (show Blk v2 w.heap.size 5 #[.int .u8 0, .int .u8 0, .int .u8 ((n / 256) % 256), .int .u8 (n % 256)] by rw [ev]; exact X_1.out.set_ 2 _)
 have B_2 := Lib.hid (show Below w.heap.size w v2 by rw [ev]; exact B_1.out.setCell (Nat.le_refl _) _)
 clear ev X_1 B_1
 go_wp2_with fail
 rw [rounds_succ]
 go_wp2_with (refine wpList_store_fld rfl 5 _ _ rfl rfl w.heap.size 1 _ 5 (.int .u8 (((n / 256) / 256) % 256)) rfl rfl X_2.out (Nat.le_of_ble_eq_true rfl) (by kernel_rfl) rfl ?_)
 intro v3 ev
 have X_3 := Lib.hid (show Blk v3 w.heap.size 5 #[.int .u8 0, .int .u8 (((n / 256) / 256) % 256), .int .u8 ((n / 256) % 256), .int .u8 (n % 256)] by rw [ev]; exact X_2.out.set_ 1 _)
 have B_3 := Lib.hid (show Below w.heap.size w v3 by rw [ev]; exact B_2.out.setCell (Nat.le_refl _) _)
 clear ev X_2 B_2
 go_wp2_with fail
 rw [rounds_succ]
 go_wp2_with (refine wpList_store_fld rfl 5 _ _ rfl rfl w.heap.size 0 _ 5 (.int .u8 ((((n / 256) / 256) / 256) % 256)) rfl rfl X_3.out (Nat.le_of_ble_eq_true rfl) (by kernel_rfl) rfl ?_)
 intro v4 ev
 have X_4 := Lib.hid (show Blk v4 w.heap.size 5 #[.int .u8 ((((n / 256) / 256) / 256) % 256), .int .u8 (((n / 256) / 256) % 256), .int .u8 ((n / 256) % 256), .int .u8 (n % 256)] by rw [ev]; exact X_3.out.set_ 0 _)
 have B_4 := Lib.hid (show Below w.heap.size w v4 by rw [ev]; exact B_3.out.setCell (Nat.le_refl _) _)
 clear ev X_3 B_3
 go_wp2_with fail
 rw [rounds_succ]
 go_wp2_with fail
 go_ret
 have hcs : (#[.int .u8 ((((n / 256) / 256) / 256) % 256), .int .u8 (((n / 256) / 256) % 256), .int .u8 ((n / 256) % 256), .int .u8 (n % 256)] : Array Value) = (Lib.byteCells (num4 n)).toArray := by
  simp [Lib.byteCells, num4, u8_toNat, Int.ediv_ediv]
 exact ⟨w.heap.size, 4, rfl, bs_blk X_4.out (Nat.le_refl _) (num4 n) 4 rfl hcs (by unfold maxLen; rw [num4_len]; omega), B_4.out⟩
set_option maxRecDepth 100000 in
set_option maxHeartbeats 2000000 in
theorem rnum2 (n : Int) (w : World) : Calls Tryz.prog 91 #[.int .i64 n, .int .i64 2] w (BR (num2 n) w) := by
 have hmk : ∀ W, (Instr.makeSlice 48 (.int .i64 2) (.int .i64 2)).run Tryz.prog W = .ok (.slice (some ⟨W.heap.size, 0, none⟩) 2 2) (W.alloc (.cells #[.int .u8 0, .int .u8 0] 5)) := fun W => by
  obtain ⟨i0, hi, hz0, hz1, hz2⟩ := info_parts info5
  have h := run_make (P := Tryz.prog) W 48 5 i0 (.int .u8 0) Tryz.underlying48 hi hz0 .i64 .i64 2 2 (by decide) (by decide) (by rw [hz2]; decide) (by decide)
  rw [hz1, show madeCells (Value.int .u8 0).cells (Int.toNat 2 * 1) = #[.int .u8 0, .int .u8 0] by simp [madeCells, Value.cells, Array.range]; rfl] at h
  exact h
 have X_0 := Lib.hid (Blk.new w 5 #[.int .u8 0, .int .u8 0])
 have B_0 := Lib.hid ((Below.refl w.heap.size w).alloc (Nat.le_refl _) (.cells #[.int .u8 0, .int .u8 0] 5))
 go_enter Tryz.func91, Tryz.ntmps91
 go_upto_region 2 with fail
 generalize w.alloc (.cells #[.int .u8 0, .int .u8 0] 5) = v0 at X_0 B_0 ⊢
 clear hmk
 go_wp2_with fail
 refine wp_loop_rounds 3 ?_
 rw [rounds_succ]
 go_wp2_with (refine wpList_store_fld rfl 5 _ _ rfl rfl w.heap.size 1 _ 5 (.int .u8 (n % 256)) rfl rfl X_0.out (Nat.le_of_ble_eq_true rfl) (by kernel_rfl) rfl ?_)
 intro v1 ev
 have X_1 := Lib.hid (show Blk v1 w.heap.size 5 #[.int .u8 0, .int .u8 (n % 256)] by rw [ev]; exact X_0.out.set_ 1 _)
 have B_1 := Lib.hid (show Below w.heap.size w v1 by rw [ev]; exact B_0.out.setCell (Nat.le_refl _) _)
 clear ev X_0 B_0
 go_wp2_with fail
 rw [rounds_succ]
 go_wp2_with (refine wpList_store_fld rfl 5 _ _ rfl rfl w.heap.size 0 _ 5 (.int .u8 ((n / 256) % 256)) rfl rfl X_1.out (Nat.le_of_ble_eq_true rfl) (by kernel_rfl) rfl ?_)
 intro v2 ev
 have X_2 := Lib.hid (show Blk v2 w.heap.size 5 #[.int .u8 ((n / 256) % 256), .int .u8 (n % 256)] by rw [ev]; exact X_1.out.set_ 0 _)
 have B_2 := Lib.hid (show Below w.heap.size w v2 by rw [ev]; exact B_1.out.setCell (Nat.le_refl _) _)
 clear ev X_1 B_1
 go_wp2_with fail
 rw [rounds_succ]
 go_wp2_with fail
 go_ret
 have hcs : (#[.int .u8 ((n / 256) % 256), .int .u8 (n % 256)] : Array Value) = (Lib.byteCells (num2 n)).toArray := by
  simp [Lib.byteCells, num2, u8_toNat]
 exact ⟨w.heap.size, 2, rfl, bs_blk X_2.out (Nat.le_refl _) (num2 n) 2 rfl hcs (by unfold maxLen; rw [num2_len]; omega), B_2.out⟩
set_option maxRecDepth 100000 in
set_option maxHeartbeats 2000000 in
theorem ratom_any (s : ByteArray) (hs : s.size ≤ 200000) (w : World) : Calls Tryz.prog 90 #[.string s] w (BR (atomB s) w) := by
 have L0 := lit_bs w #[.int .u8 119, .int .u8 ((s.size : Int) % 256)] [119, u8 s.size] 2 rfl (by simp [Lib.byteCells, u8_toNat]) (by unfold maxLen; simp)
 obtain ⟨g, cap, W2, hrun, hbs, hf⟩ := bs_str L0 s (by simp) (by simp; omega) (by simp)
 have HRN := Lib.hid hrun
 have HBS := Lib.hid hbs
 have HF := Lib.hid (((Below.refl w.heap.size w).alloc (Nat.le_refl _) (.cells #[.int .u8 119, .int .u8 ((s.size : Int) % 256)] 5)).trans hf.below)
 clear hrun hbs hf L0
 go_enter Tryz.func90, Tryz.ntmps90
 go_wp2_with (at_builtin; refine wpList_append_run rfl _ _ 48 9 rfl rfl rfl HRN.out ?_)
 go_wp2_with fail
 go_ret
 have e : (atomB s).length = 2 + s.size := by rw [atomB_len]; omega
 refine ⟨g, cap, by rw [e]; rfl, ?_, HF.out⟩
 rw [e]
 exact HBS.out
set_option maxRecDepth 100000 in
set_option maxHeartbeats 2000000 in
theorem rint_any (n : Int) (hn : -9223372036854775808 ≤ n ∧ n ≤ 9223372036854775807) (w : World) : Calls Tryz.prog 89 #[.int .i64 n] w (BR (intB n) w) := by
 by_cases h1 : 0 ≤ n ∧ n < 256
 ·
  have e : intB n = [97, u8 n] := by unfold intB; rw [if_pos h1]
  rw [e]
  obtain ⟨h1a, h1b⟩ := h1
  have d1 : decide (0 ≤ n) = true := decide_eq_true h1a
  have d2 : decide (n ≤ 255) = true := decide_eq_true (by omega)
  have L0 := Lib.hid (lit_bs w #[.int .u8 97, .int .u8 (n % 256)] [97, u8 n] 2 rfl (by simp [Lib.byteCells, u8_toNat]) (by unfold maxLen; simp))
  clear e hn h1a h1b
  go_enter Tryz.func89, Tryz.ntmps89
  go_wp2_with fail
  go_ret
  exact ⟨w.heap.size, 2, rfl, L0.out, (Below.refl _ _).alloc (Nat.le_refl _) _⟩
 ·
  by_cases h2 : -2147483648 ≤ n ∧ n < 2147483648
  ·
   have e : intB n = 98 :: num4 n := by unfold intB; rw [if_neg h1, if_pos h2]
   have d3 : decide (-2147483648 ≤ n) = true := decide_eq_true h2.1
   have d4 : decide (n ≤ 2147483647) = true := decide_eq_true (by omega)
   have L0 := Lib.hid (lit_bs w #[.int .u8 98] [98] 1 rfl (by simp [Lib.byteCells]) (by unfold maxLen; simp))
   have B0 := Lib.hid ((Below.refl w.heap.size w).alloc (Nat.le_refl _) (.cells #[.int .u8 98] 5))
   have C0 := Lib.hid (rnum4 n (w.alloc (.cells #[.int .u8 98] 5)))
   have hE := Lib.hid e
   clear e hn h2
   have main : Calls Tryz.prog 89 #[.int .i64 n] w (BR (98 :: num4 n) w) := by
    by_cases h0 : 0 ≤ n
    ·
     have d1 : decide (0 ≤ n) = true := decide_eq_true h0
     have d2 : decide (n ≤ 255) = false := decide_eq_false (by omega)
     clear h0 h1
     go_enter Tryz.func89, Tryz.ntmps89
     go_wp2_with fail
     refine C0.out.mono ?_
     rintro e w1 ⟨g, cap, rfl, k1, b1⟩
     have l1 := Sl.below L0.out b1 (fun g hg => (Sl.lt L0.out g hg).2)
     obtain ⟨g2, cap2, W2, hrun, hbs, hf⟩ := bs_app l1 k1 (by simp [num4]) (by simp [num4]) (by have := B0.out.size; have := b1.size; omega)
     have HRN := Lib.hid hrun
     have HBS := Lib.hid hbs
     have HB := Lib.hid ((B0.out.trans (b1.mono B0.out.size)).trans hf.below)
     clear k1 b1 l1 hrun hbs hf
     rw [show (num4 n).length = 4 from rfl] at HRN ⊢
     go_wp2_with (at_builtin; refine wpList_append_run rfl _ _ 48 48 rfl rfl rfl HRN.out ?_)
     go_wp2_with fail
     go_ret
     exact ⟨g2, cap2, rfl, HBS.out, HB.out⟩
    ·
     have d1 : decide (0 ≤ n) = false := decide_eq_false h0
     clear h0 h1
     go_enter Tryz.func89, Tryz.ntmps89
     go_wp2_with fail
     refine C0.out.mono ?_
     rintro e w1 ⟨g, cap, rfl, k1, b1⟩
     have l1 := Sl.below L0.out b1 (fun g hg => (Sl.lt L0.out g hg).2)
     obtain ⟨g2, cap2, W2, hrun, hbs, hf⟩ := bs_app l1 k1 (by simp [num4]) (by simp [num4]) (by have := B0.out.size; have := b1.size; omega)
     have HRN := Lib.hid hrun
     have HBS := Lib.hid hbs
     have HB := Lib.hid ((B0.out.trans (b1.mono B0.out.size)).trans hf.below)
     clear k1 b1 l1 hrun hbs hf
     rw [show (num4 n).length = 4 from rfl] at HRN ⊢
     go_wp2_with (at_builtin; refine wpList_append_run rfl _ _ 48 48 rfl rfl rfl HRN.out ?_)
     go_wp2_with fail
     go_ret
     exact ⟨g2, cap2, rfl, HBS.out, HB.out⟩
   rw [hE.out]
   exact main
  ·
   obtain ⟨m, hm⟩ : ∃ m, m = n.natAbs := ⟨_, rfl⟩
   have hm1 : 2147483648 ≤ m ∧ m ≤ 9223372036854775808 := by omega
   have e : intB n = 110 :: u8 (leB m).length :: signB n :: leB m := by unfold intB; rw [if_neg h1, if_neg h2, hm]
   have hE := Lib.hid e
   have hl8 := Lib.hid (leB_len 8 m (by omega))
   have main : Calls Tryz.prog 89 #[.int .i64 n] w (BR (110 :: u8 (leB m).length :: signB n :: leB m) w) := by
    by_cases h0 : n < 0
    ·
     have d0 : decide (n < 0) = true := decide_eq_true h0
     have d1 : decide (0 ≤ n) = false := decide_eq_false (by omega)
     have d3 : decide (-2147483648 ≤ n) = false := decide_eq_false (by omega)
     have e1 : IntKind.u64.wrap n = n + 18446744073709551616 := by rw [IntKind.wrap_u64]; omega
     have e2 : IntKind.u64.wrap (-(n + 18446744073709551616)) = (m : Int) := by rw [IntKind.wrap_u64]; omega
     have hs : Hid (signB n = 1) := Lib.hid (by unfold signB; rw [if_pos h0])
     clear e h1 h2 hn hm h0
     go_enter Tryz.func89, Tryz.ntmps89
     go_wp2_with fail
     go_loopw [4, 5] (fun u v wr => ∃ (k : Nat) (acc : List UInt8) (sa : Option Addr) (cap : Nat), k ≤ 9223372036854775808 ∧ u = .int .u64 (k : Int) ∧ v = .slice sa acc.length cap ∧ Hid (leB m = acc ++ leB k) ∧ Hid (BS wr w.heap.size v acc) ∧ Hid (Below w.heap.size w wr)) (fun u _ _ => (intOf u).toNat)
     case atStart => exact ⟨m, [], none, 0, hm1.2, rfl, rfl, Lib.hid rfl, Lib.hid (Sl.nil _ _ _ _ _), Lib.hid (Below.refl _ _)⟩
     case round =>
      obtain ⟨k, acc, sa, cap, hk, rfl, rfl, HL, HB, HW⟩ := hrel
      obtain ⟨al, hal⟩ : ∃ al, al = acc.length := ⟨_, rfl⟩
      have HAL := Lib.hid hal
      rw [← hal] at HB ⊢
      clear hal
      by_cases hk0 : 0 < k
      ·
       have du : decide ((0 : Int) < k) = true := decide_eq_true (by omega)
       have l1 := lit_bs wr #[.int .u8 ((k : Int) % 256)] [u8 k] 1 rfl (by simp [Lib.byteCells, u8_toNat]) (by unfold maxLen; simp)
       have a1 : BS (wr.alloc (.cells #[.int .u8 ((k : Int) % 256)] 5)) w.heap.size (.slice sa al cap) acc := Sl.below HB.out ((Below.refl _ _).alloc (Nat.le_refl _) _) (fun g hg => (Sl.lt HB.out g hg).2)
       have hacc : acc.length + (leB k).length ≤ 8 := by have := hl8.out; rw [HL.out, List.length_append] at this; omega
       have hle : leB k = u8 k :: leB (k / 256) := leB_pos (by omega)
       obtain ⟨g2, cap2, W2, hrun, hbs, hf⟩ := bs_app a1 l1 (by simp) (by simp; omega) (by have := HW.out.size; simp; omega)
       have HL2 : Hid (leB m = (acc ++ [u8 k]) ++ leB (k / 256)) := Lib.hid (by rw [HL.out, hle, List.append_assoc]; rfl)
       have HRN := Lib.hid hrun
       have HBS := Lib.hid hbs
       have HW2 := Lib.hid (((HW.out).alloc HW.out.size _).trans hf.below)
       rw [← HAL.out] at HRN HBS
       rw [show ([u8 (k : Int)] : List UInt8).length = 1 from rfl] at HRN HBS
       clear l1 a1 hrun hbs hf hle HB HW HL hacc
       go_wp2_with (at_builtin; refine wpList_append_run rfl _ _ 48 48 rfl rfl rfl HRN.out ?_)
       go_wp2_with fail
       go_roundw
       case rel => exact ⟨k / 256, acc ++ [u8 k], some ⟨g2, 0, none⟩, cap2, by omega, by go_num, by rw [HAL.out]; simp, HL2, by simpa using HBS, HW2⟩
       case measure => simp [intOf]; omega
      ·
       obtain rfl : k = 0 := by omega
       have du : decide ((0 : Int) < ((0 : Nat) : Int)) = false := rfl
       have hacc : acc = leB m := by have := HL.out; rw [leB_zero, List.append_nil] at this; exact this.symm
       have HAC := Lib.hid hacc
       have h8 := hl8.out
       rw [← hacc] at h8
       have h4 : 4 ≤ acc.length := by rw [hacc]; exact leB_len4 m hm1.1
       have hal9 : al ≤ 8 := by have := HAL.out; omega
       have hne : acc ≠ [] := by intro e; rw [e] at h4; simp at h4
       have l1 := lit_bs wr #[.int .u8 110, (.int .u8 (al : Int)), .int .u8 1] [110, u8 al, signB n] 3 rfl (by rw [hs.out]; simp [Lib.byteCells, u8_toNat]; omega) (by unfold maxLen; simp)
       have a1 : BS (wr.alloc (.cells #[.int .u8 110, (.int .u8 (al : Int)), .int .u8 1] 5)) w.heap.size (.slice sa al cap) acc := Sl.below HB.out ((Below.refl _ _).alloc (Nat.le_refl _) _) (fun g hg => (Sl.lt HB.out g hg).2)
       obtain ⟨g2, cap2, W2, hrun, hbs, hf⟩ := bs_app (B := w.heap.size) (Sl.mono l1 HW.out.size) a1 hne (by simp; omega) (by have := HW.out.size; simp; omega)
       have HRN := Lib.hid hrun
       have HBS := Lib.hid hbs
       have HW2 := Lib.hid (((HW.out).alloc HW.out.size _).trans hf.below)
       rw [← HAL.out] at HRN HBS
       rw [show ([110, u8 (al : Int), signB n] : List UInt8).length = 3 from rfl] at HRN HBS
       clear l1 a1 hrun hbs hf h8 h4 hne hacc HB HW HL
       rw [Int.natCast_zero]
       go_wp2_with (at_builtin; refine wpList_append_run rfl _ _ 48 48 rfl rfl rfl HRN.out ?_)
       go_wp2_with fail
       go_ret
       refine ⟨g2, cap2, ?_, ?_, HW2.out⟩
       ·
        rw [← HAC.out]
        have := HAL.out
        simp
        omega
       ·
        rw [← HAC.out]
        have := HBS.out
        rw [HAL.out] at this
        have e2 : (110 :: u8 (acc.length : Int) :: signB n :: acc).length = 3 + acc.length := by simp; omega
        rw [e2]
        exact this
    ·
     have d0 : decide (n < 0) = false := decide_eq_false h0
     have d1 : decide (0 ≤ n) = true := decide_eq_true (by omega)
     have d2 : decide (n ≤ 255) = false := decide_eq_false (by omega)
     have d3 : decide (-2147483648 ≤ n) = true := decide_eq_true (by omega)
     have d4 : decide (n ≤ 2147483647) = false := decide_eq_false (by omega)
     have e1 : IntKind.u64.wrap n = (m : Int) := by rw [IntKind.wrap_u64]; omega
     have hs : Hid (signB n = 0) := Lib.hid (by unfold signB; rw [if_neg h0])
     clear e h1 h2 hn hm h0
     go_enter Tryz.func89, Tryz.ntmps89
     go_wp2_with fail
     go_loopw [4, 5] (fun u v wr => ∃ (k : Nat) (acc : List UInt8) (sa : Option Addr) (cap : Nat), k ≤ 9223372036854775808 ∧ u = .int .u64 (k : Int) ∧ v = .slice sa acc.length cap ∧ Hid (leB m = acc ++ leB k) ∧ Hid (BS wr w.heap.size v acc) ∧ Hid (Below w.heap.size w wr)) (fun u _ _ => (intOf u).toNat)
     case atStart => exact ⟨m, [], none, 0, hm1.2, rfl, rfl, Lib.hid rfl, Lib.hid (Sl.nil _ _ _ _ _), Lib.hid (Below.refl _ _)⟩
     case round =>
      obtain ⟨k, acc, sa, cap, hk, rfl, rfl, HL, HB, HW⟩ := hrel
      obtain ⟨al, hal⟩ : ∃ al, al = acc.length := ⟨_, rfl⟩
      have HAL := Lib.hid hal
      rw [← hal] at HB ⊢
      clear hal
      by_cases hk0 : 0 < k
      ·
       have du : decide ((0 : Int) < k) = true := decide_eq_true (by omega)
       have l1 := lit_bs wr #[.int .u8 ((k : Int) % 256)] [u8 k] 1 rfl (by simp [Lib.byteCells, u8_toNat]) (by unfold maxLen; simp)
       have a1 : BS (wr.alloc (.cells #[.int .u8 ((k : Int) % 256)] 5)) w.heap.size (.slice sa al cap) acc := Sl.below HB.out ((Below.refl _ _).alloc (Nat.le_refl _) _) (fun g hg => (Sl.lt HB.out g hg).2)
       have hacc : acc.length + (leB k).length ≤ 8 := by have := hl8.out; rw [HL.out, List.length_append] at this; omega
       have hle : leB k = u8 k :: leB (k / 256) := leB_pos (by omega)
       obtain ⟨g2, cap2, W2, hrun, hbs, hf⟩ := bs_app a1 l1 (by simp) (by simp; omega) (by have := HW.out.size; simp; omega)
       have HL2 : Hid (leB m = (acc ++ [u8 k]) ++ leB (k / 256)) := Lib.hid (by rw [HL.out, hle, List.append_assoc]; rfl)
       have HRN := Lib.hid hrun
       have HBS := Lib.hid hbs
       have HW2 := Lib.hid (((HW.out).alloc HW.out.size _).trans hf.below)
       rw [← HAL.out] at HRN HBS
       rw [show ([u8 (k : Int)] : List UInt8).length = 1 from rfl] at HRN HBS
       clear l1 a1 hrun hbs hf hle HB HW HL hacc
       go_wp2_with (at_builtin; refine wpList_append_run rfl _ _ 48 48 rfl rfl rfl HRN.out ?_)
       go_wp2_with fail
       go_roundw
       case rel => exact ⟨k / 256, acc ++ [u8 k], some ⟨g2, 0, none⟩, cap2, by omega, by go_num, by rw [HAL.out]; simp, HL2, by simpa using HBS, HW2⟩
       case measure => simp [intOf]; omega
      ·
       obtain rfl : k = 0 := by omega
       have du : decide ((0 : Int) < ((0 : Nat) : Int)) = false := rfl
       have hacc : acc = leB m := by have := HL.out; rw [leB_zero, List.append_nil] at this; exact this.symm
       have HAC := Lib.hid hacc
       have h8 := hl8.out
       rw [← hacc] at h8
       have h4 : 4 ≤ acc.length := by rw [hacc]; exact leB_len4 m hm1.1
       have hal9 : al ≤ 8 := by have := HAL.out; omega
       have hne : acc ≠ [] := by intro e; rw [e] at h4; simp at h4
       have l1 := lit_bs wr #[.int .u8 110, (.int .u8 (al : Int)), .int .u8 0] [110, u8 al, signB n] 3 rfl (by rw [hs.out]; simp [Lib.byteCells, u8_toNat]; omega) (by unfold maxLen; simp)
       have a1 : BS (wr.alloc (.cells #[.int .u8 110, (.int .u8 (al : Int)), .int .u8 0] 5)) w.heap.size (.slice sa al cap) acc := Sl.below HB.out ((Below.refl _ _).alloc (Nat.le_refl _) _) (fun g hg => (Sl.lt HB.out g hg).2)
       obtain ⟨g2, cap2, W2, hrun, hbs, hf⟩ := bs_app (B := w.heap.size) (Sl.mono l1 HW.out.size) a1 hne (by simp; omega) (by have := HW.out.size; simp; omega)
       have HRN := Lib.hid hrun
       have HBS := Lib.hid hbs
       have HW2 := Lib.hid (((HW.out).alloc HW.out.size _).trans hf.below)
       rw [← HAL.out] at HRN HBS
       rw [show ([110, u8 (al : Int), signB n] : List UInt8).length = 3 from rfl] at HRN HBS
       clear l1 a1 hrun hbs hf h8 h4 hne hacc HB HW HL
       rw [Int.natCast_zero]
       go_wp2_with (at_builtin; refine wpList_append_run rfl _ _ 48 48 rfl rfl rfl HRN.out ?_)
       go_wp2_with fail
       go_ret
       refine ⟨g2, cap2, ?_, ?_, HW2.out⟩
       ·
        rw [← HAC.out]
        have := HAL.out
        simp
        omega
       ·
        rw [← HAC.out]
        have := HBS.out
        rw [HAL.out] at this
        have e2 : (110 :: u8 (acc.length : Int) :: signB n :: acc).length = 3 + acc.length := by simp; omega
        rw [e2]
        exact this
   rw [hE.out]
   exact main
end Go.Proofs.YtemlogadbopffaaGreat
