/- What the reference store's methods do, said of a list of rows. -/
import Derived.Test.YtfgnagnnmibmaaaAwake
import Derived.Deep.RegionLaw
namespace Go.Proofs.Ytfgnagnnmibmaaa
open Go.RowKit Go.Mp

abbrev Blob := Int × ByteArray × Int
def bc (b : Blob) : List Value := [.int .i64 b.1, .string b.2.1, .int .i64 b.2.2]
def rowOf (L : List Blob) : List Value := L.flatMap bc
theorem rowOf_length (L : List Blob) : (rowOf L).length = L.length * 3 := by
  induction L with
  | nil => rfl
  | cons b r ih => simp only [rowOf, List.flatMap_cons, List.length_append] at *; rw [ih]; simp [bc]; omega
theorem rowOf_at (L : List Blob) (i j : Nat) (hi : i < L.length) (hj : j < 3) : (rowOf L)[i * 3 + j]? = (bc L[i])[j]? := by
  induction L generalizing i with
  | nil => simp at hi
  | cons b r ih =>
    have hb : (bc b).length = 3 := rfl
    cases i with
    | zero => simp only [rowOf, List.flatMap_cons]; rw [List.getElem?_append_left (by omega)]; simp
    | succ k =>
      simp only [rowOf, List.flatMap_cons]
      rw [List.getElem?_append_right (by omega), show (k + 1) * 3 + j - (bc b).length = k * 3 + j by rw [hb]; omega]
      exact ih k (by simpa using hi)

/-- The reference store in memory: its block, its row of blobs. -/
structure RA (w : World) (base R : Nat) (v : Value) (L : List Blob) (g : Int) : Prop where
  blk : w.heap[R]? = some (.cells #[v, .int .i64 g] 32 (0, 0))
  row : w.ownsRow base 37 3 v L.length (rowOf L)
  le : base ≤ R

section
variable {w : World} {base R : Nat} {v : Value} {L : List Blob} {g : Int}
theorem RA.c0 (h : RA w base R v L g) : w.cell? ⟨R, 0, none⟩ = some v := by simp [World.cell?, h.blk]
theorem RA.c1 (h : RA w base R v L g) : w.cell? ⟨R, 1, none⟩ = some (.int .i64 g) := by simp [World.cell?, h.blk]
theorem RA.f (h : RA w base R v L g) (o : Nat) : w.frozen? ⟨R, o, none⟩ = false := by simp [World.frozen?, h.blk]
theorem RA.lt (h : RA w base R v L g) : R < w.heap.size := (Array.getElem?_eq_some_iff.1 h.blk).1
theorem RA.val (h : RA w base R v L g) : (v = .slice none 0 0 ∧ L = []) ∨ ∃ b cap, v = .slice (some ⟨b, 0, none⟩) L.length cap ∧ L.length ≤ cap ∧ cap ≤ maxLen ∧ base ≤ b ∧ b < w.heap.size ∧ b ≠ R := by
  rcases h.row.2 with ⟨h1, h2⟩ | ⟨b, cap, cur, h1, h2, h3, h4, h5, _⟩
  · exact .inl ⟨h1, List.eq_nil_of_length_eq_zero h2⟩
  · refine .inr ⟨b, cap, h1, h4, h5, h2, (Array.getElem?_eq_some_iff.1 h3).1, ?_⟩
    rintro rfl
    rw [h.blk] at h3
    simp at h3
theorem RA.at {b cap : Nat} (h : RA w base R (.slice (some ⟨b, 0, none⟩) L.length cap) L g) (i j : Nat) (hi : i < L.length) (hj : j < 3) : w.cell? ⟨b, i * 3 + j, none⟩ = (bc L[i])[j]? := by
  rw [h.row.cellAt (i * 3 + j) (by omega), rowOf_at L i j hi hj]
end

theorem rowOf_set2 (L : List Blob) (k : Nat) (hk : k < L.length) (c : Int) : (rowOf L).set (k * 3 + 2) (.int .i64 c) = rowOf (L.set k (L[k].1, L[k].2.1, c)) := by
  induction L generalizing k with
  | nil => simp at hk
  | cons b r ih =>
    have hb : (bc b).length = 3 := rfl
    cases k with
    | zero => simp only [rowOf, List.flatMap_cons, List.set_cons_zero]; rw [List.set_append_left _ _ (by omega)]; rfl
    | succ j =>
      simp only [rowOf, List.flatMap_cons, List.set_cons_succ]
      rw [List.set_append_right _ _ (by omega), show (j + 1) * 3 + 2 - (bc b).length = j * 3 + 2 by rw [hb]; omega]
      have := ih j (by simpa using hk)
      simp only [rowOf] at this
      rw [this]
      simp

theorem RA.set {w : World} {base R : Nat} {L : List Blob} {g : Int} {b cap : Nat} (h : RA w base R (.slice (some ⟨b, 0, none⟩) L.length cap) L g) (hbR : b ≠ R) (k : Nat) (hk : k < L.length) (c : Int) :
    RA (w.setCell ⟨b, k * 3 + 2, none⟩ (.int .i64 c)) base R (.slice (some ⟨b, 0, none⟩) L.length cap) (L.set k (L[k].1, L[k].2.1, c)) g ∧ Only [R, b] w (w.setCell ⟨b, k * 3 + 2, none⟩ (.int .i64 c)) := by
  refine ⟨⟨?_, ?_, h.le⟩, Only.setCell _ _ _ (by simp)⟩
  · rw [Below.heap_setCell _ _ _ _ (Ne.symm hbR)]; exact h.blk
  · have := (h.row.stored (k * 3 + 2) (.int .i64 c)).1
    rw [rowOf_set2 L k hk] at this
    simpa using this

def findI (L : List Blob) (id : Int) : Int := match L.findIdx? (fun b => b.1 == id) with | some i => i | none => -1

theorem findIdx_of {α : Type} (q : α → Bool) (L : List α) (k : Nat) (hk : k < L.length) (hq : q L[k] = true) (hpre : ∀ j (hj : j < L.length), j < k → q L[j] = false) : L.findIdx? q = some k := by
  rw [List.findIdx?_eq_some_iff_getElem]
  exact ⟨hk, hq, fun j hj => by simp [hpre j (by omega) hj]⟩
theorem findIdx_no {α : Type} (q : α → Bool) (L : List α) (hpre : ∀ j (hj : j < L.length), q L[j] = false) : L.findIdx? q = none := by
  rw [List.findIdx?_eq_none_iff]
  intro x hx
  obtain ⟨j, hj, rfl⟩ := List.getElem_of_mem hx
  exact hpre j hj

theorem findI_of (L : List Blob) (id : Int) (k : Nat) (hk : k < L.length) (hq : (L[k].1 == id) = true) (hpre : Hid (∀ j (hj : j < L.length), j < k → (L[j].1 == id) = false)) : findI L id = k := by
  unfold findI; rw [findIdx_of _ L k hk hq hpre.out]
theorem findI_no (L : List Blob) (id : Int) (k : Nat) (hk : ¬ k < L.length) (hpre : Hid (∀ j (hj : j < L.length), j < k → (L[j].1 == id) = false)) : findI L id = -1 := by
  unfold findI; rw [findIdx_no _ L (fun j hj => hpre.out j hj (by omega))]
theorem pre_succ {α : Type} {q : α → Bool} {L : List α} {k : Nat} (hk : k < L.length) (hq : q L[k] = false) (hpre : Hid (∀ j (hj : j < L.length), j < k → q L[j] = false)) : Hid (∀ j (hj : j < L.length), j < k + 1 → q L[j] = false) := by
  intro j hj hjk
  by_cases e : j = k
  · subst e; exact hq
  · exact hpre.out j hj (by omega)
theorem ret_int {k : IntKind} {a b : Int} (h : a = b) : Ending.returned (.int k a) = .returned (.int k b) := by rw [h]

theorem find_any {base R : Nat} {v : Value} {L : List Blob} {g : Int} (w : World) (h : RA w base R v L g) (id : Int) :
    Calls Try.prog 32 #[.pointer (some ⟨R, 0, none⟩), .int .i64 id] w fun e w' => e = .returned (.int .i64 (findI L id)) ∧ w = w' := by
  have c0 := h.c0
  rcases h.val with ⟨rfl, rfl⟩ | ⟨b, cap, rfl, hlc, hcm, hbb, hbl, hbR⟩
  · go_enter Try.func32, Try.ntmps32
    go_wp2
    refine wp_loop_rounds 1 ?_
    rw [rounds_succ]
    go_wp2
    go_ret
    exact ⟨rfl, rfl⟩
  · unfold maxLen at hcm
    go_enter Try.func32, Try.ntmps32
    go_wp2
    go_loop [5] (fun i => ∃ k : Nat, k ≤ L.length ∧ i = .int .i64 k ∧ Hid (∀ j (hj : j < L.length), j < k → (L[j].1 == id) = false)) (fun i => L.length - (intOf i).toNat)
    case atStart => exact ⟨0, Nat.zero_le _, rfl, fun j _ hj => absurd hj (Nat.not_lt_zero _)⟩
    case round =>
      obtain ⟨k, hk, rfl, hpre⟩ := hrel
      by_cases hlt : k < L.length
      · have hc := h.at k 0 hlt (by omega)
        simp only [bc, List.getElem?_cons_zero, Nat.add_zero] at hc
        cases hq : (L[k].1 == id)
        · go_wp2
          go_round
          case rel => exact ⟨k + 1, by omega, by go_num, pre_succ (q := fun b : Blob => b.1 == id) hlt hq hpre⟩
          case measure => simp [intOf]; omega
        · go_wp2
          go_ret
          exact ⟨ret_int (findI_of L id k hlt hq hpre).symm, rfl⟩
      · go_wp2
        go_ret
        exact ⟨ret_int (findI_no L id k hlt hpre).symm, rfl⟩

theorem seq_str (a b : ByteArray) : (a.toList == b.toList) = decide (a = b) := by
  rw [ByteArray.toList_eq, ByteArray.toList_eq, Bool.eq_iff_iff]
  simp
  constructor
  · intro h; cases a; cases b; simpa using h
  · rintro rfl; rfl
theorem seq_yes {a b : ByteArray} (h : a = b) : (a.toList == b.toList) = true := by rw [seq_str]; simp [h]
theorem seq_no {a b : ByteArray} (h : a ≠ b) : (a.toList == b.toList) = false := by rw [seq_str]; simp [h]

theorem rput_long {R : Nat} (w : World) (s : ByteArray) (hs : 2048 < s.size) (hs2 : s.size ≤ 9223372036854775807) :
    Calls Try.prog 25 #[.pointer (some ⟨R, 0, none⟩), .string s] w fun e w' => e = .returned (.tuple #[.int .i64 0, .int .i64 3]) ∧ w = w' := by
  have hd : (2048 : Int) < s.size := by omega
  go_enter Try.func25, Try.ntmps25
  go_wp2
  go_ret2
  exact ⟨rfl, rfl⟩

set_option maxHeartbeats 400000 in
theorem rput_old {base R : Nat} {v : Value} {L : List Blob} {g : Int} (w : World) (h : RA w base R v L g) (s : ByteArray) (hs : s.size ≤ 2048) (m : Nat) (hm : m < L.length) (hms0 : L[m].2.1 = s)
    (hfirst : ∀ j (hj : j < L.length), j < m → L[j].2.1 ≠ s) (c : Int) (hc : L[m].2.2 = c) (hc0 : 0 ≤ c) (hc1 : c ≤ 1000000000000) :
    Calls Try.prog 25 #[.pointer (some ⟨R, 0, none⟩), .string s] w fun e w' => e = .returned (.tuple #[.int .i64 L[m].1, .int .i64 0]) ∧ RA w' base R v (L.set m (L[m].1, L[m].2.1, c + 1)) g ∧ Only (R :: v.ownBlock.toList) w w' := by
  have c0 := h.c0
  rcases h.val with ⟨rfl, rfl⟩ | ⟨b, cap, rfl, hlc, hcm, hbb, hbl, hbR⟩
  · simp at hm
  · unfold maxLen at hcm
    have hd : ¬ (2048 : Int) < s.size := by omega
    have HF := Lib.hid hfirst
    have hset := h.set hbR m hm (c + 1)
    have HS := Lib.hid hset
    have cm0 := h.at m 0 hm (by omega)
    have cm2 := h.at m 2 hm (by omega)
    have fm2 := h.row.frozenAt (m * 3 + 2)
    simp only [bc, List.getElem?_cons_zero, List.getElem?_cons_succ, Nat.add_zero, hc] at cm0 cm2
    have hms := seq_yes hms0
    clear hfirst hset hc hms0
    go_enter Try.func25, Try.ntmps25
    go_wp2
    go_loop [6] (fun i => ∃ k : Nat, k ≤ m ∧ i = .int .i64 k) (fun i => L.length - (intOf i).toNat)
    case atStart => exact ⟨0, Nat.zero_le _, rfl⟩
    case round =>
      obtain ⟨k, hk, rfl⟩ := hrel
      have hlt : k < L.length := by omega
      by_cases hkm : k = m
      · subst hkm
        have hcs := h.at k 1 hlt (by omega)
        simp only [bc, List.getElem?_cons_zero, List.getElem?_cons_succ] at hcs
        clear hk
        go_wp2
        go_ret2
        exact ⟨rfl, HS.out.1, HS.out.2⟩
      · have hq := seq_no (HF.out k hlt (by omega))
        have hcs := h.at k 1 hlt (by omega)
        simp only [bc, List.getElem?_cons_zero, List.getElem?_cons_succ] at hcs
        have hkm' : k < m := by omega
        clear hkm cm0 cm2 fm2
        go_wp2
        go_round
        case rel => exact ⟨k + 1, by omega, by go_num⟩
        case measure => simp [intOf]; omega

theorem info37 : (Try.prog.info? 37).map (fun i => (i.zero, i.size, i.bytes)) = some (some (.agg #[.int .i64 0, .string ByteArray.empty, .int .i64 0]), 3, 32) := by kernel_rfl
theorem u30 : Try.prog.underlying 30 = some (.slice 37) := by kernel_rfl

theorem RA.bump {w : World} {base R : Nat} {v : Value} {L : List Blob} {g : Int} (h : RA w base R v L g) (g' : Int) : RA (w.setCell ⟨R, 1, none⟩ (.int .i64 g')) base R v L g' := by
  refine ⟨?_, ?_, h.le⟩
  · obtain ⟨hlt, hk⟩ := Array.getElem?_eq_some_iff.1 h.blk
    show (w.heap.modify R _)[R]? = _
    rw [Array.getElem?_eq_getElem (by rw [Array.size_modify]; exact hlt), Array.getElem_modify_self, hk]
    rfl
  · refine h.row.kept (row := some R) ⟨rfl, rfl, rfl, by simp [World.setCell], fun k _ hk => Below.heap_setCell _ _ _ _ (fun e => hk (by rw [e]))⟩ ?_
    rcases h.val with ⟨rfl, _⟩ | ⟨b, cap, rfl, _, _, _, _, hbR⟩
    · exact .inl rfl
    · exact .inr (by simp [Value.ownBlock, hbR])

theorem rowOf_snoc (L : List Blob) (b : Blob) : rowOf (L ++ [b]) = rowOf L ++ bc b := by simp [rowOf]

theorem new_cells (w : World) (b : Blob) (t : TypeId) (j : Nat) (u : Value) (h : (bc b)[j]? = some u) : (w.alloc (.cells (bc b).toArray t)).drew.cell? ((⟨w.heap.size, 0, none⟩ : Addr).add j) = some u := by
  have e : (w.alloc (.cells (bc b).toArray t)).drew.heap[w.heap.size]? = some (.cells (bc b).toArray t (0, 0)) := World.alloc_heap_new w _
  have e2 : ((⟨w.heap.size, 0, none⟩ : Addr).add j) = ⟨w.heap.size, j, none⟩ := by
    unfold Addr.add
    split <;> simp_all
  rw [e2]
  simp only [World.cell?, e]
  simpa using h

/-- An append whose run is known, as a step of a region that draws. -/
theorem step_append_run {P : Program} {ops : Array Oper} {o : Oper} {a : Act} {w w' : World} {K : Act → World → Prop} {Q : Exit → Act → World → Prop} {E : Prop} {v src v' : Value}
    (hg : o.guard = none) (s x : Operand) (t : TypeId) (hop : o.op = Op.call { callee := Callee.builtin Builtin.append, args := #[s, x], argTypes := #[t, t] })
    (hs : a.eval s = v) (hx : a.eval x = src) (hrun : (Builtin.append_ #[t, t] o.type #[v, src]).run P w = .ok v' w') (hK : K (a.put o.dst v') w') :
    if Region.wanted o (yielded ops a.tmps) = true then Oper.wp P o a w K Q else E := by
  have hw : Region.wanted o (yielded ops a.tmps) = true := by simp [Region.wanted, hg]
  rw [if_pos hw]
  unfold Oper.wp
  simp [execOp, hop, resolve, invoke, builtin, hs, hx, hrun, Result.andThen]
  exact hK

theorem RA.store0 {w : World} {base R : Nat} {v v' : Value} {L' : List Blob} {g : Int} (hb : w.heap[R]? = some (.cells #[v, .int .i64 g] 32 (0, 0))) (hle : base ≤ R) (hrow : w.ownsRow base 37 3 v' L'.length (rowOf L')) :
    RA (w.setCell ⟨R, 0, none⟩ v') base R v' L' g := by
  have hb' : (w.setCell ⟨R, 0, none⟩ v').heap[R]? = some (.cells #[v', .int .i64 g] 32 (0, 0)) := by
    obtain ⟨hlt, hk⟩ := Array.getElem?_eq_some_iff.1 hb
    show (w.heap.modify R _)[R]? = _
    rw [Array.getElem?_eq_getElem (by rw [Array.size_modify]; exact hlt), Array.getElem_modify_self, hk]
    rfl
  refine ⟨hb', ?_, hle⟩
  refine hrow.kept (row := some R) ⟨rfl, rfl, rfl, by simp [World.setCell], fun k _ hk => Below.heap_setCell _ _ _ _ (fun e => hk (by rw [e]))⟩ ?_
  rcases hrow.2 with ⟨rfl, _⟩ | ⟨b, cap, cur, rfl, _, hg, _⟩
  · exact .inl rfl
  · refine .inr ?_
    intro e
    simp [Value.ownBlock] at e
    subst e
    rw [hb] at hg
    simp at hg

theorem Only.of_grown {bs : List Nat} {w w' : World} {row : Option Nat} (h : w.grownBy w' row) (hr : ∀ k, row = some k → k ∈ bs) : Only bs w w' :=
  ⟨h.os, h.tape, h.output, h.size, fun k hk hn => h.block k hk (fun e => hn (hr k e.symm))⟩

set_option maxHeartbeats 1000000 in
theorem rput_new {base R : Nat} {v : Value} {L : List Blob} {g : Int} (w : World) (h : RA w base R v L g) (hbase : base ≤ w.heap.size) (s : ByteArray) (hs : s.size ≤ 2048)
    (hno : ∀ j (hj : j < L.length), L[j].2.1 ≠ s) (hL : L.length ≤ 1000000) (hg0 : 0 ≤ g) (hg1 : g ≤ 1000000000000) :
    Calls Try.prog 25 #[.pointer (some ⟨R, 0, none⟩), .string s] w fun e w' => e = .returned (.tuple #[.int .i64 (g + 1), .int .i64 0]) ∧ (∃ v', RA w' base R v' (L ++ [(g + 1, s, 1)]) (g + 1)) ∧ Only (R :: v.ownBlock.toList) w w' := by
  have c0 := h.c0
  have c1 := h.c1
  have f1 := h.f 1
  have f0 := h.f 0
  obtain ⟨i0, hi, hz0, hz1, hz2⟩ := info_parts info37
  have h1 := h.bump (g + 1)
  have O1 : Only (R :: v.ownBlock.toList) w (w.setCell ⟨R, 1, none⟩ (.int .i64 (g + 1))) := Only.setCell _ _ _ (by simp)
  have hsz1 : (w.setCell ⟨R, 1, none⟩ (.int .i64 (g + 1))).heap.size = w.heap.size := by simp [World.setCell]
  obtain ⟨W1, hW1⟩ : ∃ W1, W1 = w.setCell ⟨R, 1, none⟩ (.int .i64 (g + 1)) := ⟨_, rfl⟩
  rw [← hW1] at h1 O1 hsz1
  obtain ⟨v', W2, hrun, hown, hgrow, -⟩ := run_append_own (P := Try.prog) (W1.alloc (.cells (bc (g + 1, s, 1)).toArray 37)).drew base 30 30 37 i0 _ 3 32 u30 hi hz0 hz1 hz2 rfl (by decide) v L.length (rowOf L) (h1.row.alloc _)
    ⟨W1.heap.size, 0, none⟩ 1 1 (bc (g + 1, s, 1)) rfl (fun j u hj => new_cells W1 _ _ j u hj) (by simp [bc, Value.oneCell']) (by unfold maxLen; omega) (by omega) (by simp; omega)
  rw [← rowOf_snoc] at hown
  have hlen : L.length + 1 = (L ++ [(g + 1, s, (1 : Int))]).length := by simp
  rw [hlen] at hown
  have hb2 : W2.heap[R]? = some (.cells #[v, .int .i64 (g + 1)] 32 (0, 0)) := by
    refine (hgrow.block R (by have := h1.lt; simp; omega) ?_).trans ((Below.heap_alloc _ _ _ h1.lt).trans h1.blk)
    rcases h1.val with ⟨rfl, _⟩ | ⟨b, cap, rfl, _, _, _, _, hbR⟩
    · simp [Value.ownBlock]
    · simp [Value.ownBlock, Ne.symm hbR]
  have HA := Lib.hid (RA.store0 hb2 h.le hown)
  have O2 : Only (R :: v.ownBlock.toList) W1 W2 := ((Only.alloc _ W1 _).trans (Only.drew _ _)).trans (Only.of_grown hgrow (fun k hk => by simp [hk]))
  have HO := Lib.hid ((O1.trans O2).trans (Only.setCell W2 ⟨R, 0, none⟩ v' (by simp)))
  have k0 : W2.cell? ⟨R, 0, none⟩ = some v := by simp [World.cell?, hb2]
  have kf : W2.frozen? ⟨R, 0, none⟩ = false := by simp [World.frozen?, hb2]
  have k1 : W2.cell? ⟨R, 1, none⟩ = some (.int .i64 (g + 1)) := by simp [World.cell?, hb2]
  obtain ⟨b', cap', hv'⟩ : ∃ b' cap', v' = .slice (some ⟨b', 0, none⟩) (L.length + 1) cap' := by
    rcases hown.2 with ⟨_, h0⟩ | ⟨g', cap, _, rfl, _⟩
    · simp at h0
    · exact ⟨g', cap, by simp⟩
  subst hv'
  have HN := Lib.hid hno
  have hd : ¬ (2048 : Int) < s.size := by omega
  rw [hW1] at hrun
  simp only [bc] at hrun
  rw [show (w.setCell ⟨R, 1, none⟩ (.int .i64 (g + 1))).heap.size = w.heap.size by simp [World.setCell]] at hrun
  have hRlt := h.lt
  have HR := Lib.hid hrun
  clear hno hb2 hown hgrow O1 O2 h1 hlen hsz1 hW1 hi hz0 hz1 hz2 hrun
  rcases h.val with ⟨rfl, rfl⟩ | ⟨b, cap, rfl, hlc, hcm, hbb, hbl, hbR⟩
  · go_enter Try.func25, Try.ntmps25
    go_wp2
    refine wp_loop_rounds 1 ?_
    rw [rounds_succ]
    go_wp2
    go_region_law (refine step_append_run rfl _ _ 30 rfl rfl rfl HR.out ?_)
    all_goals (go_wp2; go_ret2; exact ⟨rfl, ⟨_, HA.out⟩, HO.out⟩)
  · unfold maxLen at hcm
    go_enter Try.func25, Try.ntmps25
    go_wp2
    go_loop [6] (fun i => ∃ k : Nat, k ≤ L.length ∧ i = .int .i64 k) (fun i => L.length - (intOf i).toNat)
    case atStart => exact ⟨0, Nat.zero_le _, rfl⟩
    case round =>
      obtain ⟨k, hk, rfl⟩ := hrel
      by_cases hlt : k < L.length
      · have hq := seq_no (HN.out k hlt)
        have hcs := h.at k 1 hlt (by omega)
        simp only [bc, List.getElem?_cons_zero, List.getElem?_cons_succ] at hcs
        go_wp2
        go_round
        case rel => exact ⟨k + 1, by omega, by go_num⟩
        case measure => simp [intOf]; omega
      · go_wp2
        go_region_law (refine step_append_run rfl _ _ 30 rfl rfl rfl HR.out ?_)
        all_goals (go_wp2; go_ret2; exact ⟨rfl, ⟨_, HA.out⟩, HO.out⟩)

end Go.Proofs.Ytfgnagnnmibmaaa
