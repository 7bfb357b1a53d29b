/- DERIVED: THE SHELF's CONTRACTS AT THIS DUMP, IN PLAIN WORDS (tools/lay-plain.mjs out of 'YtekfnonjhcfdmaaDoorShelf.lean', which tools/lay-shelf.mjs wrote): THE SAME DECLARATIONS UNDER THE SAME NAMES: 'import', 'namespace', 'open', 'def', 'theorem' AND NOTHING ELSE: no command of the shelf's: FOR A HAND-IN. Each laying: the table of numbers ('.._ren') and one theorem, a field a fact of the dump's own or the kernel's comparison; each contract: ONE APPLICATION. slices.Sort, Compact, Reverse over a slice of the call's own; a sorted, compacted list is the ascending one. flow.targets: the iterator hands over where an instruction may lead to. flow.Next. -/
import Derived.Shelf.SortM.Plain
import Derived.Shelf.SortM.SortNone
import Derived.Shelf.SlicesG.CompactI
import Derived.Shelf.SlicesG.Reverse
import Derived.Shelf.Spec.TrailingZeros
import Derived.Ground.SlgmProg
import Derived.Ground.SlgnProg
import Derived.Ground.Names7Prog
import Derived.Test.YtekfnonjhcfdmaaDoorProg
import Derived.Test.YtekfnonjhcfdmaaDoorBase1
import Derived.Sort.OwnSortedInts
import Derived.Lib.OwnBridge
import Derived.Shelf.Abstract
import Derived.Shelf.RegionOpen
import Derived.OwnWalkIn
import Derived.TacticsInMore
import Derived.LoopNIn
import Derived.LoopIn
import Derived.Sort.CutIn
import Derived.BigGuardIn
namespace Go.Proofs
open Go.Shelf
def Tryd.sortA_ren : Go.Shelf.Ren := ⟨fun | 5 => 33 | 8 => 57 | 7 => 56 | 19 => 72 | 20 => 73 | 10 => 63 | 11 => 64 | 12 => 65 | 13 => 66 | 14 => 67 | 15 => 68 | 16 => 69 | 17 => 70 | 18 => 71 | 30 => 74 | 31 => 75 | 32 => 76 | 33 => 77 | 34 => 78 | 35 => 79 | 40 => 80 | n => n, fun | 23 => 23 | 25 => 3 | 3 => 3 | 32 => 93 | 22 => 23 | 0 => 0 | 44 => 106 | 46 => 95 | 4 => 4 | 36 => 99 | 35 => 98 | 41 => 82 | 5 => 5 | 9 => 9 | 53 => 108 | 57 => 112 | 63 => 114 | 64 => 115 | n => n, fun | n => n⟩
theorem Tryd.sortA : Go.Proofs.SlLaysM.n5 Tryd.prog Tryd.sortA_ren := {
  mixed := by kernel_rfl
  f5 := ⟨Tryd.f33.name, by decide, Tryd.func33.trans (congrArg some (by kernel_rfl))⟩
  f7 := ⟨Tryd.f56.name, by decide, Tryd.func56.trans (congrArg some (by kernel_rfl))⟩
  f8 := Tryd.func57.trans (congrArg some (by kernel_rfl))
  f10 := ⟨Tryd.f63.name, by decide, Tryd.func63.trans (congrArg some (by kernel_rfl))⟩
  f11 := ⟨Tryd.f64.name, by decide, Tryd.func64.trans (congrArg some (by kernel_rfl))⟩
  f12 := ⟨Tryd.f65.name, by decide, Tryd.func65.trans (congrArg some (by kernel_rfl))⟩
  f13 := ⟨Tryd.f66.name, by decide, Tryd.func66.trans (congrArg some (by kernel_rfl))⟩
  f14 := ⟨Tryd.f67.name, by decide, Tryd.func67.trans (congrArg some (by kernel_rfl))⟩
  f15 := ⟨Tryd.f68.name, by decide, Tryd.func68.trans (congrArg some (by kernel_rfl))⟩
  f16 := ⟨Tryd.f69.name, by decide, Tryd.func69.trans (congrArg some (by kernel_rfl))⟩
  f17 := ⟨Tryd.f70.name, by decide, Tryd.func70.trans (congrArg some (by kernel_rfl))⟩
  f18 := ⟨Tryd.f71.name, by decide, Tryd.func71.trans (congrArg some (by kernel_rfl))⟩
  f19 := Tryd.func72.trans (congrArg some (by kernel_rfl))
  f20 := Tryd.func73.trans (congrArg some (by kernel_rfl))
  f30 := ⟨Tryd.f74.name, by decide, Tryd.func74.trans (congrArg some (by kernel_rfl))⟩
  f31 := Tryd.func75.trans (congrArg some (by kernel_rfl))
  f32 := Tryd.func76.trans (congrArg some (by kernel_rfl))
  f33 := ⟨Tryd.f77.name, by decide, Tryd.func77.trans (congrArg some (by kernel_rfl))⟩
  f34 := ⟨Tryd.f78.name, by decide, Tryd.func78.trans (congrArg some (by kernel_rfl))⟩
  f35 := ⟨Tryd.f79.name, by decide, Tryd.func79.trans (congrArg some (by kernel_rfl))⟩
  f40 := ⟨Tryd.f80.name, by decide, Tryd.func80.trans (congrArg some (by kernel_rfl))⟩
  t0 := Tryd.underlying0
  a0 := Tryd.isAgg0
  z0 := Tryd.sizeOf0
  v0 := Tryd.zeroValue0
  t3 := Tryd.underlying3
  a3 := Tryd.isAgg3
  z3 := Tryd.sizeOf3
  v3 := Tryd.zeroValue3
  t4 := Tryd.underlying4
  a4 := Tryd.isAgg4
  z4 := Tryd.sizeOf4
  v4 := Tryd.zeroValue4
  t5 := Tryd.underlying5
  a5 := Tryd.isAgg5
  z5 := Tryd.sizeOf5
  v5 := Tryd.zeroValue5
  t9 := Tryd.underlying9
  a9 := Tryd.isAgg9
  z9 := Tryd.sizeOf9
  v9 := Tryd.zeroValue9
  t22 := Tryd.underlying23
  a22 := Tryd.isAgg23
  z22 := Tryd.sizeOf23
  v22 := Tryd.zeroValue23
  t23 := Tryd.underlying23
  a23 := Tryd.isAgg23
  z23 := Tryd.sizeOf23
  v23 := Tryd.zeroValue23
  t25 := Tryd.underlying3
  a25 := Tryd.isAgg3
  z25 := Tryd.sizeOf3
  v25 := Tryd.zeroValue3
  t32 := Tryd.underlying93
  a32 := Tryd.isAgg93
  z32 := Tryd.sizeOf93
  v32 := Tryd.zeroValue93
  t35 := Tryd.underlying98
  a35 := Tryd.isAgg98
  z35 := Tryd.sizeOf98
  v35 := Tryd.zeroValue98
  t36 := Tryd.underlying99
  a36 := Tryd.isAgg99
  z36 := Tryd.sizeOf99
  v36 := Tryd.zeroValue99
  t41 := Tryd.underlying82
  a41 := Tryd.isAgg82
  z41 := Tryd.sizeOf82
  v41 := Tryd.zeroValue82
  t44 := Tryd.underlying106
  a44 := Tryd.isAgg106
  z44 := Tryd.sizeOf106
  v44 := Tryd.zeroValue106
  t46 := Tryd.underlying95
  a46 := Tryd.isAgg95
  z46 := Tryd.sizeOf95
  v46 := Tryd.zeroValue95
  t53 := Tryd.underlying108
  a53 := Tryd.isAgg108
  z53 := Tryd.sizeOf108
  v53 := Tryd.zeroValue108
  t57 := Tryd.underlying112
  a57 := Tryd.isAgg112
  z57 := Tryd.sizeOf112
  v57 := Tryd.zeroValue112
  t63 := Tryd.underlying114
  a63 := Tryd.isAgg114
  z63 := Tryd.sizeOf114
  v63 := Tryd.zeroValue114
  t64 := Tryd.underlying115
  a64 := Tryd.isAgg115
  z64 := Tryd.sizeOf115
  v64 := Tryd.zeroValue115 }
def Tryd.compA_ren : Go.Shelf.Ren := ⟨fun | 43 => 34 | n => n, fun | 22 => 23 | 23 => 3 | 3 => 3 | 4 => 4 | 0 => 0 | n => n, fun | n => n⟩
theorem Tryd.compA : Go.Proofs.SlLaysN.n43 Tryd.prog Tryd.compA_ren := {
  mixed := by kernel_rfl
  f43 := ⟨Tryd.f34.name, by decide, Tryd.func34.trans (congrArg some (by kernel_rfl))⟩
  t0 := Tryd.underlying0
  a0 := Tryd.isAgg0
  z0 := Tryd.sizeOf0
  v0 := Tryd.zeroValue0
  t3 := Tryd.underlying3
  a3 := Tryd.isAgg3
  z3 := Tryd.sizeOf3
  v3 := Tryd.zeroValue3
  t4 := Tryd.underlying4
  a4 := Tryd.isAgg4
  z4 := Tryd.sizeOf4
  v4 := Tryd.zeroValue4
  t22 := Tryd.underlying23
  a22 := Tryd.isAgg23
  z22 := Tryd.sizeOf23
  v22 := Tryd.zeroValue23
  t23 := Tryd.underlying3
  a23 := Tryd.isAgg3
  z23 := Tryd.sizeOf3
  v23 := Tryd.zeroValue3
  i23 := by kernel_rfl }
def Tryd.revA_ren : Go.Shelf.Ren := ⟨fun | 35 => 62 | n => n, fun | 22 => 23 | 23 => 3 | 3 => 3 | 4 => 4 | 0 => 0 | n => n, fun | n => n⟩
theorem Tryd.revA : Go.Proofs.SlLaysN.n35 Tryd.prog Tryd.revA_ren := {
  mixed := by kernel_rfl
  f35 := ⟨Tryd.f62.name, by decide, Tryd.func62.trans (congrArg some (by kernel_rfl))⟩
  t0 := Tryd.underlying0
  a0 := Tryd.isAgg0
  z0 := Tryd.sizeOf0
  v0 := Tryd.zeroValue0
  t3 := Tryd.underlying3
  a3 := Tryd.isAgg3
  z3 := Tryd.sizeOf3
  v3 := Tryd.zeroValue3
  t4 := Tryd.underlying4
  a4 := Tryd.isAgg4
  z4 := Tryd.sizeOf4
  v4 := Tryd.zeroValue4
  t22 := Tryd.underlying23
  a22 := Tryd.isAgg23
  z22 := Tryd.sizeOf23
  v22 := Tryd.zeroValue23
  t23 := Tryd.underlying3
  a23 := Tryd.isAgg3
  z23 := Tryd.sizeOf3
  v23 := Tryd.zeroValue3 }
def Tryd.tzA_ren : Go.Shelf.Ren := ⟨fun | 29 => 60 | n => n, fun | 22 => 95 | 3 => 3 | 4 => 4 | 25 => 93 | 54 => 107 | 0 => 0 | 5 => 5 | n => n, fun | 1 => 0 | n => n⟩
theorem Tryd.tzA : Go.Proofs.Lays7.n29 Tryd.prog Tryd.tzA_ren := {
  mixed := by kernel_rfl
  f29 := Tryd.func60.trans (congrArg some (by kernel_rfl))
  t0 := Tryd.underlying0
  a0 := Tryd.isAgg0
  z0 := Tryd.sizeOf0
  v0 := Tryd.zeroValue0
  i0 := by kernel_rfl
  t3 := Tryd.underlying3
  a3 := Tryd.isAgg3
  z3 := Tryd.sizeOf3
  v3 := Tryd.zeroValue3
  i3 := by kernel_rfl
  t4 := Tryd.underlying4
  a4 := Tryd.isAgg4
  z4 := Tryd.sizeOf4
  v4 := Tryd.zeroValue4
  i4 := by kernel_rfl
  t5 := Tryd.underlying5
  a5 := Tryd.isAgg5
  z5 := Tryd.sizeOf5
  v5 := Tryd.zeroValue5
  i5 := by kernel_rfl
  t22 := Tryd.underlying95
  a22 := Tryd.isAgg95
  z22 := Tryd.sizeOf95
  v22 := Tryd.zeroValue95
  i22 := by kernel_rfl
  t25 := Tryd.underlying93
  a25 := Tryd.isAgg93
  z25 := Tryd.sizeOf93
  v25 := Tryd.zeroValue93
  i25 := by kernel_rfl
  t54 := Tryd.underlying107
  a54 := Tryd.isAgg107
  z54 := Tryd.sizeOf107
  g1 := by kernel_rfl }
end Go.Proofs
namespace Go.Proofs.YtekfnonjhcfdmaaDoor
open Go.RowKit Go.Rt Go.Rw Go.Sort

theorem flat_in (L : List Int) : L.flatMap inC = L.map (Value.int .i64) := by
  induction L with
  | nil => rfl
  | cons a r ih => simp only [List.flatMap_cons, ih, List.map_cons]; rfl
theorem in_len (a : Int) : (inC a).length = 1 := rfl

theorem sort33 {base : Nat} {v : Value} {L : List Int} {w : World} (h : Sl w base 3 1 inC v L) (hl : L.length ≤ 1000000000000000) :
    Calls Tryd.prog 33 #[v] w fun e w' => e = .returned (.tuple #[]) ∧ Sl w' base 3 1 inC v (L.mergeSort fun x y => decide (x ≤ y)) ∧ w.grownBy w' v.ownBlock := by
  rcases h.form with ⟨rfl, rfl⟩ | ⟨g, cap, rfl, hb, hg, hc, hm, cur, hcur, hs⟩
  · refine (AnyM.slices_Sort_int_none Tryd.sortA none 0 w).mono ?_
    rintro e w' ⟨rfl, rfl⟩
    exact ⟨rfl, by simpa using Sl.nil _ _ _ _ _, ⟨rfl, rfl, rfl, Nat.le_refl _, fun _ _ _ => rfl⟩⟩
  · have hx := h.2
    have htake : cur.toList.take L.length = L.map (Value.int .i64) := by
      rcases hx with ⟨q, _⟩ | ⟨g', cap', cur', q, _, q3, _, _, _, q7⟩
      · cases q
      · cases q
        rw [hcur] at q3
        cases q3
        rw [Nat.mul_one, flat_in] at q7
        exact q7
    have hH := holds_of_blockI hcur htake
    refine (AnyM.slices_Sort_int Tryd.sortA g 0 cap L w hH hg (by omega)).mono ?_
    rintro e w' ⟨rfl, n, os, rfl⟩
    refine ⟨rfl, ?_, grownBy_sortedI _⟩
    have := ownsRow_sortedI (n := n) (os := os) (ts := L.mergeSort fun x y => decide (x ≤ y)) (List.length_mergeSort L) hb hcur hc hm hs
    unfold Sl
    rw [flat_in, List.length_mergeSort]
    exact this
theorem grown_putRow {w : World} {g n : Nat} {d : Array Int} : w.grownBy (putRow (Value.int .i64) (Sort.ahead w n) g 0 d) (some g) := by
  have := grownBy_sortedI (w := w) (g := g) (n := n) (os := #[]) d
  rwa [grow_empty] at this
theorem comp34 {base : Nat} {v : Value} {L : List Int} {w : World} (h : Sl w base 3 1 inC v L) (hl : L.length ≤ 1000000000000000) :
    Calls Tryd.prog 34 #[v] w fun e w' => ∃ v', e = .returned v' ∧ Sl w' base 3 1 inC v' (Lib.compact L) ∧ v'.ownBlock = v.ownBlock ∧ w.grownBy w' v.ownBlock := by
  have hd := h.form
  rcases hd with ⟨rfl, rfl⟩ | ⟨g, cap, rfl, hb, hg, hc, hm, cur, hcur, hs⟩
  · refine (AnyG.slices_Compact_int_empty Tryd.compA none 0 w).mono ?_
    rintro e w' ⟨rfl, rfl⟩
    exact ⟨_, rfl, Sl.nil _ _ _ _ _, rfl, ⟨rfl, rfl, rfl, Nat.le_refl _, fun _ _ _ => rfl⟩⟩
  · have h' := h
    unfold Sl at h'
    rw [flat_in] at h'
    obtain ⟨g', cap', e', _, _, _, _, _, hH⟩ := Lib.holds_of_ownsRow h' (by simp)
    cases e'
    refine (AnyG.slices_Compact_int Tryd.compA g 0 cap L w hH (by omega) (by omega)).mono ?_
    rintro e w' ⟨rfl, q, rfl⟩
    have hle := Lib.compact_length_le L
    have := Lib.ownsRow_putRow (q := q) (k := (Lib.compact L).length) (ys := Lib.compact L ++ List.replicate (L.length - (Lib.compact L).length) 0) h' (by simp; omega) hle
    refine ⟨_, rfl, ?_, rfl, grown_putRow⟩
    unfold Sl
    rw [flat_in]
    rwa [List.take_left] at this
theorem rev62 {base : Nat} {v : Value} {L : List Int} {w : World} (h : Sl w base 3 1 inC v L) (hl : L.length ≤ 1000000000000000) :
    Calls Tryd.prog 62 #[v] w fun e w' => e = .returned (.tuple #[]) ∧ Sl w' base 3 1 inC v L.reverse ∧ w.grownBy w' v.ownBlock := by
  have hd := h.form
  rcases hd with ⟨rfl, rfl⟩ | ⟨g, cap, rfl, hb, hg, hc, hm, cur, hcur, hs⟩
  · refine (AnyG.slices_Reverse_int_empty Tryd.revA none 0 w).mono ?_
    rintro e w' ⟨rfl, rfl⟩
    exact ⟨rfl, Sl.nil _ _ _ _ _, ⟨rfl, rfl, rfl, Nat.le_refl _, fun _ _ _ => rfl⟩⟩
  · have h' := h
    unfold Sl at h'
    rw [flat_in] at h'
    obtain ⟨g', cap', e', _, _, _, _, _, hH⟩ := Lib.holds_of_ownsRow h' (by simp)
    cases e'
    refine (AnyG.slices_Reverse_int Tryd.revA g 0 cap L w hH (by omega)).mono ?_
    rintro e w' ⟨rfl, q, rfl⟩
    have := Lib.ownsRow_putRow (q := q) (k := L.length) (ys := L.reverse) h' (by simp) (Nat.le_refl _)
    refine ⟨rfl, ?_, grown_putRow⟩
    unfold Sl
    rw [flat_in, List.length_reverse]
    rwa [List.take_of_length_le (by simp)] at this
/-- Sorted and compacted: ascending. -/
theorem compact_sort (L : List Int) : Lib.compact (L.mergeSort fun x y => decide (x ≤ y)) = asc L := by
  obtain ⟨M, hM⟩ : ∃ M, M = L.mergeSort fun x y => decide (x ≤ y) := ⟨_, rfl⟩
  have hp : M.Pairwise (· ≤ ·) := by
    rw [hM]
    have := List.pairwise_mergeSort (le := fun x y : Int => decide (x ≤ y)) (by intro a b c; simp; omega) (by intro a b; simp; omega) L
    exact this.imp (by simp)
  have hmem : ∀ k, k ∈ M ↔ k ∈ L := fun k => by rw [hM]; exact (List.mergeSort_perm _ _).mem_iff
  rw [← hM]
  clear hM
  have hle : ∀ i j (hi : i < M.length) (hj : j < M.length), i ≤ j → M[i] ≤ M[j] := by
    intro i j hi hj hij
    rcases Nat.lt_or_eq_of_le hij with h | rfl
    · exact List.pairwise_iff_getElem.1 hp i j hi hj h
    · exact Int.le_refl _
  have hg : ∀ i (hi : i < M.length), M.toArray[i]! = M[i] := fun i hi => by rw [getElem!_pos _ i (by simpa using hi)]; simp
  refine up_ext _ _ ?_ (up_asc L) ?_
  · unfold Up Lib.compact Lib.compactUpTo
    rw [List.pairwise_map]
    refine List.Pairwise.imp_of_mem ?_ (List.Pairwise.filter _ List.pairwise_lt_range)
    intro a b ha hb hab
    rw [List.mem_filter, List.mem_range] at ha hb
    have hk := hb.2
    unfold Lib.keeps at hk
    rw [decide_eq_true_eq] at hk
    rw [hg a ha.1, hg b hb.1] at *
    rcases hk with h | h
    · omega
    · rw [hg (b - 1) (by omega)] at h
      have h1 := hle a (b - 1) ha.1 (by omega) (by omega)
      have h2 := hle (b - 1) b (by omega) hb.1 (by omega)
      omega
  · intro k
    rw [mem_asc, ← hmem k]
    unfold Lib.compact Lib.compactUpTo
    rw [List.mem_map]
    constructor
    · rintro ⟨a, ha, rfl⟩
      rw [List.mem_filter, List.mem_range] at ha
      rw [hg a ha.1]
      exact List.getElem_mem _
    · intro hk
      obtain ⟨i, hi, rfl⟩ := List.getElem_of_mem hk
      clear hk
      induction i with
      | zero => exact ⟨0, List.mem_filter.2 ⟨List.mem_range.2 hi, by simp [Lib.keeps]⟩, hg 0 hi⟩
      | succ i ih =>
        by_cases h : M[i + 1] = M[i]
        · obtain ⟨a, ha, e⟩ := ih (by omega)
          exact ⟨a, ha, by rw [e, h]⟩
        · refine ⟨i + 1, List.mem_filter.2 ⟨List.mem_range.2 hi, ?_⟩, hg _ hi⟩
          unfold Lib.keeps
          rw [decide_eq_true_eq, hg _ hi, Nat.add_sub_cancel, hg i (by omega)]
          exact .inr h
end Go.Proofs.YtekfnonjhcfdmaaDoor
namespace Go.Proofs.YtekfnonjhcfdmaaDoor
open Go.RowKit Go.Shelf Go.Rt Go.Rw
attribute [local go_sem] Oper.semAt_some

/-- What the iterator needs. -/
structure TPre (B1 B2 b o : Nat) (f : Im) (i : Int) (W : World) : Prop where
  b1 : Boxed W B1 67 (.pointer (some ⟨b, o, none⟩))
  b2 : Boxed W B2 3 (.int .i64 i)
  cells : ∀ j, j < 10 → W.cell? ⟨b, o + j, none⟩ = (imC f)[j]?
  cases : SlAt W 2 csC f.cv f.x.cases
theorem TPre.later {B1 B2 b o : Nat} {f : Im} {i : Int} {w W W' : World} {bs : List Nat} (h : TPre B1 B2 b o f i W) (hc : SlAt w 2 csC f.cv f.x.cases) (hb : b < w.heap.size) (hle : w.heap.size ≤ W.heap.size) (ho : Only bs W W') (hbs : ∀ r ∈ bs, w.heap.size ≤ r) (n1 : B1 ∉ bs) (n2 : B2 ∉ bs) : TPre B1 B2 b o f i W' := by
  have hout : ∀ g, g < w.heap.size → g ∉ bs := fun g hg hm => by have := hbs g hm; omega
  refine ⟨(ho.block _ h.b1.lt n1).trans h.b1, (ho.block _ h.b2.lt n2).trans h.b2, fun j hj => ?_, ?_⟩
  · rw [← h.cells j hj]
    unfold World.cell?
    rw [ho.block b (by omega) (hout b hb)]
  · rcases h.cases with q | ⟨g, p, c, q, h1, h2, h3⟩
    · exact .inl q
    · rcases hc with r | ⟨g', p', c', r, _, r2, _⟩
      · exact .inl r
      · rw [q] at r
        cases r
        refine .inr ⟨g, p, c, q, h1, Nat.lt_of_lt_of_le h2 ho.size, fun k j hk hj => ?_⟩
        rw [← h3 k j hk hj]
        unfold World.cell?
        rw [ho.block g h2 (hout g r2)]
set_option maxRecDepth 100000 in
set_option maxHeartbeats 4000000 in
theorem targ_reads (F : Fence) (n : Nat) (h59 : F.fn 59) (hro : F.round = none) (hn : 1 ≤ n) (B1 B2 b o : Nat) (f : Im) (i : Int) (hi : 0 ≤ i) (hi2 : i ≤ 4611686018427387904) :
    SeqReads F n Tryd.prog 59 #[.pointer (some ⟨B1, 0, none⟩), .pointer (some ⟨B2, 0, none⟩)] (fun k : Int => #[.int .i64 k]) (targF f.x i) (TPre B1 B2 b o f i) := by
  intro l J Jx W hJ hJx hP hY h0
  obtain ⟨xs, hxs⟩ : ∃ q, q = targF f.x i := ⟨_, rfl⟩
  rw [← hxs] at hY ⊢
  have p0 := hP _ _ h0
  have HXS := Lib.hid hxs
  have HP := Lib.hid hP
  have HY := Lib.hid hY
  have HJ := Lib.hid hJ
  have HJx := Lib.hid hJx
  have H0 := Lib.hid h0
  have c1 := p0.b1.cell
  have c2 := p0.b2.cell
  obtain ⟨e0, _, _, _, e4, _, _, _, e8, _⟩ := cells10 p0.cells
  obtain ⟨_, s2, p2, ecv⟩ := p0.cases.len
  obtain ⟨nc, hnc⟩ : ∃ q, q = f.x.cases.length := ⟨_, rfl⟩
  rw [← hnc] at ecv
  rw [ecv] at e8
  have HNC := Lib.hid hnc
  have HCV := Lib.hid ecv
  obtain ⟨op, hop⟩ : ∃ q, q = f.x.op := ⟨_, rfl⟩
  obtain ⟨goal, hgo⟩ : ∃ q, q = f.x.to := ⟨_, rfl⟩
  rw [← hop] at e0
  rw [← hgo] at e4
  have HOP := Lib.hid hop
  have HGO := Lib.hid hgo
  clear hxs hP hY hJ hJx h0 hnc ecv p0 hop hgo
  refine callsIn_of_wp Tryd.func59 rfl h59 ?_ hro
  simp only [Tryd.ntmps59, List.size_toArray, List.length_cons, List.length_nil, Nat.reduceAdd, Nat.reduceSub, Array.replicate_succ, Array.replicate_zero, List.push_toArray, List.append_toArray, List.nil_append, List.cons_append]
  gi_upto_if 12 with fail
  gi_cut [12] from 999 (fun z12 wx => z12 = .bool (endOp op) ∧ W = wx)
  case first =>
    clear HY HJ HJx H0 HP HXS HCV HNC c1 c2 e0 e4 e8 HOP HGO
    by_cases h17 : op = 17
    · subst h17
      gi_wp2_with (with_reducible refine And.intro ?hnone ?_; case hnone => (intro _ hnn; cases hnn))
      gi_meet
      exact ⟨rfl, rfl⟩
    have e17 : (op == 17) = false := by rw [beq_eq_false_iff_ne]; exact h17
    by_cases h19 : op = 19
    · subst h19
      gi_wp2_with (with_reducible refine And.intro ?hnone ?_; case hnone => (intro _ hnn; cases hnn))
      gi_meet
      exact ⟨rfl, rfl⟩
    have e19 : (op == 19) = false := by rw [beq_eq_false_iff_ne]; exact h19
    by_cases h21 : op = 21
    · subst h21
      gi_wp2_with (with_reducible refine And.intro ?hnone ?_; case hnone => (intro _ hnn; cases hnn))
      gi_meet
      exact ⟨rfl, rfl⟩
    have e21 : (op == 21) = false := by rw [beq_eq_false_iff_ne]; exact h21
    by_cases h23 : op = 23
    · subst h23
      gi_wp2_with (with_reducible refine And.intro ?hnone ?_; case hnone => (intro _ hnn; cases hnn))
      gi_meet
      exact ⟨rfl, rfl⟩
    have e23 : (op == 23) = false := by rw [beq_eq_false_iff_ne]; exact h23
    by_cases h26 : op = 26
    · subst h26
      gi_wp2_with (with_reducible refine And.intro ?hnone ?_; case hnone => (intro _ hnn; cases hnn))
      gi_meet
      exact ⟨rfl, rfl⟩
    have e26 : (op == 26) = false := by rw [beq_eq_false_iff_ne]; exact h26
    by_cases h27 : op = 27
    · subst h27
      gi_wp2_with (with_reducible refine And.intro ?hnone ?_; case hnone => (intro _ hnn; cases hnn))
      gi_meet
      exact ⟨rfl, rfl⟩
    have e27 : (op == 27) = false := by rw [beq_eq_false_iff_ne]; exact h27
    have g1 : endOp op = false := by unfold endOp; simp [h17, h19, h21, h23, h26, h27]
    replace g1 := Lib.hid g1
    clear h17 h19 h21 h23 h26 h27
    gi_wp2_with (with_reducible refine And.intro ?hnone ?_; case hnone => (intro _ hnn; cases hnn))
    gi_meet
    exact ⟨by rw [g1.out], rfl⟩
  case rest =>
    obtain ⟨rfl, rfl⟩ := hcut
    obtain ⟨E, hE⟩ : ∃ q, endOp op = q := ⟨_, rfl⟩
    rw [hE]
    replace hE := Lib.hid hE
    cases E with
    | true =>
      have HN12 : Hid (op ≠ 12) := Lib.hid (by rintro rfl; exact absurd hE.out (by decide))
      obtain rfl : xs = [] := by rw [HXS.out]; unfold targF; rw [← HOP.out, hE.out]; rfl
      have d12 : (op != 12) = true := by rw [bne_iff_ne]; exact HN12.out
      gi_wp2_with (with_reducible refine And.intro ?hnone ?_; case hnone => (intro _ hnn; cases hnn))
      try simp only [Exit.inBlock, Exit.then]
      refine bodyPost_ret (results_none rfl _ _ _) rfl ?_
      exact ⟨⟨_, rfl⟩, .inl H0.out⟩
    | false =>
      gi_upto_if 19 with fail
      gi_cut [19] from 999 (fun z wx => z = .bool (jumpOp op || decide (op = 12)) ∧ W = wx)
      case first =>
        clear hE
        clear HY HJ HJx H0 HP HXS HCV HNC c1 c2 e0 e4 e8 HOP HGO
        by_cases h8 : op = 8
        · subst h8
          gi_wp2_with (with_reducible refine And.intro ?hnone ?_; case hnone => (intro _ hnn; cases hnn))
          gi_meet
          exact ⟨rfl, rfl⟩
        have e8 : (op == 8) = false := by rw [beq_eq_false_iff_ne]; exact h8
        by_cases h39 : op = 39
        · subst h39
          gi_wp2_with (with_reducible refine And.intro ?hnone ?_; case hnone => (intro _ hnn; cases hnn))
          gi_meet
          exact ⟨rfl, rfl⟩
        have e39 : (op == 39) = false := by rw [beq_eq_false_iff_ne]; exact h39
        by_cases h12 : op = 12
        · subst h12
          gi_wp2_with (with_reducible refine And.intro ?hnone ?_; case hnone => (intro _ hnn; cases hnn))
          gi_meet
          exact ⟨rfl, rfl⟩
        have e12 : (op == 12) = false := by rw [beq_eq_false_iff_ne]; exact h12
        have g1 : (jumpOp op || decide (op = 12)) = false := by unfold jumpOp; simp [h8, h39, h12]
        replace g1 := Lib.hid g1
        clear h8 h39 h12
        gi_wp2_with (with_reducible refine And.intro ?hnone ?_; case hnone => (intro _ hnn; cases hnn))
        gi_meet
        exact ⟨by rw [g1.out], rfl⟩
      case rest =>
        obtain ⟨rfl, rfl⟩ := hcut
        by_cases h12 : op = 12
        · subst h12
          try rw [show (jumpOp 12 || decide ((12 : Int) = 12)) = true from rfl]
          obtain rfl : xs = goal :: f.x.cases.map (·.to) := by rw [HXS.out]; unfold targF; rw [← HOP.out, ← HGO.out]; rfl
          have hq := HY.out 0 (by simp) W H0.out
          simp only [List.getElem_cons_zero] at hq
          obtain ⟨fn, tmps, assign, body, hy, hR⟩ := hq
          gi_wp2_with (with_reducible refine And.intro ?hnone ?_; case hnone => (intro _ hnn; cases hnn))
          refine hR.mono ?_
          clear hR hy
          rintro e W1 (⟨rfl, hJ1⟩ | ⟨rfl, hX1⟩)
          rotate_left
          · gi_wp2_with (with_reducible refine And.intro ?hnone ?_; case hnone => (intro _ hnn; cases hnn))
            all_goals try (rename_i hbad _ _ _ _ _ _ _; exact absurd hbad (by intro hb; cases hb))
            all_goals
              try simp only [Exit.inBlock, Exit.then]
              refine bodyPost_ret (results_none rfl _ _ _) rfl ?_
              exact ⟨⟨_, rfl⟩, .inr ⟨1, by simp, hX1⟩⟩
          have p1 := HP.out _ _ hJ1
          have c11 := p1.b1.cell
          have c21 := p1.b2.cell
          obtain ⟨e01, _, _, _, e41, _, _, _, e81, _⟩ := cells10 p1.cells
          rw [HCV.out] at e81
          rw [← HOP.out] at e01
          rw [← HGO.out] at e41
          have HJ1 := Lib.hid hJ1
          clear p1 hJ1
          gi_wp2_with (with_reducible refine And.intro ?hnone ?_; case hnone => (intro _ hnn; cases hnn))
          gi_loopw [67] (fun z wr => ∃ k : Nat, z = .int .i64 (k : Int) ∧ k ≤ nc ∧ J (k + 1) wr) (fun z _ => nc - (match z with | .int _ k => k.toNat | _ => 0))
          case atStart => exact ⟨0, rfl, Nat.zero_le _, HJ1.out⟩
          case round =>
            obtain ⟨k, rfl, hk, hjk⟩ := hrel
            have HJK := Lib.hid hjk
            clear hjk
            by_cases hlt : k < nc
            · have hlti : (k : Int) < (nc : Int) := by omega
              have pk := HP.out _ _ HJK.out
              have hca := pk.cases
              rw [HCV.out] at hca
              obtain ⟨b', o', es, hb', hc⟩ := hca.get (by rw [← HNC.out]; omega)
              have hkx : k < f.x.cases.length := by rw [← HNC.out]; exact hlt
              have k0 := hc k 0 hkx (by omega)
              have k1 := hc k 1 hkx (by omega)
              simp only [csC, List.getElem?_cons_zero, List.getElem?_cons_succ, Nat.add_zero] at k0 k1
              obtain ⟨q0, hq0⟩ : ∃ q, q = (f.x.cases[k]).lit := ⟨_, rfl⟩
              obtain ⟨q1, hq1⟩ : ∃ q, q = (f.x.cases[k]).to := ⟨_, rfl⟩
              rw [← hq0] at k0
              rw [← hq1] at k1
              have hgr := HJ.out (k + 1) wr (wr.alloc (.cells #[.int .i64 q0, .int .i64 q1] 75)) HJK.out (Only.alloc [] _ _)
              have hy0 := HY.out (k + 1) (by simp; exact hkx) _ hgr
              have hyv : (goal :: f.x.cases.map (·.to))[k + 1]'(by simp; exact hkx) = q1 := by rw [hq1]; simp
              rw [hyv] at hy0
              have hsl : Hid (k + 2 ≤ (goal :: f.x.cases.map (·.to)).length) := Lib.hid (by simp; omega)
              clear hq0 hq1 hc hca pk hgr hyv
              subst es
              obtain ⟨fn, tmps, assign, body, hy, hR⟩ := hy0
              gi_wp2_with (with_reducible refine And.intro ?hnone ?_; case hnone => (intro _ hnn; cases hnn))
              refine hR.mono ?_
              clear hR hy
              rintro e W3 (⟨rfl, hJ3⟩ | ⟨rfl, hX3⟩)
              · have HJ3 := Lib.hid hJ3
                clear hJ3
                gi_wp2_with (with_reducible refine And.intro ?hnone ?_; case hnone => (intro _ hnn; cases hnn))
                go_roundw
                case rel => exact ⟨k + 1, by simp, by omega, HJ3.out⟩
                case measure =>
                  show nc - ((k : Int) + 1).toNat < nc - (k : Int).toNat
                  omega
              · gi_wp2_with (with_reducible refine And.intro ?hnone ?_; case hnone => (intro _ hnn; cases hnn))
                (try simp only [Exit.inBlock, Exit.then])
                refine bodyPost_ret (results_none rfl _ _ _) rfl ?_
                exact ⟨⟨_, rfl⟩, .inr ⟨k + 2, hsl.out, hX3⟩⟩
            · have hlti : ¬ (k : Int) < (nc : Int) := by omega
              gi_wp2_with (with_reducible refine And.intro ?hnone ?_; case hnone => (intro _ hnn; cases hnn))
              go_end0
              refine ⟨⟨_, rfl⟩, .inl ?_⟩
              have hkn : k = f.x.cases.length := by rw [← HNC.out]; omega
              have hj := HJK.out
              rw [hkn] at hj
              simpa using hj
        · have HN12 : Hid (op ≠ 12) := Lib.hid h12
          rw [show decide (op = 12) = false from decide_eq_false h12, Bool.or_false]
          clear h12
          obtain ⟨Jm, hJmp⟩ : ∃ q, jumpOp op = q := ⟨_, rfl⟩
          rw [hJmp]
          replace hJmp := Lib.hid hJmp
          cases Jm with
          | true =>
            obtain rfl : xs = [goal] := by rw [HXS.out]; unfold targF; rw [← HOP.out, hE.out, hJmp.out, ← HGO.out]; rfl
            have d12 : (op != 12) = true := by rw [bne_iff_ne]; exact HN12.out
            have hq := HY.out 0 (by simp) W H0.out
            simp only [List.getElem_cons_zero] at hq
            obtain ⟨fn, tmps, assign, body, hy, hR⟩ := hq
            gi_wp2_with (with_reducible refine And.intro ?hnone ?_; case hnone => (intro _ hnn; cases hnn))
            refine hR.mono ?_
            clear hR hy
            rintro e W1 (⟨rfl, hJ1⟩ | ⟨rfl, hX1⟩)
            rotate_left
            · gi_wp2_with (with_reducible refine And.intro ?hnone ?_; case hnone => (intro _ hnn; cases hnn))
              all_goals try (rename_i hbad _ _ _ _ _ _ _; exact absurd hbad (by intro hb; cases hb))
              all_goals
                try simp only [Exit.inBlock, Exit.then]
                refine bodyPost_ret (results_none rfl _ _ _) rfl ?_
                exact ⟨⟨_, rfl⟩, .inr ⟨1, by simp, hX1⟩⟩
            have p1 := HP.out _ _ hJ1
            have c11 := p1.b1.cell
            have c21 := p1.b2.cell
            obtain ⟨e01, _, _, _, e41, _, _, _, e81, _⟩ := cells10 p1.cells
            rw [HCV.out] at e81
            rw [← HOP.out] at e01
            rw [← HGO.out] at e41
            have HJ1 := Lib.hid hJ1
            clear p1 hJ1
            gi_wp2_with (with_reducible refine And.intro ?hnone ?_; case hnone => (intro _ hnn; cases hnn))
            try simp only [Exit.inBlock, Exit.then]
            refine bodyPost_ret (results_none rfl _ _ _) rfl ?_
            exact ⟨⟨_, rfl⟩, .inl HJ1.out⟩
          | false =>
            gi_upto_if 23 with fail
            gi_cut [23] from 999 (fun z wx => z = .bool (forkOp op) ∧ W = wx)
            case first =>
              clear hE hJmp HN12
              clear HY HJ HJx H0 HP HXS HCV HNC c1 c2 e0 e4 e8 HOP HGO
              by_cases h9 : op = 9
              · subst h9
                gi_wp2_with (with_reducible refine And.intro ?hnone ?_; case hnone => (intro _ hnn; cases hnn))
                gi_meet
                exact ⟨rfl, rfl⟩
              have e9 : (op == 9) = false := by rw [beq_eq_false_iff_ne]; exact h9
              by_cases h10 : op = 10
              · subst h10
                gi_wp2_with (with_reducible refine And.intro ?hnone ?_; case hnone => (intro _ hnn; cases hnn))
                gi_meet
                exact ⟨rfl, rfl⟩
              have e10 : (op == 10) = false := by rw [beq_eq_false_iff_ne]; exact h10
              by_cases h11 : op = 11
              · subst h11
                gi_wp2_with (with_reducible refine And.intro ?hnone ?_; case hnone => (intro _ hnn; cases hnn))
                gi_meet
                exact ⟨rfl, rfl⟩
              have e11 : (op == 11) = false := by rw [beq_eq_false_iff_ne]; exact h11
              by_cases h13 : op = 13
              · subst h13
                gi_wp2_with (with_reducible refine And.intro ?hnone ?_; case hnone => (intro _ hnn; cases hnn))
                gi_meet
                exact ⟨rfl, rfl⟩
              have e13 : (op == 13) = false := by rw [beq_eq_false_iff_ne]; exact h13
              by_cases h30 : op = 30
              · subst h30
                gi_wp2_with (with_reducible refine And.intro ?hnone ?_; case hnone => (intro _ hnn; cases hnn))
                gi_meet
                exact ⟨rfl, rfl⟩
              have e30 : (op == 30) = false := by rw [beq_eq_false_iff_ne]; exact h30
              by_cases h31 : op = 31
              · subst h31
                gi_wp2_with (with_reducible refine And.intro ?hnone ?_; case hnone => (intro _ hnn; cases hnn))
                gi_meet
                exact ⟨rfl, rfl⟩
              have e31 : (op == 31) = false := by rw [beq_eq_false_iff_ne]; exact h31
              by_cases h32 : op = 32
              · subst h32
                gi_wp2_with (with_reducible refine And.intro ?hnone ?_; case hnone => (intro _ hnn; cases hnn))
                gi_meet
                exact ⟨rfl, rfl⟩
              have e32 : (op == 32) = false := by rw [beq_eq_false_iff_ne]; exact h32
              by_cases h33 : op = 33
              · subst h33
                gi_wp2_with (with_reducible refine And.intro ?hnone ?_; case hnone => (intro _ hnn; cases hnn))
                gi_meet
                exact ⟨rfl, rfl⟩
              have e33 : (op == 33) = false := by rw [beq_eq_false_iff_ne]; exact h33
              by_cases h34 : op = 34
              · subst h34
                gi_wp2_with (with_reducible refine And.intro ?hnone ?_; case hnone => (intro _ hnn; cases hnn))
                gi_meet
                exact ⟨rfl, rfl⟩
              have e34 : (op == 34) = false := by rw [beq_eq_false_iff_ne]; exact h34
              by_cases h37 : op = 37
              · subst h37
                gi_wp2_with (with_reducible refine And.intro ?hnone ?_; case hnone => (intro _ hnn; cases hnn))
                gi_meet
                exact ⟨rfl, rfl⟩
              have e37 : (op == 37) = false := by rw [beq_eq_false_iff_ne]; exact h37
              by_cases h40 : op = 40
              · subst h40
                gi_wp2_with (with_reducible refine And.intro ?hnone ?_; case hnone => (intro _ hnn; cases hnn))
                gi_meet
                exact ⟨rfl, rfl⟩
              have e40 : (op == 40) = false := by rw [beq_eq_false_iff_ne]; exact h40
              have g1 : forkOp op = false := by unfold forkOp; simp [h9, h10, h11, h13, h30, h31, h32, h33, h34, h37, h40]
              replace g1 := Lib.hid g1
              clear h9 h10 h11 h13 h30 h31 h32 h33 h34 h37 h40
              gi_wp2_with (with_reducible refine And.intro ?hnone ?_; case hnone => (intro _ hnn; cases hnn))
              gi_meet
              exact ⟨by rw [g1.out], rfl⟩
            case rest =>
              obtain ⟨rfl, rfl⟩ := hcut
              obtain ⟨Fk, hFk⟩ : ∃ q, forkOp op = q := ⟨_, rfl⟩
              rw [hFk]
              replace hFk := Lib.hid hFk
              cases Fk with
              | true =>
                obtain rfl : xs = [i + 1, goal] := by rw [HXS.out]; unfold targF; rw [← HOP.out, hE.out, hJmp.out, if_neg (by simp), if_neg (by simp), if_neg HN12.out, hFk.out, ← HGO.out]; rfl
                have d12 : (op != 12) = true := by rw [bne_iff_ne]; exact HN12.out
                have hq := HY.out 0 (by simp) W H0.out
                simp only [List.getElem_cons_zero] at hq
                obtain ⟨fn, tmps, assign, body, hy, hR⟩ := hq
                gi_wp2_with (with_reducible refine And.intro ?hnone ?_; case hnone => (intro _ hnn; cases hnn))
                refine hR.mono ?_
                clear hR hy
                rintro e W1 (⟨rfl, hJ1⟩ | ⟨rfl, hX1⟩)
                rotate_left
                · gi_wp2_with (with_reducible refine And.intro ?hnone ?_; case hnone => (intro _ hnn; cases hnn))
                  all_goals try (rename_i hbad _ _ _ _ _ _ _; exact absurd hbad (by intro hb; cases hb))
                  all_goals
                    try simp only [Exit.inBlock, Exit.then]
                    refine bodyPost_ret (results_none rfl _ _ _) rfl ?_
                    exact ⟨⟨_, rfl⟩, .inr ⟨1, by simp, hX1⟩⟩
                have p1 := HP.out _ _ hJ1
                have c11 := p1.b1.cell
                have c21 := p1.b2.cell
                obtain ⟨e01, _, _, _, e41, _, _, _, e81, _⟩ := cells10 p1.cells
                rw [HCV.out] at e81
                rw [← HOP.out] at e01
                rw [← HGO.out] at e41
                have HJ1 := Lib.hid hJ1
                clear p1 hJ1
                have hq := HY.out 1 (by simp) W1 HJ1.out
                simp only [List.getElem_cons_zero, List.getElem_cons_succ] at hq
                obtain ⟨fn, tmps, assign, body, hy, hR⟩ := hq
                gi_wp2_with (with_reducible refine And.intro ?hnone ?_; case hnone => (intro _ hnn; cases hnn))
                refine hR.mono ?_
                clear hR hy
                rintro e W2 (⟨rfl, hJ2⟩ | ⟨rfl, hX2⟩)
                rotate_left
                · gi_wp2_with (with_reducible refine And.intro ?hnone ?_; case hnone => (intro _ hnn; cases hnn))
                  all_goals try (rename_i hbad _ _ _ _ _ _ _; exact absurd hbad (by intro hb; cases hb))
                  all_goals
                    try simp only [Exit.inBlock, Exit.then]
                    refine bodyPost_ret (results_none rfl _ _ _) rfl ?_
                    exact ⟨⟨_, rfl⟩, .inr ⟨2, by simp, hX2⟩⟩
                have p2 := HP.out _ _ hJ2
                have c12 := p2.b1.cell
                have c22 := p2.b2.cell
                obtain ⟨e02, _, _, _, e42, _, _, _, e82, _⟩ := cells10 p2.cells
                rw [HCV.out] at e82
                rw [← HOP.out] at e02
                rw [← HGO.out] at e42
                have HJ2 := Lib.hid hJ2
                clear p2 hJ2
                gi_wp2_with (with_reducible refine And.intro ?hnone ?_; case hnone => (intro _ hnn; cases hnn))
                try simp only [Exit.inBlock, Exit.then]
                refine bodyPost_ret (results_none rfl _ _ _) rfl ?_
                exact ⟨⟨_, rfl⟩, .inl HJ2.out⟩
              | false =>
                obtain rfl : xs = [i + 1] := by rw [HXS.out]; unfold targF; rw [← HOP.out, hE.out, hJmp.out, if_neg (by simp), if_neg (by simp), if_neg HN12.out, hFk.out]; rfl
                have d12 : (op != 12) = true := by rw [bne_iff_ne]; exact HN12.out
                have hq := HY.out 0 (by simp) W H0.out
                simp only [List.getElem_cons_zero] at hq
                obtain ⟨fn, tmps, assign, body, hy, hR⟩ := hq
                gi_wp2_with (with_reducible refine And.intro ?hnone ?_; case hnone => (intro _ hnn; cases hnn))
                refine hR.mono ?_
                clear hR hy
                rintro e W1 (⟨rfl, hJ1⟩ | ⟨rfl, hX1⟩)
                rotate_left
                · gi_wp2_with (with_reducible refine And.intro ?hnone ?_; case hnone => (intro _ hnn; cases hnn))
                  all_goals try (rename_i hbad _ _ _ _ _ _ _; exact absurd hbad (by intro hb; cases hb))
                  all_goals
                    try simp only [Exit.inBlock, Exit.then]
                    refine bodyPost_ret (results_none rfl _ _ _) rfl ?_
                    exact ⟨⟨_, rfl⟩, .inr ⟨1, by simp, hX1⟩⟩
                have p1 := HP.out _ _ hJ1
                have c11 := p1.b1.cell
                have c21 := p1.b2.cell
                obtain ⟨e01, _, _, _, e41, _, _, _, e81, _⟩ := cells10 p1.cells
                rw [HCV.out] at e81
                rw [← HOP.out] at e01
                rw [← HGO.out] at e41
                have HJ1 := Lib.hid hJ1
                clear p1 hJ1
                gi_wp2_with (with_reducible refine And.intro ?hnone ?_; case hnone => (intro _ hnn; cases hnn))
                try simp only [Exit.inBlock, Exit.then]
                refine bodyPost_ret (results_none rfl _ _ _) rfl ?_
                exact ⟨⟨_, rfl⟩, .inl HJ1.out⟩

/-- targets(in, i). -/
theorem targ36 (F : Fence) (n : Nat) (h36 : F.fn 36) (hro : F.round = none) (b o : Nat) (i : Int) (w : World) :
    CallsIn F n Tryd.prog 36 #[.pointer (some ⟨b, o, none⟩), .int .i64 i] w fun e w' => e = .returned (.func (.func 59) #[] #[.pointer (some ⟨w.heap.size, 0, none⟩), .pointer (some ⟨w.heap.size + 1, 0, none⟩)]) ∧ w' = (w.alloc (.cells #[.pointer (some ⟨b, o, none⟩)] 67)).alloc (.cells #[.int .i64 i] 3) := by
  refine callsIn_of_wp Tryd.func36 rfl h36 ?_ hro
  simp only [Tryd.ntmps36, List.size_toArray, List.length_cons, List.length_nil, Nat.reduceAdd, Nat.reduceSub, Array.replicate_succ, Array.replicate_zero, List.push_toArray, List.append_toArray, List.nil_append, List.cons_append]
  gi_wp2
  go_ret
  exact ⟨rfl, rfl⟩
end Go.Proofs.YtekfnonjhcfdmaaDoor
namespace Go.Proofs.YtekfnonjhcfdmaaDoor
open Go.RowKit Go.Shelf Go.Rt Go.Rw
attribute [local go_sem] Oper.semAt_some

/-- A list of numbers that is returned. -/
def NsR (L : List Int) (w : World) (e : Ending) (w' : World) : Prop := Below w.heap.size w w' ∧ ∃ v, e = .returned v ∧ Sl w' w.heap.size 3 1 inC v L
theorem sl_push_in {W : World} {B : Nat} {v : Value} {L : List Int} (h : Sl W B 3 1 inC v L) (a : Int) (b : Nat) (hb : Blk W b 3 (inC a).toArray) (hl : L.length + 1 ≤ 10000000000000) (hbase : B ≤ W.heap.size) :
    ∃ (g cap : Nat) (W2 : World), (Builtin.append_ #[23, 23] 23 #[v, .slice (some ⟨b, 0, none⟩) 1 1]).run Tryd.prog W = .ok (.slice (some ⟨g, 0, none⟩) (L.length + 1) cap) W2 ∧ Sl W2 B 3 1 inC (.slice (some ⟨g, 0, none⟩) (L.length + 1) cap) (L ++ [a]) ∧ W.grownBy W2 v.ownBlock ∧ (v.ownBlock = some g ∨ W.heap.size ≤ g) :=
  h.push (t := 23) (ty := 23) (bytes := 8) (z := .int .i64 0) Tryd.underlying23 (by kernel_rfl) (by rfl) (by decide) (fun _ => rfl) (fun a u hu => by simp [inC] at hu; rcases hu with rfl; rfl) a hb (by omega) (by omega) hbase 1
theorem grown_only {w w' : World} {row : Option Nat} (h : w.grownBy w' row) : Only row.toList w w' := Only.grown h (fun r hr => .inl (by simp [hr]))
theorem nin2 {a b : Nat} (h : a < b) : a ∉ [b, b + 1] := by simp; omega
/-- The loop's invariant. -/
structure NxI (w : World) (lv : Value) (b o : Nat) (f : Im) (i : Int) (L : List Int) (W : World) : Prop where
  bl : Boxed W w.heap.size 22 lv
  out : ∃ v, Boxed W (w.heap.size + 1) 23 v ∧ Sl W (w.heap.size + 6) 3 1 inC v L
  pre : TPre (w.heap.size + 2) (w.heap.size + 3) b o f i W
  below : Below w.heap.size w W
set_option maxRecDepth 100000 in
set_option maxHeartbeats 4000000 in
theorem next_in (l : List In) (sa : Option Addr) (cap : Nat) (i : Nat) (w : World) (h : InsAt w l (.slice sa l.length cap)) (hi : i < l.length) (hb1 : l.length ≤ 4611686018427387904) (hb2 : (targF l[i] i).length ≤ 9000000000000) :
    Calls Tryd.prog 16 #[.slice sa l.length cap, .int .i64 i] w (NsR (nextF l i) w) := by
  obtain ⟨b, o, rfl, hb, hc⟩ := h.get (by omega)
  obtain ⟨f, hf, hfa, hcell⟩ := hc i hi
  obtain ⟨n, hn⟩ : ∃ n, n = l.length := ⟨_, rfl⟩
  rw [← hn] at hb1 ⊢
  have HN := Lib.hid hn
  have HF := Lib.hid hf
  have HFA := Lib.hid hfa
  obtain ⟨NX, hnx⟩ : ∃ q, q = nextF l i := ⟨_, rfl⟩
  rw [← hnx]
  have hnx2 : NX = asc ((targF f.x i).filter (inR l)) := by rw [hnx]; unfold nextF; rw [dif_pos ⟨by omega, by simpa using hi⟩, hf]; simp
  have HNX := Lib.hid hnx2
  have hti : (i : Int) < (n : Int) := by omega
  rw [← hf] at hb2
  have HB2 := Lib.hid hb2
  have hi62 : (i : Int) ≤ 4611686018427387904 := by omega
  have HC := Lib.hid hcell
  clear hf hfa hnx hc hnx2 hb2 hcell hn
  refine (callsIn_wide (n := 3)).1 ?_
  refine callsIn_of_wp_marks Tryd.func16 rfl trivial ?_ rfl
  simp only [Tryd.ntmps16, List.size_toArray, List.length_cons, List.length_nil, Nat.reduceAdd, Nat.reduceSub, Array.replicate_succ, Array.replicate_zero, List.push_toArray, List.append_toArray, List.nil_append, List.cons_append]
  have hi0 : ¬ (i : Int) < 0 := by omega
  gi_wp2_with (refine ⟨trivial, ?_⟩; gi_at_call 36; refine (targ36 Fence.wide _ trivial rfl _ _ _ _).mono ?_; rintro e w' ⟨rfl, rfl⟩)
  obtain ⟨W0, hW0⟩ : ∃ W0, (((w.alloc (.cells #[.slice (some ⟨b, o, none⟩) n cap] 22)).alloc (.cells #[.slice none 0 0] 23)).alloc (.cells #[.pointer (some ⟨b, o + i * 10, none⟩)] 67)).alloc (.cells #[.int .i64 i] 3) = W0 := ⟨_, rfl⟩
  have hsz : W0.heap.size = w.heap.size + 4 := by rw [← hW0]; simp
  have hB0 : Below w.heap.size w W0 := by
    rw [← hW0]; exact ((((Below.refl _ w).alloc (Nat.le_refl _) _).alloc (by simp) _).alloc (by simp; omega) _).alloc (by simp; omega) _
  have I0 : NxI w (.slice (some ⟨b, o, none⟩) n cap) b (o + i * 10) f i [] W0 := by
    refine ⟨?_, ⟨_, ?_, Sl.nil _ _ _ _ _⟩, ⟨?_, ?_, ?_, ?_⟩, hB0⟩
    · rw [← hW0]; exact (((Boxed.new w 22 _).alloc _).alloc _).alloc _
    · rw [← hW0]; have := Boxed.new (w.alloc (.cells #[.slice (some ⟨b, o, none⟩) n cap] 22)) 23 (.slice none 0 0); rw [World.size_alloc] at this; exact (this.alloc _).alloc _
    · rw [← hW0]; have := Boxed.new ((w.alloc (.cells #[.slice (some ⟨b, o, none⟩) n cap] 22)).alloc (.cells #[.slice none 0 0] 23)) 67 (.pointer (some ⟨b, o + i * 10, none⟩)); rw [World.size_alloc, World.size_alloc] at this; exact this.alloc _
    · rw [← hW0]; have := Boxed.new (((w.alloc (.cells #[.slice (some ⟨b, o, none⟩) n cap] 22)).alloc (.cells #[.slice none 0 0] 23)).alloc (.cells #[.pointer (some ⟨b, o + i * 10, none⟩)] 67)) 3 (.int .i64 i); rw [World.size_alloc, World.size_alloc, World.size_alloc] at this; exact this
    · intro j hj
      rw [← HC.out j hj]
      exact hB0.cell (p := ⟨b, _, none⟩) hb
    · exact HFA.out.cases.keep hB0
  rw [hW0]
  clear hW0
  have HH := Lib.hid h
  refine' wpIn_rangeFunc_P (F := Fence.wide) (n := 3) rfl (by omega) (gf := 59) (lb := #[.pointer (some ⟨w.heap.size + 2, 0, none⟩), .pointer (some ⟨w.heap.size + 3, 0, none⟩)]) rfl trivial (enters_of Tryd.func59 (by kernel_rfl) rfl)
    (targ_reads Fence.wide (3 - 1) trivial rfl (by omega) (w.heap.size + 2) (w.heap.size + 3) b (o + i * 10) f i (by omega) hi62)
    (fun _ => rfl)
    (fun k W => NxI w (.slice (some ⟨b, o, none⟩) n cap) b (o + i * 10) f i (((targF f.x i).take k).filter (inR l)) W) (fun _ _ _ => False) ?abides (fun _ _ _ _ h _ => h) (fun _ _ h => h.pre) (by simpa using I0)
    _ ?assign ?body ?done ?stop
  case assign =>
    intro l' x W K hK
    gi_wp2
    exact hK
  case abides =>
    intro k A B hk ho
    rw [hsz] at ho
    have hwA := hk.below.size
    have hlo : ∀ r ∈ [w.heap.size + 4, w.heap.size + 4 + 1], w.heap.size ≤ r := by intro r hr; simp only [List.mem_cons, List.not_mem_nil, or_false] at hr; rcases hr with rfl | rfl <;> omega
    obtain ⟨v, h1, h2⟩ := hk.out
    refine ⟨(ho.block _ hk.bl.lt (nin2 (by omega))).trans hk.bl, ⟨v, (ho.block _ h1.lt (nin2 (by omega))).trans h1, h2.only ho ?_⟩, hk.pre.later HFA.out.cases hb hwA ho hlo (nin2 (by omega)) (nin2 (by omega)), hk.below.trans (ho.below hlo hwA)⟩
    intro g hg hm
    have := (h2.lt g hg).1
    simp only [List.mem_cons, List.not_mem_nil, or_false] at hm
    omega
  case body =>
    rintro l' k hk W hI hz
    have hkx : k < (targF f.x i).length := hk
    obtain ⟨x, hx⟩ : ∃ x, x = (targF f.x i)[k] := ⟨_, rfl⟩
    rw [← hx]
    have htk : Hid ((targF f.x i).take (k + 1) = (targF f.x i).take k ++ [x]) := Lib.hid (by rw [List.take_succ_eq_append_getElem hkx, hx])
    have HI := Lib.hid hI
    have cl := hI.bl.cell
    clear hx
    by_cases hr : inR l x = true
    · have hr2 : 0 ≤ x ∧ x < (n : Int) := by unfold inR at hr; rw [HN.out]; simpa using hr
      obtain ⟨hr0, hr1⟩ := hr2
      obtain ⟨v, h1, h2⟩ := hI.out
      obtain ⟨A, hA⟩ : ∃ A, A = ((targF f.x i).take k).filter (inR l) := ⟨_, rfl⟩
      rw [← hA] at h2
      have hAl : A.length + 1 ≤ 10000000000000 := by
        have a1 := List.length_filter_le (inR l) ((targF f.x i).take k)
        have a2 := List.length_take_le k (targF f.x i)
        have a3 := HB2.out
        rw [hA]
        omega
      obtain ⟨sa, co, hv⟩ : ∃ sa co, v = .slice sa A.length co := by
        rcases h2.form with ⟨rfl, q⟩ | ⟨g0, cap0, rfl, _⟩
        · exact ⟨none, 0, by rw [q]; rfl⟩
        · exact ⟨_, _, rfl⟩
      subst hv
      rw [hsz] at hz
      have hwW := hI.below.size
      obtain ⟨g, cap2, W2, hrun, sl2, hgrow, hwh⟩ := sl_push_in (h2.only (bs := []) (Only.alloc [] W (.cells #[.int .i64 x] 3)) (fun g hg hm => by cases hm)) x W.heap.size (Blk.new W 3 _) hAl (by simp; omega)
      obtain ⟨a1, a2, _, _, _⟩ := Boxed.appended (n₀ := w.heap.size + 1) h1 (by decide) (Sl.mono h2 (by omega)) (by omega) (by omega) (Sl.mono sl2 (by omega)) hgrow
      have hgge : w.heap.size + 6 ≤ g := (sl2.lt g rfl).1
      have og : Only ((w.heap.size + 1) :: (Value.slice sa A.length co).ownBlock.toList) W (W2.setCell ⟨w.heap.size + 1, 0, none⟩ (.slice (some ⟨g, 0, none⟩) (A.length + 1) cap2)) :=
        (((Only.alloc _ _ _).trans (grown_only hgrow)).mono (fun b hb => .inl (by simp only [List.mem_cons]; exact .inr hb))).trans (Only.setCell _ _ _ (by simp))
      have hown : ∀ r ∈ (w.heap.size + 1) :: (Value.slice sa A.length co).ownBlock.toList, r = w.heap.size + 1 ∨ w.heap.size + 6 ≤ r := by
        intro r hr
        simp only [List.mem_cons, Option.mem_toList] at hr
        rcases hr with rfl | hr
        · exact .inl rfl
        · exact .inr (h2.lt r hr).1
      have hno : ∀ r, r < w.heap.size + 6 → r ≠ w.heap.size + 1 → r ∉ (w.heap.size + 1) :: (Value.slice sa A.length co).ownBlock.toList := fun r h1 h2 hm => by have := hown r hm; omega
      have fin : Hid ((_ ∧ _) ∧ NxI w (.slice (some ⟨b, o, none⟩) n cap) b (o + i * 10) f i (((targF f.x i).take (k + 1)).filter (inR l)) (W2.setCell ⟨w.heap.size + 1, 0, none⟩ (.slice (some ⟨g, 0, none⟩) (A.length + 1) cap2))) := Lib.hid (by
        refine ⟨⟨og.block (w.heap.size + 4) (by omega) (hno _ (by omega) (by omega)), og.block (w.heap.size + 4 + 1) (by omega) (hno _ (by omega) (by omega))⟩, ?_, ⟨_, a2, ?_⟩, ?_, ?_⟩
        · exact (og.block _ hI.bl.lt (hno _ (by omega) (by omega))).trans hI.bl
        · rw [htk.out, List.filter_append, ← hA, show [x].filter (inR l) = [x] by simp [hr]]
          have := sl2.only (Only.setCell (bs := [w.heap.size + 1]) W2 ⟨w.heap.size + 1, 0, none⟩ (.slice (some ⟨g, 0, none⟩) (A.length + 1) cap2) (by simp)) (fun g' hg' hm => by
            simp [Value.ownBlock] at hg' hm; omega)
          exact this
        · exact hI.pre.later HFA.out.cases hb hwW og (fun r hr => by have := hown r hr; omega) (hno _ (by omega) (by omega)) (hno _ (by omega) (by omega))
        · exact hI.below.trans (og.below (fun r hr => by have := hown r hr; omega) hwW))
      have c1 := h1.cell
      have d1 := a1.cell
      have d2 := a1.frozen
      have HRN := Lib.hid hrun
      have hcu : (1 : Nat) ≤ 3 := by omega
      rw [hsz]
      clear h1 h2 a1 a2 hrun sl2 hgrow hwh og hown hno hr HI hI hA
      gi_wp2_with (gi_at_builtin; refine wpListIn_append_run rfl _ _ 23 23 rfl rfl rfl HRN.out ?_)
      exact fin.out
    · have hr' : inR l x = false := by simpa using hr
      have hI' : NxI w (.slice (some ⟨b, o, none⟩) n cap) b (o + i * 10) f i (((targF f.x i).take (k + 1)).filter (inR l)) W := by
        rw [htk.out, List.filter_append, show [x].filter (inR l) = [] by simp [hr'], List.append_nil]
        exact HI.out
      have HI' := Lib.hid hI'
      by_cases hx0 : 0 ≤ x
      · have hx1 : ¬ x < (n : Int) := by
          intro q
          unfold inR at hr'
          rw [← HN.out] at hr'
          simp [hx0, q] at hr'
        clear hr hr' hI hI'
        gi_wp2
        exact ⟨⟨rfl, rfl⟩, HI'.out⟩
      · clear hr hr' hI hI'
        gi_wp2
        exact ⟨⟨rfl, rfl⟩, HI'.out⟩
  case done =>
    intro W hz hI hD
    rw [List.take_of_length_le (Nat.le_refl _)] at hI
    rw [hsz] at hz hD ⊢
    obtain ⟨A, hA⟩ : ∃ A, A = (targF f.x i).filter (inR l) := ⟨_, rfl⟩
    rw [← hA] at hI
    have hAl : A.length ≤ 9000000000000 := by rw [hA]; have := List.length_filter_le (inR l) (targF f.x i); have := HB2.out; omega
    obtain ⟨v, h1, h2⟩ := hI.out
    have HNX' : Hid (NX = Lib.compact (A.mergeSort fun x y => decide (x ≤ y))) := Lib.hid (by rw [HNX.out, compact_sort, hA])
    have HB := Lib.hid hI.below
    have c1 := h1.cell
    have HS := Lib.hid h2
    have HO := Lib.hid h1
    have HD := Lib.hid hD
    have hwW := hI.below.size
    clear hI h1 h2 hA hD HH h I0
    gi_wp2_with fail
    refine ⟨trivial, ?_⟩
    refine (callsIn_wide.2 (sort33 HS.out (by omega))).mono ?_
    rintro e W1 ⟨rfl, s1, g1⟩
    have O1 := Lib.hid (HO.out.kept g1 (HO.out.not_row (by decide) HS.out))
    have D1 : Hid (W1.heap[w.heap.size + 4]? = some (.deferred (some []))) := Lib.hid ((g1.block _ (by omega) (fun q => by have := (HS.out.lt _ q.symm).1; omega)).trans HD.out)
    have B1 : Hid (Below w.heap.size w W1) := Lib.hid (HB.out.grown g1 hwW (fun r hr => by have := (HS.out.lt r hr).1; omega))
    have hw1 := g1.size
    have S1 := Lib.hid s1
    have c2 := O1.out.cell
    have hl1 : (A.mergeSort fun x y => decide (x ≤ y)).length ≤ 1000000000000000 := by rw [List.length_mergeSort]; omega
    obtain ⟨M, hM⟩ : ∃ M, M = A.mergeSort fun x y => decide (x ≤ y) := ⟨_, rfl⟩
    rw [← hM] at S1 hl1 HNX'
    clear s1 g1 HS HO HB HD c1 hM
    gi_wp2_with fail
    refine ⟨trivial, ?_⟩
    refine (callsIn_wide.2 (comp34 S1.out hl1)).mono ?_
    rintro e W2 ⟨v2, rfl, s2, o2, g2⟩
    have S2 := Lib.hid s2
    have D2 : W2.heap[w.heap.size + 4]? = some (.deferred (some [])) := (g2.block _ (by omega) (fun q => by have := (S1.out.lt _ q.symm).1; omega)).trans D1.out
    have B2 : Hid (Below w.heap.size w W2) := Lib.hid (B1.out.grown g2 (by omega) (fun r hr => by have := (S1.out.lt r hr).1; omega))
    have F2 : Hid (∀ ob, NsR NX w (.returned v2) (W2.putObj (w.heap.size + 4) ob)) := Lib.hid (by
      intro ob
      have hoff : w.heap.size ≤ W2.heap.size := by have := g2.size; omega
      refine ⟨B2.out.trans ((Only.putObj (bs := [w.heap.size + 4]) _ _ _ (by simp)).below (by intro r hr; simp at hr; omega) hoff), v2, rfl, ?_⟩
      rw [HNX'.out]
      exact (s2.only (Only.putObj (bs := [w.heap.size + 4]) _ _ _ (by simp)) (fun g' hg' hm => by have := (s2.lt g' hg').1; simp at hm; omega)).mono (by omega))
    clear s2 o2 g2 S1 B1 D1 O1 S2 B2 c2
    gi_wp2_with fail
    refine ⟨by simp, .inl ⟨_, _, rfl, run_takeDeferred D2, ?_⟩⟩
    exact ⟨v2, results_tmp (fn := Tryd.f16) (t := 4) rfl _ _ _, F2.out _⟩
  case stop =>
    intro c k W _ _ h _
    exact h.elim
set_option maxRecDepth 100000 in
set_option maxHeartbeats 4000000 in
/-- Next out of range. -/
theorem next_out (n : Nat) (sa : Option Addr) (cap : Nat) (i : Int) (w : World) (hi : ¬ (0 ≤ i ∧ i < n)) :
    Calls Tryd.prog 16 #[.slice sa n cap, .int .i64 i] w (NsR [] w) := by
  have B0 := Lib.hid ((Below.refl w.heap.size w).alloc (Nat.le_refl _) (.cells #[.slice sa n cap] 22))
  by_cases h0 : i < 0
  · clear hi
    go_enter Tryd.func16, Tryd.ntmps16
    go_wp2_with fail
    go_ret
    exact ⟨B0.out, _, rfl, Sl.nil _ _ _ _ _⟩
  · have h1 : (n : Int) ≤ i := by omega
    clear hi
    go_enter Tryd.func16, Tryd.ntmps16
    go_wp2_with fail
    go_ret
    exact ⟨B0.out, _, rfl, Sl.nil _ _ _ _ _⟩
theorem targF_len (x : In) (i : Int) : (targF x i).length ≤ x.cases.length + 2 := by
  unfold targF
  split
  · simp
  · split
    · simp
    · split
      · simp
      · split <;> simp
/-- Next. -/
theorem next16 (l : List In) (v : Value) (i : Int) (w : World) (h : InsAt w l v) (hb1 : l.length ≤ 4611686018427387904) (hb2 : ∀ x ∈ l, x.cases.length ≤ 8999999999998) :
    Calls Tryd.prog 16 #[v, .int .i64 i] w (NsR (nextF l i) w) := by
  obtain ⟨_, sa, cap, rfl⟩ := h.form
  by_cases hi : 0 ≤ i ∧ i < l.length
  · obtain ⟨k, rfl⟩ := Int.eq_ofNat_of_zero_le hi.1
    have hk : k < l.length := by omega
    refine next_in l sa cap k w h hk hb1 ?_
    have := hb2 l[k] (List.getElem_mem _)
    have := targF_len l[k] k
    omega
  · have e : nextF l i = [] := by unfold nextF; rw [dif_neg (fun q => hi ⟨q.1, by have := q.2; omega⟩)]
    rw [e]
    exact next_out _ _ _ i w hi
end Go.Proofs.YtekfnonjhcfdmaaDoor
