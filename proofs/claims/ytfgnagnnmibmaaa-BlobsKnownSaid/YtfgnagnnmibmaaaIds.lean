/- The ids of a store: the keys of its second map, sorted. -/
import Derived.Test.YtfgnagnnmibmaaaShelf
import Derived.Test.YtfgnagnnmibmaaaBoth
import Derived.Maps.Own
import Derived.Maps.OwnSet
namespace Go.Proofs.Ytfgnagnnmibmaaa
open Go.RowKit Go.Mp Go.Maps Go.Sort Go.Shelf

/-- slices.Sort's two contracts at this dump. -/
theorem sortsA (m : Nat) : AnyZI.SortsIn Try.prog Try.sortedA_ren Fence.wide m :=
  ⟨fun blk off cap ss W hH hblk hsz => callsIn_wide.2 (AnyM.slices_Sort_int Try.sortA blk off cap ss W hH hblk hsz),
   fun p cap W => callsIn_wide.2 (AnyM.slices_Sort_int_none Try.sortA p cap W)⟩

/-- How an entry's value reads: it does not matter here. -/
def rdAny : Value → Option (DataW Unit × List MemPlace) := fun _ => some (.lit (.bool false), [])
def keyNo (v : Value) : Int := match v with | .int _ n => n | _ => 0

theorem ents_own {w : World} {b : Nat} {l : List (Int × (ByteArray × Int))} (h : MapAt w b intV entV l) (hl : l.length ≤ 1000000) (hw : ∀ p ∈ l, (Lit.int .i64 p.1).wf = true) :
    ∃ D0 : DataW Unit, w.ownsMap Try.prog 3 rdAny b l.length D0 ∧ (intKeys D0).Perm (l.map (fun p => p.1)) ∧ Maps.size D0 = l.length := by
  obtain ⟨es, c, hb, he, hst⟩ := h
  have hsz : es.size = l.length := by have := congrArg List.length he; simpa using this
  have hrd : ∀ x ∈ es.toList, ∃ n : Int, x.key = .int .i64 n ∧ Go.WideElems.rd Try.prog 3 rdAny x = some (.int .i64 n, .lit (.bool false)) := by
    intro x hx
    have hm : (x.key, x.val) ∈ l.map (fun p => (intV p.1, entV p.2)) := he ▸ List.mem_map.2 ⟨x, hx, rfl⟩
    obtain ⟨p, hp, e⟩ := List.mem_map.1 hm
    simp only [Prod.mk.injEq] at e
    refine ⟨p.1, e.1.symm, ?_⟩
    unfold Go.WideElems.rd
    rw [← e.1, Go.Maps.keyOf_int_mk u3 (hw p hp)]
    rfl
  refine ⟨_, ⟨es, c, hb, ⟨by rw [hsz]; unfold maxLen; omega, hst, fun x hx => ?_⟩, by omega, rfl⟩, ?_, ?_⟩
  · obtain ⟨n, _, h2⟩ := hrd x hx
    exact ⟨_, h2⟩
  · have e1 : ∀ x ∈ es.toList, Go.intOf (Go.WideElems.rg Try.prog 3 rdAny x).1 = keyNo x.key := by
      intro x hx
      obtain ⟨n, h1, h2⟩ := hrd x hx
      rw [Go.WideElems.rg_of h2, h1]
      rfl
    have e2 : (es.toList.map (Go.WideElems.rg Try.prog 3 rdAny)).map (fun p => Go.intOf p.1) = l.map (fun p => p.1) := by
      rw [List.map_map]
      have : es.toList.map ((fun p => Go.intOf p.1) ∘ Go.WideElems.rg Try.prog 3 rdAny) = (es.toList.map (fun e => (e.key, e.val))).map (fun q => keyNo q.1) := by
        rw [List.map_map]
        exact List.map_congr_left fun x hx => e1 x hx
      rw [this, he, List.map_map]
      rfl
    rw [← e2]
    exact (Go.WideShapes.sorted_perm _).map _
  · simp [Maps.size, length_sorted, hsz]

theorem sort_same {ss l : List Int} (h : ss.Perm l) (hl : l.Pairwise (· < ·)) : ss.mergeSort (fun x y => decide (x ≤ y)) = l := by
  have e := mergeSort_of_perm_i h
  rw [show ss.mergeSort (fun x y => decide (x ≤ y)) = ss.mergeSort leI from rfl, e]
  exact List.mergeSort_of_pairwise (hl.imp fun h => by simp only [leI, decide_eq_true_eq]; omega)

set_option maxHeartbeats 1000000 in
theorem ids_any {B m1 m2 : Nat} {L : List Blob} {g : Int} {n : Nat} (w : World) (h : SL w B m1 m2 L g) (hi : Inv L g n) (hn : n ≤ 1000000) :
    Calls Try.prog 19 #[.pointer (some ⟨B, 0, none⟩)] w fun e w' => ∃ v : Value, e = .returned v ∧ w'.ownsRow w.heap.size 3 1 v L.length (L.map (fun b => intV b.1)) ∧ (v = .slice none 0 0 ↔ L = []) ∧ Below w.heap.size w w' := by
  refine (callsIn_wide (n := 6)).1 ?_
  have c0 := h.c0
  have c1 := h.c1
  have hll := hi.len
  have hg1 := hi.g1
  obtain ⟨D0, hown, hperm, hsize⟩ := ents_own h.h2 (by simp; omega) (fun p hp => by
    obtain ⟨b, hb, rfl⟩ := List.mem_map.1 hp
    have := hi.each b hb
    simp [Lit.wf, fE, IntKind.min, IntKind.max, IntKind.signed, IntKind.bits]
    omega)
  rw [List.length_map] at hown hsize
  have hbl := hown.lt
  have hmax : Maps.size D0 ≤ maxLen := by unfold maxLen; omega
  have hbytes : Maps.size D0 * 8 ≤ 140737488355328 := by omega
  have hseq : SeqGives Fence.wide 2 Try.prog 35 #[.pointer (some ⟨w.heap.size, 0, none⟩)] encZ (fun ss => ss.Perm (intKeys D0)) (Maps.size D0) (w.alloc (.cells #[.map (some m2)] 55)) :=
    AnyZI.keys_gives (ρ := Try.keysA_ren) { Try.keysA with } Fence.wide _ trivial rfl (by omega) w.heap.size m2 L.length D0 _ (by simp) (by simp) (by
      obtain ⟨es, clock, hb, Ft, hs, hD⟩ := hown
      exact ⟨es, clock, (Below.heap_alloc _ _ m2 hbl).trans hb, Ft, hs, hD⟩)
  have cK : ∀ mb W, CallsIn Fence.wide 5 Try.prog 31 #[.map mb] W fun e w' => e = .returned (.func (.func 35) #[] #[.pointer (some ⟨W.heap.size, 0, none⟩)]) ∧ w' = W.alloc (.cells #[.map mb] 55) := fun mb W => AnyZI.keys_in Try.keysA Fence.wide 5 trivial rfl mb W
  have cS := AnyZI.sorted_in Try.sortedA Fence.wide 5 trivial trivial trivial trivial rfl (by omega) (sortsA _) (enters_of Try.func34 (by kernel_rfl) rfl) 35 #[.pointer (some ⟨w.heap.size, 0, none⟩)] trivial (enters_of Try.func35 (by kernel_rfl) rfl) _ _ hmax hbytes _ hseq
  change CallsIn _ _ Try.prog 30 _ _ _ at cS
  have cM : CallsIn Fence.wide 5 Try.prog 28 #[.pointer (some ⟨B, 0, none⟩)] w fun e w' => e = .returned (.bool true) ∧ w = w' := callsIn_wide.2 (made_yes _ _ _ c0)
  have hfK : Fence.wide.fn 31 := trivial
  have hfS : Fence.wide.fn 30 := trivial
  have hfM : Fence.wide.fn 28 := trivial
  have hasc : (L.map (fun b => b.1)).Pairwise (· < ·) := hi.ids
  have hfE : (L.map fE).map (fun p => p.1) = L.map (fun b => b.1) := by rw [List.map_map]; rfl
  have HP := Lib.hid (And.intro hperm (And.intro hfE hasc))
  clear hperm hfE hasc hown hsize hmax hbytes hseq
  refine callsIn_of_wp Try.func19 rfl trivial ?_ rfl
  simp only [Try.ntmps19, List.size_toArray, List.length_cons, List.length_nil, Nat.reduceAdd, Nat.reduceSub, Array.replicate_succ, Array.replicate_zero, List.push_toArray, List.append_toArray, List.nil_append, List.cons_append]
  gi_wp2_with (first
    | (gi_at_call 28; refine cM.mono ?_; rintro e w' ⟨rfl, rfl⟩)
    | (gi_at_call 31; refine (cK _ _).mono ?_; rintro e w' ⟨rfl, rfl⟩)
    | (gi_at_call 30; refine cS.mono ?_; rintro e w' ⟨v, ss, rfl, hS, hrow, hnil, hb⟩))
  go_ret
  obtain ⟨hperm, hfE, hasc⟩ := HP.out
  have hp2 : ss.Perm (L.map (fun b => b.1)) := hfE ▸ hS.trans hperm
  have hlen : ss.length = L.length := by rw [hp2.length_eq, List.length_map]
  rw [sort_same hp2 hasc, hlen, List.map_map] at hrow
  refine ⟨v, rfl, ownsRow_base_a hrow (by simp), ?_, ((Below.refl _ w).alloc (Nat.le_refl _) _).trans (hb.mono (by simp))⟩
  rw [hnil, ← List.length_eq_zero_iff, hlen, List.length_eq_zero_iff]

end Go.Proofs.Ytfgnagnnmibmaaa
