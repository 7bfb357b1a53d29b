/- append(v, many...): the run, for an owned slice as a list. No condition beyond the premises. -/
import Derived.Test.YtoaimoemaoinhaaGreatDoorLists
import Derived.Maps.AppendAt
namespace Go.Rw
open Go Go.RowKit Go.Rt
variable {α : Type} {w : World} {base e m : Nat} {c : α → List Value} {v : Value} {L : List α}
theorem Sl.pushs {P : Program} {t ty : TypeId} {z : Value} {bytes b o : Nat} (h : Sl w base e m c v L) (hu : P.underlying t = some (.slice e)) (hi : (P.info? e).map (fun i => (i.zero, i.size, i.bytes)) = some (some z, m, bytes))
    (hz : z.cells.size = m) (hm : 0 < m) (hc : ∀ a, (c a).length = m) (h1 : ∀ a, ∀ u ∈ c a, u.oneCell' = true) (M : List α) (hb : ∀ j u, (M.flatMap c)[j]? = some u → w.cell? ⟨b, o + j, none⟩ = some u)
    (hl : L.length + M.length ≤ 1000000000000) (hby : (L.length + M.length) * bytes ≤ 140737488355328) (hbase : base ≤ w.heap.size) (cc : Nat) :
    ∃ (v' : Value) (W2 : World), (Builtin.append_ #[t, t] ty #[v, .slice (some ⟨b, o, none⟩) M.length cc]).run P w = .ok v' W2 ∧ Sl W2 base e m c v' (L ++ M) ∧ w.grownBy W2 v.ownBlock ∧ (v'.ownBlock = v.ownBlock ∨ v'.ownBlock = some w.heap.size) := by
  obtain ⟨i0, hi0, hz0, hz1, hz2⟩ := info_parts hi
  obtain ⟨v', W2, hrun, hown, hgrow, _, hwh⟩ := run_append_own_at (P := P) w base t ty e i0 z m bytes hu hi0 hz0 hz1 hz2 hz hm v L.length (L.flatMap c) h ⟨b, o, none⟩ M.length cc (M.flatMap c) (flat_len hc M)
    (fun j u hj => by rw [add_none]; exact hb j u hj) (fun u hu => by obtain ⟨a, _, ha⟩ := List.mem_flatMap.1 hu; exact h1 a u ha) (by unfold maxLen; omega) hby hbase
  refine ⟨v', W2, hrun, ?_, hgrow, hwh⟩
  unfold Sl
  rw [List.flatMap_append, List.length_append]
  exact hown
end Go.Rw
