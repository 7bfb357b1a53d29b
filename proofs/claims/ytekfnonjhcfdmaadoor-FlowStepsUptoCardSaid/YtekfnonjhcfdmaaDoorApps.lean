/- A list that is read is appended to an owned one. No condition beyond the premises of each theorem. -/
import Derived.Test.YtekfnonjhcfdmaaDoorPush
import Derived.Test.YtekfnonjhcfdmaaDoorMem
import Derived.Test.YtekfnonjhcfdmaaDoorSorts
import Derived.Laws.OwnMore
namespace Go.Rw
open Go Go.RowKit Go.Rt
/-- Nothing is appended. -/
theorem run_app_zero {P : Program} {α : Type} {w : World} {base m : Nat} {e : TypeId} {c : α → List Value} {v : Value} {L : List α} {t ty : TypeId} {i : TypeInfo} (ht : P.underlying t = some (.slice e)) (hi : P.info? e = some i) (h : Sl w base e m c v L) (sa : Option Addr) (cap : Nat) :
    (Builtin.append_ #[t, t] ty #[v, .slice sa 0 cap]).run P w = .ok v w := by
  have hf : (Builtin.firstCells i.size 0 (.slice sa 0 cap)).run P w = .ok #[] w := by
    cases sa with
    | none => simp [Builtin.firstCells]
    | some a => exact run_firstCells_some w i.size 0 a 0 cap [] (by simp) (fun j u h => by simp at h)
  rcases h.form with ⟨rfl, rfl⟩ | ⟨g, cp, rfl, _, _, hle, _⟩
  · simp [Builtin.append_, run_underlying ht, sizeOf, typeInfo, hi, Builtin.lenOf, hf]
  · simp [Builtin.append_, run_underlying ht, sizeOf, typeInfo, hi, Builtin.lenOf, hf, hle, storeCells]
/-- A list that is read is appended. -/
theorem Sl.apps {P : Program} {α : Type} {w : World} {base m : Nat} {e : TypeId} {c : α → List Value} {v u z : Value} {L M : List α} {t ty : TypeId} {bytes : Nat} (h : Sl w base e m c v L) (hu : P.underlying t = some (.slice e)) (hi : (P.info? e).map (fun i => (i.zero, i.size, i.bytes)) = some (some z, m, bytes))
    (hz : z.cells.size = m) (hm : 0 < m) (hc : ∀ a, (c a).length = m) (h1 : ∀ a, ∀ u ∈ c a, u.oneCell' = true) (k : SlAt w m c u M) (hl : L.length + M.length ≤ 100000000000000) (hby : (L.length + M.length) * bytes ≤ 140737488355328) (hbase : base ≤ w.heap.size) :
    ∃ (v' : Value) (W2 : World), (Builtin.append_ #[t, t] ty #[v, u]).run P w = .ok v' W2 ∧ Sl W2 base e m c v' (L ++ M) ∧ w.grownBy W2 v.ownBlock ∧ (v'.ownBlock = v.ownBlock ∨ v'.ownBlock = some w.heap.size) := by
  rcases k with ⟨rfl, sa, cap, rfl⟩ | ⟨b, o, cap, rfl, _, _, hcell⟩
  · obtain ⟨i0, hi0, _⟩ := info_parts hi
    exact ⟨v, w, run_app_zero hu hi0 h sa cap, by rw [List.append_nil]; exact h, ⟨rfl, rfl, rfl, Nat.le_refl _, fun _ _ _ => rfl⟩, .inl rfl⟩
  · refine h.pushs hu hi hz hm hc h1 M (fun j x hj => ?_) hl hby hbase cap
    have hlt : j < M.length * m := by
      have := (List.getElem?_eq_some_iff.1 hj).1
      rwa [flat_len hc] at this
    have hq : j / m < M.length := (Nat.div_lt_iff_lt_mul hm).2 hlt
    have e : j = j / m * m + j % m := (Nat.div_add_mod' j m).symm
    have h2 := flat_at hc M (j / m) (j % m) hq (Nat.mod_lt _ hm)
    rw [← e, hj] at h2
    have h3 := hcell (j / m) (j % m) hq (Nat.mod_lt _ hm)
    rw [Nat.add_assoc, ← e] at h3
    rw [h3, ← h2]
end Go.Rw
namespace Go.Proofs.YtekfnonjhcfdmaaDoor
open Go Go.RowKit Go.Rt Go.Rw
theorem apps23 {W : World} {B : Nat} {v u : Value} {L M : List Int} (h : Sl W B 3 1 inC v L) (k : SlAt W 1 inC u M) (hl : (L.length + M.length) * 8 ≤ 140737488355328) (hb : B ≤ W.heap.size) :
    ∃ (sa : Option Addr) (co : Nat) (W2 : World), (Builtin.append_ #[23, 23] 23 #[v, u]).run Tryd.prog W = .ok (.slice sa (L ++ M).length co) W2 ∧ Sl W2 B 3 1 inC (.slice sa (L ++ M).length co) (L ++ M) ∧ W.grownBy W2 v.ownBlock := by
  obtain ⟨v', W2, h1, h2, h3, _⟩ := h.apps (t := 23) (ty := 23) (bytes := 8) (z := .int .i64 0) Tryd.underlying23 (by kernel_rfl) (by rfl) (by decide) (fun _ => rfl) (fun a u hu => by simp [inC] at hu; rcases hu with rfl; rfl) k (by omega) hl hb
  rcases h2.form with ⟨e, hn⟩ | ⟨g, cap, e, _⟩
  · subst e
    exact ⟨none, 0, W2, by rw [hn]; exact h1, by rw [hn] at h2 ⊢; exact h2, h3⟩
  · subst e
    exact ⟨_, _, W2, h1, h2, h3⟩
theorem apps35 {W : World} {B : Nat} {v u : Value} {L M : List Ar} (h : Sl W B 38 2 arC v L) (k : SlAt W 2 arC u M) (hl : (L.length + M.length) * 16 ≤ 140737488355328) (hb : B ≤ W.heap.size) :
    ∃ (sa : Option Addr) (co : Nat) (W2 : World), (Builtin.append_ #[35, 35] 35 #[v, u]).run Tryd.prog W = .ok (.slice sa (L ++ M).length co) W2 ∧ Sl W2 B 38 2 arC (.slice sa (L ++ M).length co) (L ++ M) ∧ W.grownBy W2 v.ownBlock := by
  obtain ⟨v', W2, h1, h2, h3, _⟩ := h.apps (t := 35) (ty := 35) (bytes := 16) (z := .agg #[.int .i64 0, .int .i64 0]) Tryd.underlying35 (by kernel_rfl) (by rfl) (by decide) (fun _ => rfl) (fun a u hu => by simp [arC] at hu; rcases hu with rfl | rfl <;> rfl) k (by omega) hl hb
  rcases h2.form with ⟨e, hn⟩ | ⟨g, cap, e, _⟩
  · subst e
    exact ⟨none, 0, W2, by rw [hn]; exact h1, by rw [hn] at h2 ⊢; exact h2, h3⟩
  · subst e
    exact ⟨_, _, W2, h1, h2, h3⟩
end Go.Proofs.YtekfnonjhcfdmaaDoor
