/- Put of the reference; the refusals of both. -/
import Derived.Test.YtbddggdbhfmlnaaCodeB
namespace Go.Rw
open Go Go.RowKit Go.Rt
/-- append(v, s...) of another slice: the run. -/
theorem Sl.many {α : Type} {w : World} {base e m : Nat} {c : α → List Value} {v : Value} {L : List α} {P : Program} {t ty : TypeId} {z : Value} {bytes b n cc : Nat} (h : Sl w base e m c v L) (hu : P.underlying t = some (.slice e)) (hi : (P.info? e).map (fun i => (i.zero, i.size, i.bytes)) = some (some z, m, bytes))
    (hz : z.cells.size = m) (hm : 0 < m) (hc : ∀ a, (c a).length = m) (h1 : ∀ a, ∀ u ∈ c a, u.oneCell' = true) (A : List α) (hA : 0 < A.length) {base' : Nat} (hs : Sl w base' e m c (.slice (some ⟨b, 0, none⟩) n cc) A)
    (hl : L.length + A.length ≤ 1000000000000) (hby : (L.length + A.length) * bytes ≤ 140737488355328) (hbase : base ≤ w.heap.size) :
    ∃ (g cap : Nat) (W2 : World), (Builtin.append_ #[t, t] ty #[v, .slice (some ⟨b, 0, none⟩) n cc]).run P w = .ok (.slice (some ⟨g, 0, none⟩) (L.length + A.length) cap) W2 ∧ Sl W2 base e m c (.slice (some ⟨g, 0, none⟩) (L.length + A.length) cap) (L ++ A) ∧ w.grownBy W2 v.ownBlock := by
  obtain ⟨i0, hi0, hz0, hz1, hz2⟩ := info_parts hi
  obtain rfl : n = A.length := by
    rcases hs.form with ⟨e, _⟩ | ⟨g', c', e, _⟩
    · cases e
    · cases e; rfl
  obtain ⟨v', W2, hrun, hown, hgrow, _⟩ := run_append_own (P := P) w base t ty e i0 z m bytes hu hi0 hz0 hz1 hz2 hz hm v L.length (L.flatMap c) h ⟨b, 0, none⟩ A.length cc (A.flatMap c) (flat_len hc A)
    (fun j u hj => by
      have hlt : j < A.length * m := by have := (List.getElem?_eq_some_iff.1 hj).1; rwa [flat_len hc A] at this
      rw [add_none, Nat.zero_add, World.ownsRow.cellAt hs j hlt]; exact hj)
    (fun u hu' => by obtain ⟨a, _, ha⟩ := List.mem_flatMap.1 hu'; exact h1 a u ha) (by unfold maxLen; omega) hby hbase
  have hown' : Sl W2 base e m c v' (L ++ A) := by
    unfold Sl
    rw [List.flatMap_append]
    simpa using hown
  rcases hown'.form with ⟨_, h0⟩ | ⟨g, cap, rfl, _⟩
  · have := congrArg List.length h0; rw [List.length_append, List.length_nil] at this; omega
  · simp only [List.length_append] at hrun hown'
    exact ⟨g, cap, W2, hrun, hown', hgrow⟩
end Go.Rw
namespace Go.Proofs.Ytbddggdbhfmlnaa
open Go.RowKit Go.Rt Go.Rw Go.Mp Go.Lib

theorem put_bad (id left : Int) (fi : Bool) (data : ByteArray) (w : World) (hs : data.size ≤ 9223372036854775807) (hv : validB id left data = false) :
    Calls Try.prog 21 #[.agg #[.int .i64 id, .bool fi, .int .i64 left, .string data]] w fun e w' => e = .returned (.tuple #[.string ByteArray.empty, .int .i64 2]) ∧ Below w.heap.size w w' := by
  go_enter Try.func21, Try.ntmps21
  go_wp2_with fail
  refine (valid_no id left fi data _ hs hv).mono ?_
  rintro e w1 ⟨rfl, b1⟩
  have B1 := Lib.hid b1
  clear b1
  go_wp2
  go_ret2
  exact ⟨rfl, ((Below.refl _ _).alloc (Nat.le_refl _) _).trans (B1.out.mono (by simp))⟩
theorem rput_bad (id left : Int) (fi : Bool) (data : ByteArray) (w : World) (hs : data.size ≤ 9223372036854775807) (hv : validB id left data = false) :
    Calls Try.prog 22 #[.agg #[.int .i64 id, .bool fi, .int .i64 left, .string data]] w fun e w' => e = .returned (.tuple #[.string ByteArray.empty, .int .i64 2]) ∧ Below w.heap.size w w' := by
  go_enter Try.func22, Try.ntmps22
  go_wp2_with fail
  refine (rvalid_no id left fi data _ hs hv).mono ?_
  rintro e w1 ⟨rfl, b1⟩
  have B1 := Lib.hid b1
  clear b1
  go_wp2
  go_ret2
  exact ⟨rfl, ((Below.refl _ _).alloc (Nat.le_refl _) _).trans (B1.out.mono (by simp))⟩
end Go.Proofs.Ytbddggdbhfmlnaa
