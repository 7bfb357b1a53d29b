/- awake: the one call gives what the document says. -/
import Derived.Test.YtekfnonjhcfdmaaDoorLive
import Derived.Test.YtekfnonjhcfdmaaDoorEx1
namespace Go.Proofs.YtekfnonjhcfdmaaDoor
open Go.RowKit Go.Shelf Go.Rt Go.Rw

/-- A list of lists, entry by entry. -/
theorem LsAt.ents {w : World} {L : List (List Int)} {v : Value} (h : LsAt w L v) (hne : 0 < L.length) : ∃ b o cap, v = .slice (some ⟨b, o, none⟩) L.length cap ∧ ∀ i (hi : i < L.length), ∃ u, w.cell? ⟨b, o + i, none⟩ = some u ∧ SlAt w 1 inC u L[i] := by
  obtain ⟨Vs, h1, h2, h3⟩ := h
  obtain ⟨_, sa, cap, rfl⟩ := h1.len
  obtain ⟨b, o, rfl, _, hc⟩ := h1.get (by omega)
  refine ⟨b, o, cap, by rw [h2], fun i hi => ⟨Vs[i], ?_, h3 i (by omega) hi⟩⟩
  have := hc i 0 (by omega) (by omega)
  simpa [vlC] using this
theorem slat_get {w : World} {u : Value} {L : List Int} (h : SlAt w 1 inC u L) (hne : 0 < L.length) : ∃ b o cap, u = .slice (some ⟨b, o, none⟩) L.length cap ∧ ∀ i (hi : i < L.length), w.cell? ⟨b, o + i, none⟩ = some (.int .i64 L[i]) := by
  obtain ⟨_, sa, cap, rfl⟩ := h.len
  obtain ⟨b, o, rfl, _, hc⟩ := h.get hne
  refine ⟨b, o, cap, rfl, fun i hi => ?_⟩
  have := hc i 0 hi (by omega)
  simpa [inC] using this
set_option maxRecDepth 100000 in
set_option maxHeartbeats 8000000 in
theorem awake11 (w : World) (hT : TabAt 0 Lib.deBruijn64tab w) (hz : 0 < w.heap.size) : Calls Tryd.prog 11 #[] w fun e w' => e = .returned (.bool true) ∧ Below w.heap.size w w' := by
  have HT := Lib.hid hT
  have HZ := Lib.hid hz
  clear hT hz
  go_enter Tryd.func11, Tryd.ntmps11
  go_wp2_with fail
  refine (example23 w).mono ?_
  rintro e w1 ⟨b1, v1, rfl, i1⟩
  obtain ⟨_, sa, cap, e1⟩ := i1.form
  rw [show exL.length = 8 from rfl] at e1
  subst e1
  have B1 := Lib.hid b1
  obtain ⟨a1, ha⟩ : ∃ q, q = w1.heap.size := ⟨_, rfl⟩
  obtain ⟨w2, hw⟩ : ∃ W, w1.alloc (.cells #[.int .i64 0] 3) = W := ⟨_, rfl⟩
  have bb : Below w1.heap.size w1 w2 := by rw [← hw]; exact (Below.refl _ _).alloc (Nat.le_refl _) _
  have S2 : Hid (SlAt w2 1 inC (.slice (some ⟨a1, 0, none⟩) 1 1) [0]) := Lib.hid (by rw [← hw, ha]; exact (Sl.lit (base := 0) (m := 1) (e := 3) (c := inC) w1 ([0] : List Int) (fun _ => rfl) (Nat.zero_le _) (by decide)).at (fun _ => rfl))
  have I2 := Lib.hid (i1.keep bb)
  have B2 := Lib.hid (b1.trans (bb.mono b1.size))
  have HA := Lib.hid ha
  clear i1 b1 bb ha
  go_wp2_with fail
  rw [← HA.out]
  refine (live12 exL [0] _ _ 4 w2 I2.out S2.out (by decide) (fun x hx => by simp only [exL, List.mem_cons, List.not_mem_nil, or_false] at hx; rcases hx with rfl | rfl | rfl | rfl | rfl | rfl | rfl | rfl <;> decide) (fun x hx => by simp only [exL, List.mem_cons, List.not_mem_nil, or_false] at hx; rcases hx with rfl | rfl | rfl | rfl | rfl | rfl | rfl | rfl <;> decide) (by decide) (tab_below HT.out B2.out HZ.out) (Nat.lt_of_lt_of_le HZ.out B2.out.size)).mono ?_
  rintro e w3 ⟨b3, v3, R, er, rfl, hls, hsp⟩
  have B3 := Lib.hid (B2.out.trans (b3.mono B2.out.size))
  have hq : er = 0 ∧ ∃ R1 R2 R4 R6 R7, R = [[], R1, R2, [1, 2], R4, [1], R6, R7] := by
    rcases hsp with ⟨⟨_, _, h⟩, _⟩ | ⟨_, ⟨h1, _, h3⟩ | ⟨h1, _, Q, h4, h5⟩⟩
    · exact absurd rfl h
    · rw [triesF_shut (by intro k hk; simp at hk; subst hk; decide) ex_shut] at h3
      exact absurd (Prod.mk.inj h3).2.symm h1
    · exact ⟨h1, ex_ans h4 h5⟩
  obtain ⟨rfl, R1, R2, R4, R6, R7, rfl⟩ := hq
  obtain ⟨b, o, cp, rfl, hc⟩ := hls.ents (by simp)
  obtain ⟨u0, c0, s0⟩ := hc 0 (by simp)
  obtain ⟨u3, c3, s3⟩ := hc 3 (by simp)
  obtain ⟨u5, c5, s5⟩ := hc 5 (by simp)
  simp only [List.getElem_cons_zero, List.getElem_cons_succ] at s0 s3 s5
  obtain ⟨_, g0, p0, rfl⟩ := s0.len
  obtain ⟨g3, o3, p3, rfl, d3⟩ := slat_get s3 (by simp)
  obtain ⟨g5, o5, p5, rfl, d5⟩ := slat_get s5 (by simp)
  have d30 := d3 0 (by simp)
  have d31 := d3 1 (by simp)
  have d50 := d5 0 (by simp)
  simp only [List.getElem_cons_zero, List.getElem_cons_succ, List.length_cons, List.length_nil, Nat.reduceAdd, Nat.zero_add, Nat.add_zero] at c0 c3 c5 d30 d31 d50 ⊢
  clear hc hls hsp s0 s3 s5 d3 d5 b3
  go_wp2_with fail
  go_ret
  exact ⟨rfl, B3.out⟩
end Go.Proofs.YtekfnonjhcfdmaaDoor
