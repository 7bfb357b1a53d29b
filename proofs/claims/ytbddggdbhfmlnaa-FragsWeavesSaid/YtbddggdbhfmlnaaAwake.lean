/- awake: a message is cut and gathered. -/
import Derived.Test.YtbddggdbhfmlnaaFed
namespace Go.Proofs.Ytbddggdbhfmlnaa
open Go.RowKit Go.Rt Go.Rw Go.Mp Go.Lib
attribute [local go_sem] guard30

theorem abc_cut : cutL 7 ⟨#[97, 98, 99]⟩ 2 = [(7, true, 2, ⟨#[97, 98]⟩), (7, false, 1, ⟨#[99]⟩)] := by rfl
theorem abc_feed1 : feedF [] 7 true 2 ⟨#[97, 98]⟩ = (ByteArray.empty, false, 0, [(7, (⟨#[97, 98]⟩, 1))]) := by rfl
theorem abc_feed2 : feedF [(7, (⟨#[97, 98]⟩, 1))] 7 false 1 ⟨#[99]⟩ = (⟨#[97, 98, 99]⟩, true, 0, []) := by rfl
theorem nil_of_map {O : List OE} {P : PL} (h : O.map ab = P) : O.length = P.length := by rw [← h]; simp
theorem small_of_map {O : List OE} {P : PL} (h : O.map ab = P) (hp : ∀ p ∈ P, p.2.1.size ≤ 262144) : ∀ o ∈ O, o.2.2.1.size ≤ 262144 := by
  intro o ho
  exact hp (ab o) (by rw [← h]; exact List.mem_map_of_mem ho)

set_option maxRecDepth 100000 in
set_option maxHeartbeats 1000000 in
theorem awake_any (w : World) : Calls Try.prog 11 #[] w fun e w' => e = .returned (.bool true) ∧ Below w.heap.size w w' := by
  have hc : Calls Try.prog 12 #[.int .i64 7, .string ⟨#[97, 98, 99]⟩, .int .i64 2] w fun e w' => ∃ v, e = .returned (.tuple #[v, .int .i64 0]) ∧ Sl w' w.heap.size 30 4 fc v [(7, true, 2, ⟨#[97, 98]⟩), (7, false, 1, ⟨#[99]⟩)] ∧ Below w.heap.size w w' := by
    have := cut_ok 7 ⟨#[97, 98, 99]⟩ 2 w (by omega) (by omega) (by omega) (by omega) (by decide)
    rw [abc_cut] at this
    exact this
  have HC := Lib.hid hc
  clear hc
  go_enter Try.func11, Try.ntmps11
  go_wp2_with fail
  refine HC.out.mono ?_
  rintro e w1 ⟨v, rfl, s1, b1⟩
  obtain ⟨g, cap, rfl⟩ : ∃ g cap, v = .slice (some ⟨g, 0, none⟩) 2 cap := by
    rcases s1.form with ⟨_, h0⟩ | ⟨g0, cap0, e, _⟩
    · cases h0
    · exact ⟨_, _, e⟩
  have cells : ∀ (W : World), Sl W w.heap.size 30 4 fc (.slice (some ⟨g, 0, none⟩) 2 cap) [(7, true, 2, ⟨#[97, 98]⟩), (7, false, 1, ⟨#[99]⟩)] →
      (W.cell? ⟨g, 0, none⟩ = some (.int .i64 7) ∧ W.cell? ⟨g, 1, none⟩ = some (.bool true) ∧ W.cell? ⟨g, 2, none⟩ = some (.int .i64 2) ∧ W.cell? ⟨g, 3, none⟩ = some (.string ⟨#[97, 98]⟩)) ∧
      (W.cell? ⟨g, 4, none⟩ = some (.int .i64 7) ∧ W.cell? ⟨g, 5, none⟩ = some (.bool false) ∧ W.cell? ⟨g, 6, none⟩ = some (.int .i64 1) ∧ W.cell? ⟨g, 7, none⟩ = some (.string ⟨#[99]⟩)) := by
    intro W hs
    exact ⟨⟨hs.cell fc_len 0 0 (by simp) (by omega), hs.cell fc_len 0 1 (by simp) (by omega), hs.cell fc_len 0 2 (by simp) (by omega), hs.cell fc_len 0 3 (by simp) (by omega)⟩,
      hs.cell fc_len 1 0 (by simp) (by omega), hs.cell fc_len 1 1 (by simp) (by omega), hs.cell fc_len 1 2 (by simp) (by omega), hs.cell fc_len 1 3 (by simp) (by omega)⟩
  have CL := Lib.hid cells
  clear cells
  obtain ⟨⟨a0, a1, a2, a3⟩, a4, a5, a6, a7⟩ := CL.out _ s1
  have S1 := Lib.hid s1
  have B1 := Lib.hid b1
  clear s1 b1
  go_wp2_with fail
  refine (new_any _).mono ?_
  rintro e w2 ⟨rfl, g2, b2⟩
  have s2 := S1.out.below b2 (fun g' hg' => (S1.out.lt g' hg').2)
  have B2 := Lib.hid (B1.out.trans (b2.mono B1.out.size))
  obtain ⟨⟨a0, a1, a2, a3⟩, _⟩ := CL.out _ s2
  have S2 := Lib.hid s2
  have G2 := Lib.hid g2
  clear s2 b2 g2
  go_wp2_with fail
  refine (feed_any _ G2.out (by simp) (by simp) _ _ _ _ (by decide)).mono ?_
  simp only [List.map_nil, abc_feed1]
  rintro e w3 ⟨rfl, ⟨O3, g3, hO3⟩, f3⟩
  have s3 := f3.sl S2.out (by decide)
  have B3 := Lib.hid (B2.out.trans (f3.bel.mono B1.out.size))
  obtain ⟨_, a4', a5', a6', a7'⟩ := CL.out _ s3
  have HO3 := Lib.hid hO3
  have G3 := Lib.hid g3
  clear s3 f3 g3 hO3
  go_wp2_with fail
  refine (feed_any _ G3.out (by rw [nil_of_map HO3.out]; simp) (small_of_map HO3.out (by intro p hp; simp only [List.mem_singleton] at hp; subst hp; decide)) _ _ _ _ (by decide)).mono ?_
  simp only [HO3.out, abc_feed2]
  rintro e w4 ⟨rfl, ⟨O4, g4, hO4⟩, f4⟩
  have hO4' : O4 = [] := by simpa using hO4
  subst hO4'
  have B4 := Lib.hid (B3.out.trans (f4.bel.mono B1.out.size))
  have G4 := Lib.hid g4
  clear f4 g4 hO4
  go_wp2_with fail
  refine (open_any _ G4.out (by simp)).mono ?_
  rintro e w' ⟨rfl, rfl⟩
  go_wp2
  go_ret
  exact ⟨rfl, B4.out⟩
end Go.Proofs.Ytbddggdbhfmlnaa
