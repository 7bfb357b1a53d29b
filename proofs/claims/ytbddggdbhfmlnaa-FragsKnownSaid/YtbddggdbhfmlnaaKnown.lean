/- FragsKnown: the walk. -/
import Derived.Test.YtbddggdbhfmlnaaCodes
namespace Go.Proofs.Ytbddggdbhfmlnaa
open Go.RowKit Go.Rt Go.Rw Go.Mp Go.Lib
attribute [local go_sem] guard30

def aL : List FragD := [(7, true, 3, ⟨#[97, 98]⟩), (7, false, 2, ⟨#[99, 100]⟩), (7, false, 1, ⟨#[101]⟩)]
def bL : List FragD := [(7, true, 1, ⟨#[]⟩)]
theorem a_cut : cutL 7 ⟨#[97, 98, 99, 100, 101]⟩ 2 = aL := by rfl
theorem b_cut : cutL 7 ⟨#[]⟩ 5 = bL := by rfl
theorem cut_a (w : World) : Calls Try.prog 12 #[.int .i64 7, .string ⟨#[97, 98, 99, 100, 101]⟩, .int .i64 2] w fun e w' => ∃ v, e = .returned (.tuple #[v, .int .i64 0]) ∧ Sl w' w.heap.size 30 4 fc v aL ∧ Below w.heap.size w w' := by
  have := cut_ok 7 ⟨#[97, 98, 99, 100, 101]⟩ 2 w (by omega) (by omega) (by omega) (by omega) (by decide)
  rw [a_cut] at this
  exact this
theorem cut_b (w : World) : Calls Try.prog 12 #[.int .i64 7, .string ⟨#[]⟩, .int .i64 5] w fun e w' => ∃ v, e = .returned (.tuple #[v, .int .i64 0]) ∧ Sl w' w.heap.size 30 4 fc v bL ∧ Below w.heap.size w w' := by
  have := cut_ok 7 ⟨#[]⟩ 5 w (by omega) (by omega) (by omega) (by omega) (by decide)
  rw [b_cut] at this
  exact this

theorem same_lit (A : List FragD) (C : Array Value) (n : Nat) (hA : A.length ≤ maxLen) (hC : (A.flatMap fc).toArray = C) (hn : A.length = n) (v : Value) {w W : World} (s : Sl W w.heap.size 30 4 fc v A) (b : Below w.heap.size w W) :
    Calls Try.prog 14 #[v, .slice (some ⟨W.heap.size, 0, none⟩) n n] (W.alloc (.cells C 30)) fun e w' => e = .returned (.bool true) ∧ Sl w' w.heap.size 30 4 fc v A ∧ Below w.heap.size w w' ∧ Below W.heap.size W w' := by
  subst hC hn
  have l := Sl.lit (base := w.heap.size) (e := 30) (m := 4) (c := fc) W A fc_len b.size hA
  have bA : Below W.heap.size W (W.alloc (.cells (A.flatMap fc).toArray 30)) := (Below.refl _ W).alloc (Nat.le_refl _) _
  have s' := s.below bA (fun g hg => (s.lt g hg).2)
  refine (same_any A A _ _ _ (s'.at fc_len) (l.at fc_len)).mono ?_
  rintro e w' ⟨rfl, n, rfl⟩
  have bD : Below W.heap.size W ((W.alloc (.cells (A.flatMap fc).toArray 30)).drewN n) := below_drewN bA n
  exact ⟨by simp, s.below bD (fun g hg => (s.lt g hg).2), b.trans (bD.mono b.size), bD⟩

theorem feed_at {base G m : Nat} {w W : World} {P P' : PL} (h : ∃ O, GA W base G m O ∧ O.map ab = P) (b : Below w.heap.size w W) (hb : w.heap.size ≤ base) (id left : Int) (fi : Bool) (data r : ByteArray) (d : Bool) (er : Int)
    (hf : feedF P id fi left data = (r, d, er, P')) (hn : P.length ≤ 1000000) (hP : ∀ p ∈ P, p.2.1.size ≤ 262144) (hs : data.size ≤ 9223372036854775807) :
    Calls Try.prog 16 #[.pointer (some ⟨G, 0, none⟩), .agg #[.int .i64 id, .bool fi, .int .i64 left, .string data]] W fun e w' =>
      e = .returned (.tuple #[.string r, .bool d, .int .i64 er]) ∧ (∃ O, GA w' base G m O ∧ O.map ab = P') ∧ Below w.heap.size w w' := by
  obtain ⟨O, g, hO⟩ := h
  refine (feed_any _ g (by rw [nil_of_map hO]; exact hn) (small_of_map hO hP) id left fi data hs).mono ?_
  rw [hO, hf]
  rintro e w' ⟨rfl, ⟨O', g', hO'⟩, f⟩
  exact ⟨rfl, ⟨O', g', hO'⟩, b.trans (f.bel.mono hb)⟩

set_option maxRecDepth 100000 in
set_option maxHeartbeats 1000000 in
theorem known_walk (w : World) : Calls Try.prog 8 #[] w fun e w' => e = .returned (.bool true) ∧ Below w.heap.size w w' := by
  have HA := Lib.hid awake_any
  go_enter Try.func8, Try.ntmps8
  go_wp2_with fail
  refine (cut_a _).mono ?_
  rintro e w1 ⟨v1, rfl, s1, b1⟩
  have S1 := Lib.hid s1
  have B1 := Lib.hid b1
  clear s1 b1
  go_wp2_with fail
  refine (cut_b _).mono ?_
  rintro e w2 ⟨v2, rfl, s2, b2⟩
  have S2 := Lib.hid (show Sl w2 w.heap.size 30 4 fc v2 bL from Go.Joins.ownsRow_le s2 B1.out.size)
  have S1' := Lib.hid (S1.out.below b2 (fun g hg => (S1.out.lt g hg).2))
  have B2 := Lib.hid (B1.out.trans (b2.mono B1.out.size))
  clear s2 b2 B1 S1
  go_wp2_with fail
  refine (cut_arg 0 5 ⟨#[]⟩ _ rfl).mono ?_
  rintro e w3 ⟨rfl, b3⟩
  have S1 := Lib.hid (S1'.out.below b3 (fun g hg => (S1'.out.lt g hg).2))
  have S2' := Lib.hid (S2.out.below b3 (fun g hg => (S2.out.lt g hg).2))
  have B3 := Lib.hid (B2.out.trans (b3.mono B2.out.size))
  clear b3 B2 S1' S2
  go_wp2_with fail
  refine (cut_arg 7 0 ⟨#[97]⟩ _ rfl).mono ?_
  rintro e w4 ⟨rfl, b4⟩
  have S1' := Lib.hid (S1.out.below b4 (fun g hg => (S1.out.lt g hg).2))
  have S2 := Lib.hid (S2'.out.below b4 (fun g hg => (S2'.out.lt g hg).2))
  have B4 := Lib.hid (B3.out.trans (b4.mono B3.out.size))
  clear b4 B3 S1 S2'
  go_wp2_with fail
  refine (same_lit aL _ 3 (by decide) rfl rfl _ S1'.out B4.out).mono ?_
  rintro e w5 ⟨rfl, s1, b5, bb⟩
  have S1 := Lib.hid s1
  have S2' := Lib.hid (S2.out.below bb (fun g hg => (S2.out.lt g hg).2))
  have B5 := Lib.hid b5
  clear s1 b5 bb S1' S2 B4
  go_wp2_with fail
  refine (same_lit bL _ 1 (by decide) rfl rfl _ S2'.out B5.out).mono ?_
  rintro e w6 ⟨rfl, s2, b6, bb⟩
  have s1 := S1.out.below bb (fun g hg => (S1.out.lt g hg).2)
  have B6 := Lib.hid b6
  clear s2 b6 bb B5 S1 S2'
  obtain ⟨g, cap, rfl⟩ : ∃ g cap, v1 = .slice (some ⟨g, 0, none⟩) 3 cap := by
    rcases s1.form with ⟨_, h0⟩ | ⟨g0, cap0, e, _⟩
    · cases h0
    · exact ⟨_, _, e⟩
  have a0 : w6.cell? ⟨g, 0, none⟩ = some (.int .i64 7) := s1.cell fc_len 0 0 (by decide) (by omega)
  have a1 : w6.cell? ⟨g, 1, none⟩ = some (.bool true) := s1.cell fc_len 0 1 (by decide) (by omega)
  have a2 : w6.cell? ⟨g, 2, none⟩ = some (.int .i64 3) := s1.cell fc_len 0 2 (by decide) (by omega)
  have a3 : w6.cell? ⟨g, 3, none⟩ = some (.string ⟨#[97, 98]⟩) := s1.cell fc_len 0 3 (by decide) (by omega)
  clear s1
  go_wp2_with fail
  have hput : ∀ W, Calls Try.prog 21 #[fragV (7, true, 3, ⟨#[97, 98]⟩)] W fun e w' => e = .returned (.tuple #[.string ⟨#[131, 69, 0, 0, 0, 0, 0, 0, 0, 7, 0, 0, 0, 0, 0, 0, 0, 3, 97, 98]⟩, .int .i64 0]) ∧ Below W.heap.size W w' :=
    fun W => put_ok 7 3 true ⟨#[97, 98]⟩ W rfl
  refine (hput _).mono ?_
  rintro e w7 ⟨rfl, b7⟩
  have B7 := Lib.hid (B6.out.trans (b7.mono B6.out.size))
  clear b7 B6 hput
  go_wp2_with fail
  refine (new_any _).mono ?_
  rintro e w8 ⟨rfl, g8, b8⟩
  have G8 := Lib.hid g8
  have B8 := Lib.hid (B7.out.trans (b8.mono B7.out.size))
  clear g8 b8
  go_wp2_with fail
  have hE : Hid (∃ O, GA w8 w7.heap.size (w7.heap.size + 1) w7.heap.size O ∧ O.map ab = []) := Lib.hid ⟨[], G8.out, rfl⟩
  have hz := B7.out.size
  clear G8 B7
  refine (feed_at (P := []) (P' := [(7, (⟨#[97]⟩, 1))]) hE.out B8.out hz 7 2 true ⟨#[97]⟩ ByteArray.empty false 0 (by rfl) (by decide) (by decide) (by decide)).mono ?_
  rintro e w9 ⟨rfl, g9, b9⟩
  have H9 := Lib.hid g9
  have B9 := Lib.hid b9
  clear g9 b9 hE B8
  go_wp2_with fail
  refine (feed_at (P := [(7, (⟨#[97]⟩, 1))]) (P' := [(7, (⟨#[97]⟩, 1))]) H9.out B9.out hz 8 1 true ⟨#[120]⟩ ⟨#[120]⟩ true 0 (by rfl) (by decide) (by decide) (by decide)).mono ?_
  rintro e w10 ⟨rfl, g10, b10⟩
  have H10 := Lib.hid g10
  have B10 := Lib.hid b10
  clear g10 b10 H9 B9
  go_wp2_with fail
  refine (feed_at (P := [(7, (⟨#[97]⟩, 1))]) (P' := []) H10.out B10.out hz 7 1 false ⟨#[98]⟩ ⟨#[97, 98]⟩ true 0 (by rfl) (by decide) (by decide) (by decide)).mono ?_
  rintro e w11 ⟨rfl, g11, b11⟩
  have H11 := Lib.hid g11
  have B11 := Lib.hid b11
  clear g11 b11 H10 B10
  go_wp2_with fail
  refine (feed_at (P := []) (P' := []) H11.out B11.out hz 7 1 false ⟨#[98]⟩ ByteArray.empty false 6 (by rfl) (by decide) (by decide) (by decide)).mono ?_
  rintro e w12 ⟨rfl, g12, b12⟩
  have H12 := Lib.hid g12
  have B12 := Lib.hid b12
  clear g12 b12 H11 B11
  go_wp2_with fail
  refine (feed_at (P := []) (P' := [(9, (⟨#[97]⟩, 2))]) H12.out B12.out hz 9 3 true ⟨#[97]⟩ ByteArray.empty false 0 (by rfl) (by decide) (by decide) (by decide)).mono ?_
  rintro e w13 ⟨rfl, g13, b13⟩
  have H13 := Lib.hid g13
  have B13 := Lib.hid b13
  clear g13 b13 H12 B12
  go_wp2_with fail
  refine (feed_at (P := [(9, (⟨#[97]⟩, 2))]) (P' := [(9, (⟨#[97]⟩, 2))]) H13.out B13.out hz 9 1 false ⟨#[99]⟩ ByteArray.empty false 6 (by rfl) (by decide) (by decide) (by decide)).mono ?_
  rintro e w14 ⟨rfl, g14, b14⟩
  have H14 := Lib.hid g14
  have B14 := Lib.hid b14
  clear g14 b14 H13 B13
  go_wp2_with fail
  refine (feed_at (P := [(9, (⟨#[97]⟩, 2))]) (P' := [(9, (⟨#[97, 98]⟩, 1))]) H14.out B14.out hz 9 2 false ⟨#[98]⟩ ByteArray.empty false 0 (by rfl) (by decide) (by decide) (by decide)).mono ?_
  rintro e w15 ⟨rfl, g15, b15⟩
  have H15 := Lib.hid g15
  have B15 := Lib.hid b15
  clear g15 b15 H14 B14
  go_wp2_with fail
  refine (feed_at (P := [(9, (⟨#[97, 98]⟩, 1))]) (P' := []) H15.out B15.out hz 9 1 false ⟨#[99]⟩ ⟨#[97, 98, 99]⟩ true 0 (by rfl) (by decide) (by decide) (by decide)).mono ?_
  rintro e w16 ⟨rfl, g16, b16⟩
  have H16 := Lib.hid g16
  have B16 := Lib.hid b16
  clear g16 b16 H15 B15
  go_wp2_with fail
  have sz16 := B16.out.size
  refine (feed_nil _ 9 1 true _).mono ?_
  rintro e w17 ⟨rfl, b17⟩
  have B17 := Lib.hid (B16.out.trans (b17.mono sz16))
  clear b17 B16 H16 sz16 hz
  go_wp2_with fail
  refine (forget_nil _).mono ?_
  rintro e w18 ⟨rfl, rfl⟩
  go_wp2_with fail
  refine (open_nil _).mono ?_
  rintro e w19 ⟨rfl, rfl⟩
  go_wp2_with fail
  refine (HA.out _).mono ?_
  rintro e w20 ⟨rfl, b20⟩
  have B20 := Lib.hid (B17.out.trans (b20.mono B17.out.size))
  clear b20 B17
  go_wp2_with fail
  go_ret
  exact ⟨rfl, B20.out⟩
end Go.Proofs.Ytbddggdbhfmlnaa
