/- WireKnown: the walk. -/
import Derived.Test.YtcpdmlnodhokmaaCode
namespace Go.Proofs.Ytcpdmlnodhokmaa
open Go.RowKit Go.Rt Go.Rw

set_option maxRecDepth 100000 in
set_option maxHeartbeats 2000000 in
theorem known_walk (w : World) : Calls Try.prog 8 #[] w fun e w' => e = .returned (.bool true) ∧ Below w.heap.size w w' := by
  have bb0 := ((Below.refl w.heap.size w).alloc (Nat.le_refl _) (.cells #[.int .i64 2, .int .i64 0, .int .i64 0, .string ⟨#[111, 107]⟩, .string ⟨#[]⟩, .int .i64 0, .slice none 0 0, .string ⟨#[]⟩, .int .i64 0] 25)).alloc (by simp) (.cells #[.int .i64 8, .int .i64 0, .int .i64 0, .string ⟨#[]⟩, .string ⟨#[]⟩, .int .i64 0, .slice none 0 0, .string ⟨#[]⟩, .int .i64 0] 25)
  have Xo_0 := Lib.hid ((Blk.new w 25 #[.int .i64 2, .int .i64 0, .int .i64 0, .string ⟨#[111, 107]⟩, .string ⟨#[]⟩, .int .i64 0, .slice none 0 0, .string ⟨#[]⟩, .int .i64 0]).alloc (.cells #[.int .i64 8, .int .i64 0, .int .i64 0, .string ⟨#[]⟩, .string ⟨#[]⟩, .int .i64 0, .slice none 0 0, .string ⟨#[]⟩, .int .i64 0] 25))
  have xy0 := Blk.new (w.alloc (.cells #[.int .i64 2, .int .i64 0, .int .i64 0, .string ⟨#[111, 107]⟩, .string ⟨#[]⟩, .int .i64 0, .slice none 0 0, .string ⟨#[]⟩, .int .i64 0] 25)) 25 #[.int .i64 8, .int .i64 0, .int .i64 0, .string ⟨#[]⟩, .string ⟨#[]⟩, .int .i64 0, .slice none 0 0, .string ⟨#[]⟩, .int .i64 0]
  simp only [World.size_alloc] at xy0
  have Xn_0 := Lib.hid xy0
  have B_0 := Lib.hid bb0
  clear bb0 xy0
  go_enter Try.func8, Try.ntmps8
  go_upto_region 3 with fail
  generalize (w.alloc (.cells #[.int .i64 2, .int .i64 0, .int .i64 0, .string ⟨#[111, 107]⟩, .string ⟨#[]⟩, .int .i64 0, .slice none 0 0, .string ⟨#[]⟩, .int .i64 0] 25)).alloc (.cells #[.int .i64 8, .int .i64 0, .int .i64 0, .string ⟨#[]⟩, .string ⟨#[]⟩, .int .i64 0, .slice none 0 0, .string ⟨#[]⟩, .int .i64 0] 25) = v0 at Xo_0 Xn_0 B_0 ⊢
  go_wp2_with fail
  refine (int21 255 _).mono ?_
  rintro e v1 ⟨rfl, bb⟩
  have Xo_1 := Lib.hid (Xo_0.out.below bb Xo_0.out.lt)
  have Xn_1 := Lib.hid (Xn_0.out.below bb Xn_0.out.lt)
  have B_1 := Lib.hid (B_0.out.trans (bb.mono B_0.out.size))
  clear bb
  clear B_0 Xo_0 Xn_0
  have K : ∀ W, Calls Try.prog 20 #[.agg #[.int .i64 1, .int .i64 255, .int .i64 0, .string ⟨#[]⟩, .string ⟨#[]⟩, .int .i64 0, .slice none 0 0, .string ⟨#[]⟩, .int .i64 0]] W fun e w' => e = .returned (.string ⟨#[97, 255]⟩) ∧ Below W.heap.size W w' := code_flat ⟨1, 255, 0, ⟨#[]⟩, ⟨#[]⟩, 0, ⟨#[]⟩, 0⟩ ⟨#[97, 255]⟩ (by decide +kernel) (by unfold fitF; decide) (by decide +kernel)
  go_wp2_with fail
  refine (K _).mono ?_
  rintro e v2 ⟨rfl, bb⟩
  have Xo_2 := Lib.hid (Xo_1.out.below bb Xo_1.out.lt)
  have Xn_2 := Lib.hid (Xn_1.out.below bb Xn_1.out.lt)
  have B_2 := Lib.hid (B_1.out.trans (bb.mono B_1.out.size))
  clear bb
  clear B_1 Xo_1 Xn_1
  clear K
  have hst : (ByteArray.toList ⟨#[97, 255]⟩ == ByteArray.toList ⟨#[97, 255]⟩) = true := beq_self_eq_true _
  go_wp2_with fail
  refine (int21 256 _).mono ?_
  rintro e v3 ⟨rfl, bb⟩
  have Xo_3 := Lib.hid (Xo_2.out.below bb Xo_2.out.lt)
  have Xn_3 := Lib.hid (Xn_2.out.below bb Xn_2.out.lt)
  have B_3 := Lib.hid (B_2.out.trans (bb.mono B_2.out.size))
  clear bb
  clear B_2 Xo_2 Xn_2
  have K : ∀ W, Calls Try.prog 20 #[.agg #[.int .i64 1, .int .i64 256, .int .i64 0, .string ⟨#[]⟩, .string ⟨#[]⟩, .int .i64 0, .slice none 0 0, .string ⟨#[]⟩, .int .i64 0]] W fun e w' => e = .returned (.string ⟨#[98, 0, 0, 1, 0]⟩) ∧ Below W.heap.size W w' := code_flat ⟨1, 256, 0, ⟨#[]⟩, ⟨#[]⟩, 0, ⟨#[]⟩, 0⟩ ⟨#[98, 0, 0, 1, 0]⟩ (by decide +kernel) (by unfold fitF; decide) (by decide +kernel)
  go_wp2_with fail
  refine (K _).mono ?_
  rintro e v4 ⟨rfl, bb⟩
  have Xo_4 := Lib.hid (Xo_3.out.below bb Xo_3.out.lt)
  have Xn_4 := Lib.hid (Xn_3.out.below bb Xn_3.out.lt)
  have B_4 := Lib.hid (B_3.out.trans (bb.mono B_3.out.size))
  clear bb
  clear B_3 Xo_3 Xn_3
  clear K
  have hst : (ByteArray.toList ⟨#[98, 0, 0, 1, 0]⟩ == ByteArray.toList ⟨#[98, 0, 0, 1, 0]⟩) = true := beq_self_eq_true _
  go_wp2_with fail
  refine (int21 (-1) _).mono ?_
  rintro e v5 ⟨rfl, bb⟩
  have Xo_5 := Lib.hid (Xo_4.out.below bb Xo_4.out.lt)
  have Xn_5 := Lib.hid (Xn_4.out.below bb Xn_4.out.lt)
  have B_5 := Lib.hid (B_4.out.trans (bb.mono B_4.out.size))
  clear bb
  clear B_4 Xo_4 Xn_4
  have K : ∀ W, Calls Try.prog 20 #[.agg #[.int .i64 1, .int .i64 (-1), .int .i64 0, .string ⟨#[]⟩, .string ⟨#[]⟩, .int .i64 0, .slice none 0 0, .string ⟨#[]⟩, .int .i64 0]] W fun e w' => e = .returned (.string ⟨#[98, 255, 255, 255, 255]⟩) ∧ Below W.heap.size W w' := code_flat ⟨1, (-1), 0, ⟨#[]⟩, ⟨#[]⟩, 0, ⟨#[]⟩, 0⟩ ⟨#[98, 255, 255, 255, 255]⟩ (by decide +kernel) (by unfold fitF; decide) (by decide +kernel)
  go_wp2_with fail
  refine (K _).mono ?_
  rintro e v6 ⟨rfl, bb⟩
  have Xo_6 := Lib.hid (Xo_5.out.below bb Xo_5.out.lt)
  have Xn_6 := Lib.hid (Xn_5.out.below bb Xn_5.out.lt)
  have B_6 := Lib.hid (B_5.out.trans (bb.mono B_5.out.size))
  clear bb
  clear B_5 Xo_5 Xn_5
  clear K
  have hst : (ByteArray.toList ⟨#[98, 255, 255, 255, 255]⟩ == ByteArray.toList ⟨#[98, 255, 255, 255, 255]⟩) = true := beq_self_eq_true _
  go_wp2_with fail
  refine (int21 2147483648 _).mono ?_
  rintro e v7 ⟨rfl, bb⟩
  have Xo_7 := Lib.hid (Xo_6.out.below bb Xo_6.out.lt)
  have Xn_7 := Lib.hid (Xn_6.out.below bb Xn_6.out.lt)
  have B_7 := Lib.hid (B_6.out.trans (bb.mono B_6.out.size))
  clear bb
  clear B_6 Xo_6 Xn_6
  have K : ∀ W, Calls Try.prog 20 #[.agg #[.int .i64 1, .int .i64 2147483648, .int .i64 0, .string ⟨#[]⟩, .string ⟨#[]⟩, .int .i64 0, .slice none 0 0, .string ⟨#[]⟩, .int .i64 0]] W fun e w' => e = .returned (.string ⟨#[110, 4, 0, 0, 0, 0, 128]⟩) ∧ Below W.heap.size W w' := code_flat ⟨1, 2147483648, 0, ⟨#[]⟩, ⟨#[]⟩, 0, ⟨#[]⟩, 0⟩ ⟨#[110, 4, 0, 0, 0, 0, 128]⟩ (by decide +kernel) (by unfold fitF; decide) (by decide +kernel)
  go_wp2_with fail
  refine (K _).mono ?_
  rintro e v8 ⟨rfl, bb⟩
  have Xo_8 := Lib.hid (Xo_7.out.below bb Xo_7.out.lt)
  have Xn_8 := Lib.hid (Xn_7.out.below bb Xn_7.out.lt)
  have B_8 := Lib.hid (B_7.out.trans (bb.mono B_7.out.size))
  clear bb
  clear B_7 Xo_7 Xn_7
  clear K
  have hst : (ByteArray.toList ⟨#[110, 4, 0, 0, 0, 0, 128]⟩ == ByteArray.toList ⟨#[110, 4, 0, 0, 0, 0, 128]⟩) = true := beq_self_eq_true _
  go_wp2_with fail
  refine (int21 (-9223372036854775808) _).mono ?_
  rintro e v9 ⟨rfl, bb⟩
  have Xo_9 := Lib.hid (Xo_8.out.below bb Xo_8.out.lt)
  have Xn_9 := Lib.hid (Xn_8.out.below bb Xn_8.out.lt)
  have B_9 := Lib.hid (B_8.out.trans (bb.mono B_8.out.size))
  clear bb
  clear B_8 Xo_8 Xn_8
  have K : ∀ W, Calls Try.prog 20 #[.agg #[.int .i64 1, .int .i64 (-9223372036854775808), .int .i64 0, .string ⟨#[]⟩, .string ⟨#[]⟩, .int .i64 0, .slice none 0 0, .string ⟨#[]⟩, .int .i64 0]] W fun e w' => e = .returned (.string ⟨#[110, 8, 1, 0, 0, 0, 0, 0, 0, 0, 128]⟩) ∧ Below W.heap.size W w' := code_flat ⟨1, (-9223372036854775808), 0, ⟨#[]⟩, ⟨#[]⟩, 0, ⟨#[]⟩, 0⟩ ⟨#[110, 8, 1, 0, 0, 0, 0, 0, 0, 0, 128]⟩ (by decide +kernel) (by unfold fitF; decide) (by decide +kernel)
  go_wp2_with fail
  refine (K _).mono ?_
  rintro e v10 ⟨rfl, bb⟩
  have Xo_10 := Lib.hid (Xo_9.out.below bb Xo_9.out.lt)
  have Xn_10 := Lib.hid (Xn_9.out.below bb Xn_9.out.lt)
  have B_10 := Lib.hid (B_9.out.trans (bb.mono B_9.out.size))
  clear bb
  clear B_9 Xo_9 Xn_9
  clear K
  have hst : (ByteArray.toList ⟨#[110, 8, 1, 0, 0, 0, 0, 0, 0, 0, 128]⟩ == ByteArray.toList ⟨#[110, 8, 1, 0, 0, 0, 0, 0, 0, 0, 128]⟩) = true := beq_self_eq_true _
  have K : ∀ W, Calls Try.prog 20 #[.agg #[.int .i64 2, .int .i64 0, .int .i64 0, .string ⟨#[111, 107]⟩, .string ⟨#[]⟩, .int .i64 0, .slice none 0 0, .string ⟨#[]⟩, .int .i64 0]] W fun e w' => e = .returned (.string ⟨#[119, 2, 111, 107]⟩) ∧ Below W.heap.size W w' := code_flat ⟨2, 0, 0, ⟨#[111, 107]⟩, ⟨#[]⟩, 0, ⟨#[]⟩, 0⟩ ⟨#[119, 2, 111, 107]⟩ (by decide +kernel) (by unfold fitF; decide) (by decide +kernel)
  go_wp2_with (first
    | (refine wpList_load_blk rfl 25 _ rfl (w.heap.size) rfl _ 25 _ Xo_10.out Try.underlying25 rfl info25 ?_)
    | (refine wpList_load_blk rfl 25 _ rfl (w.heap.size + 1) rfl _ 25 _ Xn_10.out Try.underlying25 rfl info25 ?_))
  clear hst
  refine (K _).mono ?_
  rintro e v11 ⟨rfl, bb⟩
  have Xo_11 := Lib.hid (Xo_10.out.below bb Xo_10.out.lt)
  have Xn_11 := Lib.hid (Xn_10.out.below bb Xn_10.out.lt)
  have B_11 := Lib.hid (B_10.out.trans (bb.mono B_10.out.size))
  clear bb
  clear B_10 Xo_10 Xn_10
  clear K
  have hst : (ByteArray.toList ⟨#[119, 2, 111, 107]⟩ == ByteArray.toList ⟨#[119, 2, 111, 107]⟩) = true := beq_self_eq_true _
  have K : ∀ W, Calls Try.prog 20 #[.agg #[.int .i64 7, .int .i64 0, .int .i64 0, .string ⟨#[]⟩, .string ⟨#[]⟩, .int .i64 0, .slice none 0 0, .string ⟨#[]⟩, .int .i64 0]] W fun e w' => e = .returned (.string ⟨#[104, 0]⟩) ∧ Below W.heap.size W w' := code_flat ⟨7, 0, 0, ⟨#[]⟩, ⟨#[]⟩, 0, ⟨#[]⟩, 0⟩ ⟨#[104, 0]⟩ (by decide +kernel) (by unfold fitF; decide) (by decide +kernel)
  go_wp2_with fail
  clear hst
  refine (K _).mono ?_
  rintro e v12 ⟨rfl, bb⟩
  have Xo_12 := Lib.hid (Xo_11.out.below bb Xo_11.out.lt)
  have Xn_12 := Lib.hid (Xn_11.out.below bb Xn_11.out.lt)
  have B_12 := Lib.hid (B_11.out.trans (bb.mono B_11.out.size))
  clear bb
  clear B_11 Xo_11 Xn_11
  clear K
  have hst : (ByteArray.toList ⟨#[104, 0]⟩ == ByteArray.toList ⟨#[104, 0]⟩) = true := beq_self_eq_true _
  have K : ∀ W, Calls Try.prog 20 #[.agg #[.int .i64 8, .int .i64 0, .int .i64 0, .string ⟨#[]⟩, .string ⟨#[]⟩, .int .i64 0, .slice none 0 0, .string ⟨#[]⟩, .int .i64 0]] W fun e w' => e = .returned (.string ⟨#[106]⟩) ∧ Below W.heap.size W w' := code_flat ⟨8, 0, 0, ⟨#[]⟩, ⟨#[]⟩, 0, ⟨#[]⟩, 0⟩ ⟨#[106]⟩ (by decide +kernel) (by unfold fitF; decide) (by decide +kernel)
  have cXn0 : v12.cell? ⟨w.heap.size + 1, 0, none⟩ = some (.int .i64 8) := Xn_12.out.cell 0
  have cXn1 : v12.cell? ⟨w.heap.size + 1, 1, none⟩ = some (.int .i64 0) := Xn_12.out.cell 1
  have cXn2 : v12.cell? ⟨w.heap.size + 1, 2, none⟩ = some (.int .i64 0) := Xn_12.out.cell 2
  have cXn3 : v12.cell? ⟨w.heap.size + 1, 3, none⟩ = some (.string ⟨#[]⟩) := Xn_12.out.cell 3
  have cXn4 : v12.cell? ⟨w.heap.size + 1, 4, none⟩ = some (.string ⟨#[]⟩) := Xn_12.out.cell 4
  have cXn5 : v12.cell? ⟨w.heap.size + 1, 5, none⟩ = some (.int .i64 0) := Xn_12.out.cell 5
  have cXn6 : v12.cell? ⟨w.heap.size + 1, 6, none⟩ = some (.slice none 0 0) := Xn_12.out.cell 6
  have cXn7 : v12.cell? ⟨w.heap.size + 1, 7, none⟩ = some (.string ⟨#[]⟩) := Xn_12.out.cell 7
  have cXn8 : v12.cell? ⟨w.heap.size + 1, 8, none⟩ = some (.int .i64 0) := Xn_12.out.cell 8
  go_wp2_with fail
  clear cXn0 cXn1 cXn2 cXn3 cXn4 cXn5 cXn6 cXn7 cXn8
  clear hst
  refine (K _).mono ?_
  rintro e v13 ⟨rfl, bb⟩
  have Xo_13 := Lib.hid (Xo_12.out.below bb Xo_12.out.lt)
  have Xn_13 := Lib.hid (Xn_12.out.below bb Xn_12.out.lt)
  have B_13 := Lib.hid (B_12.out.trans (bb.mono B_12.out.size))
  clear bb
  clear B_12 Xo_12 Xn_12
  clear K
  have hst : (ByteArray.toList ⟨#[106]⟩ == ByteArray.toList ⟨#[106]⟩) = true := beq_self_eq_true _
  go_upto_region 5 with fail
  clear hst
  have HS0 : Hid (∀ W, Blk W w.heap.size 25 #[.int .i64 2, .int .i64 0, .int .i64 0, .string ⟨#[111, 107]⟩, .string ⟨#[]⟩, .int .i64 0, .slice none 0 0, .string ⟨#[]⟩, .int .i64 0] → Blk W (w.heap.size + 1) 25 #[.int .i64 8, .int .i64 0, .int .i64 0, .string ⟨#[]⟩, .string ⟨#[]⟩, .int .i64 0, .slice none 0 0, .string ⟨#[]⟩, .int .i64 0] → (W.cell? ⟨w.heap.size, 0, none⟩ = some (.int .i64 2) ∧ W.cell? ⟨w.heap.size, 1, none⟩ = some (.int .i64 0) ∧ W.cell? ⟨w.heap.size, 2, none⟩ = some (.int .i64 0) ∧ W.cell? ⟨w.heap.size, 3, none⟩ = some (.string ⟨#[111, 107]⟩) ∧ W.cell? ⟨w.heap.size, 4, none⟩ = some (.string ⟨#[]⟩) ∧ W.cell? ⟨w.heap.size, 5, none⟩ = some (.int .i64 0) ∧ W.cell? ⟨w.heap.size, 6, none⟩ = some (.slice none 0 0) ∧ W.cell? ⟨w.heap.size, 7, none⟩ = some (.string ⟨#[]⟩) ∧ W.cell? ⟨w.heap.size, 8, none⟩ = some (.int .i64 0) ∧ W.cell? ⟨w.heap.size + 1, 0, none⟩ = some (.int .i64 8) ∧ W.cell? ⟨w.heap.size + 1, 1, none⟩ = some (.int .i64 0) ∧ W.cell? ⟨w.heap.size + 1, 2, none⟩ = some (.int .i64 0) ∧ W.cell? ⟨w.heap.size + 1, 3, none⟩ = some (.string ⟨#[]⟩) ∧ W.cell? ⟨w.heap.size + 1, 4, none⟩ = some (.string ⟨#[]⟩) ∧ W.cell? ⟨w.heap.size + 1, 5, none⟩ = some (.int .i64 0) ∧ W.cell? ⟨w.heap.size + 1, 6, none⟩ = some (.slice none 0 0) ∧ W.cell? ⟨w.heap.size + 1, 7, none⟩ = some (.string ⟨#[]⟩) ∧ W.cell? ⟨w.heap.size + 1, 8, none⟩ = some (.int .i64 0))) := Lib.hid (fun W h g => ⟨h.cell 0, h.cell 1, h.cell 2, h.cell 3, h.cell 4, h.cell 5, h.cell 6, h.cell 7, h.cell 8, g.cell 0, g.cell 1, g.cell 2, g.cell 3, g.cell 4, g.cell 5, g.cell 6, g.cell 7, g.cell 8⟩)
  refine wp_region_held_drew (S := (fun w' => w'.cell? ⟨w.heap.size, 0, none⟩ = some (.int .i64 2) ∧ w'.cell? ⟨w.heap.size, 1, none⟩ = some (.int .i64 0) ∧ w'.cell? ⟨w.heap.size, 2, none⟩ = some (.int .i64 0) ∧ w'.cell? ⟨w.heap.size, 3, none⟩ = some (.string ⟨#[111, 107]⟩) ∧ w'.cell? ⟨w.heap.size, 4, none⟩ = some (.string ⟨#[]⟩) ∧ w'.cell? ⟨w.heap.size, 5, none⟩ = some (.int .i64 0) ∧ w'.cell? ⟨w.heap.size, 6, none⟩ = some (.slice none 0 0) ∧ w'.cell? ⟨w.heap.size, 7, none⟩ = some (.string ⟨#[]⟩) ∧ w'.cell? ⟨w.heap.size, 8, none⟩ = some (.int .i64 0) ∧ w'.cell? ⟨w.heap.size + 1, 0, none⟩ = some (.int .i64 8) ∧ w'.cell? ⟨w.heap.size + 1, 1, none⟩ = some (.int .i64 0) ∧ w'.cell? ⟨w.heap.size + 1, 2, none⟩ = some (.int .i64 0) ∧ w'.cell? ⟨w.heap.size + 1, 3, none⟩ = some (.string ⟨#[]⟩) ∧ w'.cell? ⟨w.heap.size + 1, 4, none⟩ = some (.string ⟨#[]⟩) ∧ w'.cell? ⟨w.heap.size + 1, 5, none⟩ = some (.int .i64 0) ∧ w'.cell? ⟨w.heap.size + 1, 6, none⟩ = some (.slice none 0 0) ∧ w'.cell? ⟨w.heap.size + 1, 7, none⟩ = some (.string ⟨#[]⟩) ∧ w'.cell? ⟨w.heap.size + 1, 8, none⟩ = some (.int .i64 0))) (by kernel_rfl) (HS0.out _ Xo_13.out.drew Xn_13.out.drew) (fun hS => ?_)
  have Xo_14 := Lib.hid (Xo_13.out.drew)
  have Xn_14 := Lib.hid (Xn_13.out.drew)
  have B_14 := Lib.hid (B_13.out.trans (show Below w.heap.size v13 v13.drew from (Below.refl _ _).drew))
  clear Xo_13 Xn_13 B_13
  generalize v13.drew = v14 at *
  refine wpAnyH_take (i := 2) (v := ?_) rfl (by kernel_rfl) (by kernel_rfl) (by kernel_rfl) (fun _ _ _ h => h) (Or.inl ⟨by rfl, ?_⟩) (by assumption) ?_
  rotate_left
  · intro w hSw
    go_simp
    with_reducible rfl
  change wpAnyH _ _ _ _ _ _ _ (Act.put _ (some 61) _) _
  simp only [Act.put, List.setIfInBounds_toArray, List.set_cons_zero, List.set_cons_succ]
  refine wpAnyH_ready (rs := [0]) (by kernel_rfl) (by simp) ?_
  refine AllReadyH.cons rfl (fun K hK => ?_) AllReadyH.nil
  go_simp
  refine (int21 1 _).mono ?_
  rintro e v15 ⟨rfl, bb⟩
  have Xo_15 := Lib.hid (Xo_14.out.below bb Xo_14.out.lt)
  have Xn_15 := Lib.hid (Xn_14.out.below bb Xn_14.out.lt)
  have B_15 := Lib.hid (B_14.out.trans (bb.mono B_14.out.size))
  clear bb
  clear B_14 Xo_14 Xn_14
  go_wp2_with fail
  refine hK.out _ _ (HS0.out _ Xo_15.out Xn_15.out) (fun hS => ?_)
  clear hK K
  try simp only [Act.put, List.setIfInBounds_toArray, List.set_cons_zero, List.set_cons_succ]
  refine wpAnyH_ready (rs := [1]) (by kernel_rfl) (by simp) ?_
  refine AllReadyH.cons rfl (fun K hK => ?_) AllReadyH.nil
  go_simp
  refine (int21 2 _).mono ?_
  rintro e v16 ⟨rfl, bb⟩
  have Xo_16 := Lib.hid (Xo_15.out.below bb Xo_15.out.lt)
  have Xn_16 := Lib.hid (Xn_15.out.below bb Xn_15.out.lt)
  have B_16 := Lib.hid (B_15.out.trans (bb.mono B_15.out.size))
  clear bb
  clear B_15 Xo_15 Xn_15
  go_wp2_with fail
  refine hK.out _ _ (HS0.out _ Xo_16.out Xn_16.out) (fun hS => ?_)
  clear hK K
  try simp only [Act.put, List.setIfInBounds_toArray, List.set_cons_zero, List.set_cons_succ]
  refine wpAnyH_ready (rs := [3]) (by kernel_rfl) (by simp) ?_
  refine AllReadyH.cons rfl (fun K hK => ?_) AllReadyH.nil
  go_simp
  have Ta := lit_at v16 ⟨9, 0, 0, ⟨#[]⟩, ⟨#[]⟩, 0, ⟨#[]⟩, 0⟩ [⟨1, 1, 0, ⟨#[]⟩, ⟨#[]⟩, 0, ⟨#[]⟩, 0⟩, ⟨1, 2, 0, ⟨#[]⟩, ⟨#[]⟩, 0, ⟨#[]⟩, 0⟩, ⟨8, 0, 0, ⟨#[]⟩, ⟨#[]⟩, 0, ⟨#[]⟩, 0⟩] (by decide)
  change TmAt _ (v16.alloc (.cells #[.int .i64 1, .int .i64 1, .int .i64 0, .string ⟨#[]⟩, .string ⟨#[]⟩, .int .i64 0, .slice none 0 0, .string ⟨#[]⟩, .int .i64 0, .int .i64 1, .int .i64 2, .int .i64 0, .string ⟨#[]⟩, .string ⟨#[]⟩, .int .i64 0, .slice none 0 0, .string ⟨#[]⟩, .int .i64 0, .int .i64 8, .int .i64 0, .int .i64 0, .string ⟨#[]⟩, .string ⟨#[]⟩, .int .i64 0, .slice none 0 0, .string ⟨#[]⟩, .int .i64 0] 25)) _ ⟨⟨9, 0, 0, ⟨#[]⟩, ⟨#[]⟩, 0, ⟨#[]⟩, 0⟩, .slice (some ⟨v16.heap.size, 0, none⟩) 3 3⟩ at Ta
  have Ta := Lib.hid Ta.old
  have Xo_17 := Lib.hid (Xo_16.out.alloc (.cells #[.int .i64 1, .int .i64 1, .int .i64 0, .string ⟨#[]⟩, .string ⟨#[]⟩, .int .i64 0, .slice none 0 0, .string ⟨#[]⟩, .int .i64 0, .int .i64 1, .int .i64 2, .int .i64 0, .string ⟨#[]⟩, .string ⟨#[]⟩, .int .i64 0, .slice none 0 0, .string ⟨#[]⟩, .int .i64 0, .int .i64 8, .int .i64 0, .int .i64 0, .string ⟨#[]⟩, .string ⟨#[]⟩, .int .i64 0, .slice none 0 0, .string ⟨#[]⟩, .int .i64 0] 25))
  have Xn_17 := Lib.hid (Xn_16.out.alloc (.cells #[.int .i64 1, .int .i64 1, .int .i64 0, .string ⟨#[]⟩, .string ⟨#[]⟩, .int .i64 0, .slice none 0 0, .string ⟨#[]⟩, .int .i64 0, .int .i64 1, .int .i64 2, .int .i64 0, .string ⟨#[]⟩, .string ⟨#[]⟩, .int .i64 0, .slice none 0 0, .string ⟨#[]⟩, .int .i64 0, .int .i64 8, .int .i64 0, .int .i64 0, .string ⟨#[]⟩, .string ⟨#[]⟩, .int .i64 0, .slice none 0 0, .string ⟨#[]⟩, .int .i64 0] 25))
  have B_17 := Lib.hid (B_16.out.alloc B_16.out.size (.cells #[.int .i64 1, .int .i64 1, .int .i64 0, .string ⟨#[]⟩, .string ⟨#[]⟩, .int .i64 0, .slice none 0 0, .string ⟨#[]⟩, .int .i64 0, .int .i64 1, .int .i64 2, .int .i64 0, .string ⟨#[]⟩, .string ⟨#[]⟩, .int .i64 0, .slice none 0 0, .string ⟨#[]⟩, .int .i64 0, .int .i64 8, .int .i64 0, .int .i64 0, .string ⟨#[]⟩, .string ⟨#[]⟩, .int .i64 0, .slice none 0 0, .string ⟨#[]⟩, .int .i64 0] 25))
  clear Xo_16 Xn_16 B_16
  generalize v16.alloc (.cells #[.int .i64 1, .int .i64 1, .int .i64 0, .string ⟨#[]⟩, .string ⟨#[]⟩, .int .i64 0, .slice none 0 0, .string ⟨#[]⟩, .int .i64 0, .int .i64 1, .int .i64 2, .int .i64 0, .string ⟨#[]⟩, .string ⟨#[]⟩, .int .i64 0, .slice none 0 0, .string ⟨#[]⟩, .int .i64 0, .int .i64 8, .int .i64 0, .int .i64 0, .string ⟨#[]⟩, .string ⟨#[]⟩, .int .i64 0, .slice none 0 0, .string ⟨#[]⟩, .int .i64 0] 25) = v17 at *
  generalize v16.heap.size = ga at *
  refine hK.out _ _ (HS0.out _ Xo_17.out Xn_17.out) (fun hS => ?_)
  clear hK K
  try simp only [Act.put, List.setIfInBounds_toArray, List.set_cons_zero, List.set_cons_succ]
  refine wpAnyH_take (i := 4) (v := ?_) rfl (by kernel_rfl) (by kernel_rfl) (by kernel_rfl) (fun _ _ _ h => h) (Or.inl ⟨by rfl, ?_⟩) (by assumption) ?_
  rotate_left
  · intro w hSw
    go_simp
    with_reducible rfl
  change wpAnyH _ _ _ _ _ _ _ (Act.put _ (some 63) _) _
  simp only [Act.put, List.setIfInBounds_toArray, List.set_cons_zero, List.set_cons_succ]
  refine wpAnyH_ready (rs := [5]) (by kernel_rfl) (by simp) ?_
  refine AllReadyH.cons rfl (fun K hK => ?_) AllReadyH.nil
  go_simp
  have KL : ∀ W, Below v17.heap.size v17 W → Calls Try.prog 20 #[.agg #[.int .i64 9, .int .i64 0, .int .i64 0, .string ⟨#[]⟩, .string ⟨#[]⟩, .int .i64 0, .slice (some ⟨ga, 0, none⟩) 3 3, .string ⟨#[]⟩, .int .i64 0]] W fun e w' => e = .returned (.string ⟨#[108, 0, 0, 0, 2, 97, 1, 97, 2, 106]⟩) ∧ Below W.heap.size W w' := fun W hb => code_any (.mk ⟨9, 0, 0, ⟨#[]⟩, ⟨#[]⟩, 0, ⟨#[]⟩, 0⟩ [flat ⟨1, 1, 0, ⟨#[]⟩, ⟨#[]⟩, 0, ⟨#[]⟩, 0⟩, flat ⟨1, 2, 0, ⟨#[]⟩, ⟨#[]⟩, 0, ⟨#[]⟩, 0⟩, flat ⟨8, 0, 0, ⟨#[]⟩, ⟨#[]⟩, 0, ⟨#[]⟩, 0⟩]) ⟨⟨9, 0, 0, ⟨#[]⟩, ⟨#[]⟩, 0, ⟨#[]⟩, 0⟩, .slice (some ⟨ga, 0, none⟩) 3 3⟩ ⟨#[108, 0, 0, 0, 2, 97, 1, 97, 2, 106]⟩ W (Ta.out.below hb (fun _ _ h => h)).old (by decide +kernel) (fit_flats (fs := [⟨1, 1, 0, ⟨#[]⟩, ⟨#[]⟩, 0, ⟨#[]⟩, 0⟩, ⟨1, 2, 0, ⟨#[]⟩, ⟨#[]⟩, 0, ⟨#[]⟩, 0⟩, ⟨8, 0, 0, ⟨#[]⟩, ⟨#[]⟩, 0, ⟨#[]⟩, 0⟩]) (by unfold fitF; decide) (by simp only [List.mem_cons, List.not_mem_nil, or_false]; rintro f (rfl | rfl | rfl) <;> (unfold fitF; decide))) (by decide +kernel)
  refine (KL _ (Below.refl _ _)).mono ?_
  rintro e v18 ⟨rfl, bb⟩
  have Xo_18 := Lib.hid (Xo_17.out.below bb Xo_17.out.lt)
  have Xn_18 := Lib.hid (Xn_17.out.below bb Xn_17.out.lt)
  have B_18 := Lib.hid (B_17.out.trans (bb.mono B_17.out.size))
  clear bb
  clear B_17 Xo_17 Xn_17
  clear KL Ta
  go_wp2_with fail
  refine hK.out _ _ (HS0.out _ Xo_18.out Xn_18.out) (fun hS => ?_)
  clear hK K
  try simp only [Act.put, List.setIfInBounds_toArray, List.set_cons_zero, List.set_cons_succ]
  refine wpAnyH_take (i := 6) (v := ?_) rfl (by kernel_rfl) (by kernel_rfl) (by kernel_rfl) (fun _ _ _ h => h) (Or.inl ⟨by rfl, ?_⟩) (by assumption) ?_
  rotate_left
  · intro w hSw
    go_simp
    with_reducible rfl
  change wpAnyH _ _ _ _ _ _ _ (Act.put _ (some 65) _) _
  simp only [Act.put, List.setIfInBounds_toArray, List.set_cons_zero, List.set_cons_succ]
  refine wpAnyH_take (i := 7) (v := ?_) rfl (by kernel_rfl) (by kernel_rfl) (by kernel_rfl) (fun _ _ _ h => h) (Or.inl ⟨by rfl, ?_⟩) (by assumption) ?_
  rotate_left
  · intro w hSw
    go_simp
    with_reducible rfl
  change wpAnyH _ _ _ _ _ _ _ (Act.put _ (some 66) _) _
  simp only [Act.put, List.setIfInBounds_toArray, List.set_cons_zero, List.set_cons_succ]
  refine wpAnyH_take (i := 9) (v := ?_) rfl (by kernel_rfl) (by kernel_rfl) (by kernel_rfl) (fun _ _ _ h => h) (Or.inl ⟨by rfl, ?_⟩) (by assumption) ?_
  rotate_left
  · intro w hSw
    go_simp
    with_reducible rfl
  change wpAnyH _ _ _ _ _ _ _ (Act.put _ (some 68) _) _
  simp only [Act.put, List.setIfInBounds_toArray, List.set_cons_zero, List.set_cons_succ]
  refine wpAnyH_ready (rs := [8]) (by kernel_rfl) (by simp) ?_
  refine AllReadyH.cons rfl (fun K hK => ?_) AllReadyH.nil
  go_simp
  refine (int21 1 _).mono ?_
  rintro e v19 ⟨rfl, bb⟩
  have Xo_19 := Lib.hid (Xo_18.out.below bb Xo_18.out.lt)
  have Xn_19 := Lib.hid (Xn_18.out.below bb Xn_18.out.lt)
  have B_19 := Lib.hid (B_18.out.trans (bb.mono B_18.out.size))
  clear bb
  clear B_18 Xo_18 Xn_18
  go_wp2_with fail
  refine hK.out _ _ (HS0.out _ Xo_19.out Xn_19.out) (fun hS => ?_)
  clear hK K
  try simp only [Act.put, List.setIfInBounds_toArray, List.set_cons_zero, List.set_cons_succ]
  refine wpAnyH_ready (rs := [10]) (by kernel_rfl) (by simp) ?_
  refine AllReadyH.cons rfl (fun K hK => ?_) AllReadyH.nil
  go_simp
  have Tb := lit_at v19 ⟨9, 0, 0, ⟨#[]⟩, ⟨#[]⟩, 0, ⟨#[]⟩, 0⟩ [⟨1, 1, 0, ⟨#[]⟩, ⟨#[]⟩, 0, ⟨#[]⟩, 0⟩, ⟨2, 0, 0, ⟨#[111, 107]⟩, ⟨#[]⟩, 0, ⟨#[]⟩, 0⟩] (by decide)
  change TmAt _ (v19.alloc (.cells #[.int .i64 1, .int .i64 1, .int .i64 0, .string ⟨#[]⟩, .string ⟨#[]⟩, .int .i64 0, .slice none 0 0, .string ⟨#[]⟩, .int .i64 0, .int .i64 2, .int .i64 0, .int .i64 0, .string ⟨#[111, 107]⟩, .string ⟨#[]⟩, .int .i64 0, .slice none 0 0, .string ⟨#[]⟩, .int .i64 0] 25)) _ ⟨⟨9, 0, 0, ⟨#[]⟩, ⟨#[]⟩, 0, ⟨#[]⟩, 0⟩, .slice (some ⟨v19.heap.size, 0, none⟩) 2 2⟩ at Tb
  have Tb := Lib.hid Tb.old
  have Xo_20 := Lib.hid (Xo_19.out.alloc (.cells #[.int .i64 1, .int .i64 1, .int .i64 0, .string ⟨#[]⟩, .string ⟨#[]⟩, .int .i64 0, .slice none 0 0, .string ⟨#[]⟩, .int .i64 0, .int .i64 2, .int .i64 0, .int .i64 0, .string ⟨#[111, 107]⟩, .string ⟨#[]⟩, .int .i64 0, .slice none 0 0, .string ⟨#[]⟩, .int .i64 0] 25))
  have Xn_20 := Lib.hid (Xn_19.out.alloc (.cells #[.int .i64 1, .int .i64 1, .int .i64 0, .string ⟨#[]⟩, .string ⟨#[]⟩, .int .i64 0, .slice none 0 0, .string ⟨#[]⟩, .int .i64 0, .int .i64 2, .int .i64 0, .int .i64 0, .string ⟨#[111, 107]⟩, .string ⟨#[]⟩, .int .i64 0, .slice none 0 0, .string ⟨#[]⟩, .int .i64 0] 25))
  have B_20 := Lib.hid (B_19.out.alloc B_19.out.size (.cells #[.int .i64 1, .int .i64 1, .int .i64 0, .string ⟨#[]⟩, .string ⟨#[]⟩, .int .i64 0, .slice none 0 0, .string ⟨#[]⟩, .int .i64 0, .int .i64 2, .int .i64 0, .int .i64 0, .string ⟨#[111, 107]⟩, .string ⟨#[]⟩, .int .i64 0, .slice none 0 0, .string ⟨#[]⟩, .int .i64 0] 25))
  clear Xo_19 Xn_19 B_19
  generalize v19.alloc (.cells #[.int .i64 1, .int .i64 1, .int .i64 0, .string ⟨#[]⟩, .string ⟨#[]⟩, .int .i64 0, .slice none 0 0, .string ⟨#[]⟩, .int .i64 0, .int .i64 2, .int .i64 0, .int .i64 0, .string ⟨#[111, 107]⟩, .string ⟨#[]⟩, .int .i64 0, .slice none 0 0, .string ⟨#[]⟩, .int .i64 0] 25) = v20 at *
  generalize v19.heap.size = gb at *
  refine hK.out _ _ (HS0.out _ Xo_20.out Xn_20.out) (fun hS => ?_)
  clear hK K
  try simp only [Act.put, List.setIfInBounds_toArray, List.set_cons_zero, List.set_cons_succ]
  refine wpAnyH_take (i := 11) (v := ?_) rfl (by kernel_rfl) (by kernel_rfl) (by kernel_rfl) (fun _ _ _ h => h) (Or.inl ⟨by rfl, ?_⟩) (by assumption) ?_
  rotate_left
  · intro w hSw
    go_simp
    with_reducible rfl
  change wpAnyH _ _ _ _ _ _ _ (Act.put _ (some 70) _) _
  simp only [Act.put, List.setIfInBounds_toArray, List.set_cons_zero, List.set_cons_succ]
  refine wpAnyH_ready (rs := [12]) (by kernel_rfl) (by simp) ?_
  refine AllReadyH.cons rfl (fun K hK => ?_) AllReadyH.nil
  go_simp
  have KL : ∀ W, Below v20.heap.size v20 W → Calls Try.prog 20 #[.agg #[.int .i64 9, .int .i64 0, .int .i64 0, .string ⟨#[]⟩, .string ⟨#[]⟩, .int .i64 0, .slice (some ⟨gb, 0, none⟩) 2 2, .string ⟨#[]⟩, .int .i64 0]] W fun e w' => e = .returned (.string ⟨#[108, 0, 0, 0, 1, 97, 1, 119, 2, 111, 107]⟩) ∧ Below W.heap.size W w' := fun W hb => code_any (.mk ⟨9, 0, 0, ⟨#[]⟩, ⟨#[]⟩, 0, ⟨#[]⟩, 0⟩ [flat ⟨1, 1, 0, ⟨#[]⟩, ⟨#[]⟩, 0, ⟨#[]⟩, 0⟩, flat ⟨2, 0, 0, ⟨#[111, 107]⟩, ⟨#[]⟩, 0, ⟨#[]⟩, 0⟩]) ⟨⟨9, 0, 0, ⟨#[]⟩, ⟨#[]⟩, 0, ⟨#[]⟩, 0⟩, .slice (some ⟨gb, 0, none⟩) 2 2⟩ ⟨#[108, 0, 0, 0, 1, 97, 1, 119, 2, 111, 107]⟩ W (Tb.out.below hb (fun _ _ h => h)).old (by decide +kernel) (fit_flats (fs := [⟨1, 1, 0, ⟨#[]⟩, ⟨#[]⟩, 0, ⟨#[]⟩, 0⟩, ⟨2, 0, 0, ⟨#[111, 107]⟩, ⟨#[]⟩, 0, ⟨#[]⟩, 0⟩]) (by unfold fitF; decide) (by simp only [List.mem_cons, List.not_mem_nil, or_false]; rintro f (rfl | rfl) <;> (unfold fitF; decide))) (by decide +kernel)
  refine (KL _ (Below.refl _ _)).mono ?_
  rintro e v21 ⟨rfl, bb⟩
  have Xo_21 := Lib.hid (Xo_20.out.below bb Xo_20.out.lt)
  have Xn_21 := Lib.hid (Xn_20.out.below bb Xn_20.out.lt)
  have B_21 := Lib.hid (B_20.out.trans (bb.mono B_20.out.size))
  clear bb
  clear B_20 Xo_20 Xn_20
  clear KL Tb
  go_wp2_with fail
  refine hK.out _ _ (HS0.out _ Xo_21.out Xn_21.out) (fun hS => ?_)
  clear hK K
  try simp only [Act.put, List.setIfInBounds_toArray, List.set_cons_zero, List.set_cons_succ]
  refine wpAnyH_take (i := 13) (v := ?_) rfl (by kernel_rfl) (by kernel_rfl) (by kernel_rfl) (fun _ _ _ h => h) (Or.inl ⟨by rfl, ?_⟩) (by assumption) ?_
  rotate_left
  · intro w hSw
    go_simp
    with_reducible rfl
  change wpAnyH _ _ _ _ _ _ _ (Act.put _ (some 72) _) _
  simp only [Act.put, List.setIfInBounds_toArray, List.set_cons_zero, List.set_cons_succ]
  refine wpAnyH_take (i := 14) (v := ?_) rfl (by kernel_rfl) (by kernel_rfl) (by kernel_rfl) (fun _ _ _ h => h) (Or.inl ⟨by rfl, ?_⟩) (by assumption) ?_
  rotate_left
  · intro w hSw
    go_simp
    with_reducible rfl
  change wpAnyH _ _ _ _ _ _ _ (Act.put _ (some 73) _) _
  simp only [Act.put, List.setIfInBounds_toArray, List.set_cons_zero, List.set_cons_succ]
  refine wpAnyH_take (i := 15) (v := ?_) rfl (by kernel_rfl) (by kernel_rfl) (by kernel_rfl) (fun _ _ _ h => h) (Or.inl ⟨by rfl, ?_⟩) (by assumption) ?_
  rotate_left
  · intro w hSw
    go_simp
    with_reducible rfl
  change wpAnyH _ _ _ _ _ _ _ (Act.put _ (some 5) _) _
  simp only [Act.put, List.setIfInBounds_toArray, List.set_cons_zero, List.set_cons_succ]
  refine wpAnyH_done (by kernel_rfl) ?_ _
  clear HS0
  go_upto_region 6 with fail
  have K : ∀ W, Calls Try.prog 20 #[.agg #[.int .i64 10, .int .i64 0, .int .i64 0, .string ⟨#[]⟩, .string ⟨#[]⟩, .int .i64 0, .slice none 0 0, .string ⟨#[1, 2]⟩, .int .i64 16]] W fun e w' => e = .returned (.string ⟨#[109, 0, 0, 0, 2, 1, 2]⟩) ∧ Below W.heap.size W w' := code_flat ⟨10, 0, 0, ⟨#[]⟩, ⟨#[]⟩, 0, ⟨#[1, 2]⟩, 16⟩ ⟨#[109, 0, 0, 0, 2, 1, 2]⟩ (by decide +kernel) (by unfold fitF; decide) (by decide +kernel)
  go_wp2_with fail
  try clear hst
  refine (K _).mono ?_
  rintro e v22 ⟨rfl, bb⟩
  have Xo_22 := Lib.hid (Xo_21.out.below bb Xo_21.out.lt)
  have Xn_22 := Lib.hid (Xn_21.out.below bb Xn_21.out.lt)
  have B_22 := Lib.hid (B_21.out.trans (bb.mono B_21.out.size))
  clear bb
  clear B_21 Xo_21 Xn_21
  clear K
  have hst : (ByteArray.toList ⟨#[109, 0, 0, 0, 2, 1, 2]⟩ == ByteArray.toList ⟨#[109, 0, 0, 0, 2, 1, 2]⟩) = true := beq_self_eq_true _
  have K : ∀ W, Calls Try.prog 20 #[.agg #[.int .i64 10, .int .i64 0, .int .i64 0, .string ⟨#[]⟩, .string ⟨#[]⟩, .int .i64 0, .slice none 0 0, .string ⟨#[160]⟩, .int .i64 3]] W fun e w' => e = .returned (.string ⟨#[77, 0, 0, 0, 1, 3, 160]⟩) ∧ Below W.heap.size W w' := code_flat ⟨10, 0, 0, ⟨#[]⟩, ⟨#[]⟩, 0, ⟨#[160]⟩, 3⟩ ⟨#[77, 0, 0, 0, 1, 3, 160]⟩ (by decide +kernel) (by unfold fitF; decide) (by decide +kernel)
  go_wp2_with fail
  try clear hst
  refine (K _).mono ?_
  rintro e v23 ⟨rfl, bb⟩
  have Xo_23 := Lib.hid (Xo_22.out.below bb Xo_22.out.lt)
  have Xn_23 := Lib.hid (Xn_22.out.below bb Xn_22.out.lt)
  have B_23 := Lib.hid (B_22.out.trans (bb.mono B_22.out.size))
  clear bb
  clear B_22 Xo_22 Xn_22
  clear K
  have hst : (ByteArray.toList ⟨#[77, 0, 0, 0, 1, 3, 160]⟩ == ByteArray.toList ⟨#[77, 0, 0, 0, 1, 3, 160]⟩) = true := beq_self_eq_true _
  have K : ∀ W, Calls Try.prog 20 #[.agg #[.int .i64 6, .int .i64 7, .int .i64 2, .string ⟨#[97]⟩, .string ⟨#[]⟩, .int .i64 0, .slice none 0 0, .string ⟨#[]⟩, .int .i64 0]] W fun e w' => e = .returned (.string ⟨#[88, 119, 1, 97, 0, 0, 0, 7, 0, 0, 0, 0, 0, 0, 0, 2]⟩) ∧ Below W.heap.size W w' := code_flat ⟨6, 7, 2, ⟨#[97]⟩, ⟨#[]⟩, 0, ⟨#[]⟩, 0⟩ ⟨#[88, 119, 1, 97, 0, 0, 0, 7, 0, 0, 0, 0, 0, 0, 0, 2]⟩ (by decide +kernel) (by unfold fitF; decide) (by decide +kernel)
  go_wp2_with fail
  try clear hst
  refine (K _).mono ?_
  rintro e v24 ⟨rfl, bb⟩
  have Xo_24 := Lib.hid (Xo_23.out.below bb Xo_23.out.lt)
  have Xn_24 := Lib.hid (Xn_23.out.below bb Xn_23.out.lt)
  have B_24 := Lib.hid (B_23.out.trans (bb.mono B_23.out.size))
  clear bb
  clear B_23 Xo_23 Xn_23
  clear K
  have hst : (ByteArray.toList ⟨#[88, 119, 1, 97, 0, 0, 0, 7, 0, 0, 0, 0, 0, 0, 0, 2]⟩ == ByteArray.toList ⟨#[88, 119, 1, 97, 0, 0, 0, 7, 0, 0, 0, 0, 0, 0, 0, 2]⟩) = true := beq_self_eq_true _
  go_wp2_with fail
  clear hst
  refine (int21 5 _).mono ?_
  rintro e v25 ⟨rfl, bb⟩
  have Xo_25 := Lib.hid (Xo_24.out.below bb Xo_24.out.lt)
  have Xn_25 := Lib.hid (Xn_24.out.below bb Xn_24.out.lt)
  have B_25 := Lib.hid (B_24.out.trans (bb.mono B_24.out.size))
  clear bb
  clear B_24 Xo_24 Xn_24
  have Tc := lit_at v25 ⟨4, 3, 9, ⟨#[109]⟩, ⟨#[]⟩, 1, ⟨#[]⟩, 0⟩ [⟨1, 5, 0, ⟨#[]⟩, ⟨#[]⟩, 0, ⟨#[]⟩, 0⟩] (by decide)
  change TmAt _ (v25.alloc (.cells #[.int .i64 1, .int .i64 5, .int .i64 0, .string ⟨#[]⟩, .string ⟨#[]⟩, .int .i64 0, .slice none 0 0, .string ⟨#[]⟩, .int .i64 0] 25)) _ ⟨⟨4, 3, 9, ⟨#[109]⟩, ⟨#[]⟩, 1, ⟨#[]⟩, 0⟩, .slice (some ⟨v25.heap.size, 0, none⟩) 1 1⟩ at Tc
  have KL := Lib.hid (code_any (.mk ⟨4, 3, 9, ⟨#[109]⟩, ⟨#[]⟩, 1, ⟨#[]⟩, 0⟩ [flat ⟨1, 5, 0, ⟨#[]⟩, ⟨#[]⟩, 0, ⟨#[]⟩, 0⟩]) ⟨⟨4, 3, 9, ⟨#[109]⟩, ⟨#[]⟩, 1, ⟨#[]⟩, 0⟩, .slice (some ⟨v25.heap.size, 0, none⟩) 1 1⟩ ⟨#[112, 1, 0, 3, 1, 119, 1, 109, 0, 0, 0, 9, 97, 5]⟩ _ Tc.old (by decide +kernel) (fit_flats (fs := [⟨1, 5, 0, ⟨#[]⟩, ⟨#[]⟩, 0, ⟨#[]⟩, 0⟩]) (by unfold fitF; decide) (by simp only [List.mem_cons, List.not_mem_nil, or_false]; rintro f rfl; unfold fitF; decide)) (by decide +kernel))
  unfold ftV at KL
  dsimp only at KL
  clear Tc
  have Xo_26 := Lib.hid (Xo_25.out.alloc (.cells #[.int .i64 1, .int .i64 5, .int .i64 0, .string ⟨#[]⟩, .string ⟨#[]⟩, .int .i64 0, .slice none 0 0, .string ⟨#[]⟩, .int .i64 0] 25))
  have Xn_26 := Lib.hid (Xn_25.out.alloc (.cells #[.int .i64 1, .int .i64 5, .int .i64 0, .string ⟨#[]⟩, .string ⟨#[]⟩, .int .i64 0, .slice none 0 0, .string ⟨#[]⟩, .int .i64 0] 25))
  have B_26 := Lib.hid (B_25.out.alloc B_25.out.size (.cells #[.int .i64 1, .int .i64 5, .int .i64 0, .string ⟨#[]⟩, .string ⟨#[]⟩, .int .i64 0, .slice none 0 0, .string ⟨#[]⟩, .int .i64 0] 25))
  clear Xo_25 Xn_25 B_25
  go_wp2_with fail
  generalize v25.alloc (.cells #[.int .i64 1, .int .i64 5, .int .i64 0, .string ⟨#[]⟩, .string ⟨#[]⟩, .int .i64 0, .slice none 0 0, .string ⟨#[]⟩, .int .i64 0] 25) = v26 at *
  generalize v25.heap.size = gc at *
  refine (KL.out).mono ?_
  rintro e v27 ⟨rfl, bb⟩
  have Xo_27 := Lib.hid (Xo_26.out.below bb Xo_26.out.lt)
  have Xn_27 := Lib.hid (Xn_26.out.below bb Xn_26.out.lt)
  have B_27 := Lib.hid (B_26.out.trans (bb.mono B_26.out.size))
  clear bb
  clear B_26 Xo_26 Xn_26
  clear KL
  have hst : (ByteArray.toList ⟨#[112, 1, 0, 3, 1, 119, 1, 109, 0, 0, 0, 9, 97, 5]⟩ == ByteArray.toList ⟨#[112, 1, 0, 3, 1, 119, 1, 109, 0, 0, 0, 9, 97, 5]⟩) = true := beq_self_eq_true _
  clear Xo_27 Xn_27
  go_wp2_with fail
  try clear hst
  have CT := Lib.hid (take_any' ⟨#[98, 0, 0, 0, 1]⟩ (by decide) v27)
  rw [(takeF_e ⟨#[98, 0, 0, 0, 1]⟩).resolve_left (by decide +kernel)] at CT
  refine (CT.out).mono ?_
  rintro e v28 ⟨bb, x, rfl, tx⟩
  have B_28 := Lib.hid (B_27.out.trans (bb.mono B_27.out.size))
  clear bb
  clear B_27
  dsimp only at tx
  clear CT
  obtain ⟨_, sq, cq, vx⟩ := tx.its.2.form
  obtain ⟨qf, xv⟩ := x
  dsimp only at vx
  subst vx
  obtain ⟨lq, hlq⟩ : ∃ l, l = (zeroT).l.length := ⟨_, rfl⟩
  rw [← hlq] at tx ⊢
  clear hlq
  unfold ftV
  have Tq_29 := Lib.hid (tx.below ((Below.refl _ _).alloc (Nat.le_refl _) (.cells #[.int .i64 qf.k, .int .i64 qf.n, .int .i64 qf.g, .string qf.nm, .string qf.fn, .int .i64 qf.ar, .slice sq lq cq, .string qf.bs, .int .i64 qf.bt] 25)) (fun _ _ h => h))
  have B_29 := Lib.hid (B_28.out.alloc B_28.out.size (.cells #[.int .i64 qf.k, .int .i64 qf.n, .int .i64 qf.g, .string qf.nm, .string qf.fn, .int .i64 qf.ar, .slice sq lq cq, .string qf.bs, .int .i64 qf.bt] 25))
  have Xq_29 := Lib.hid (Blk.new v28 25 #[.int .i64 qf.k, .int .i64 qf.n, .int .i64 qf.g, .string qf.nm, .string qf.fn, .int .i64 qf.ar, .slice sq lq cq, .string qf.bs, .int .i64 qf.bt])
  clear tx
  clear B_28
  try dsimp only
  go_upto_region 10 with fail
  generalize v28.alloc (.cells #[.int .i64 qf.k, .int .i64 qf.n, .int .i64 qf.g, .string qf.nm, .string qf.fn, .int .i64 qf.ar, .slice sq lq cq, .string qf.bs, .int .i64 qf.bt] 25) = v29 at * 
  generalize v28.heap.size = gq at *
  clear Tq_29 Xq_29
  go_wp2_with fail
  try clear hst
  have CT := Lib.hid (take_any' ⟨#[110, 1, 0, 5]⟩ (by decide) v29)
  rw [(takeF_e ⟨#[110, 1, 0, 5]⟩).resolve_left (by decide +kernel)] at CT
  refine (CT.out).mono ?_
  rintro e v30 ⟨bb, x, rfl, tx⟩
  have B_30 := Lib.hid (B_29.out.trans (bb.mono B_29.out.size))
  clear bb
  clear B_29
  dsimp only at tx
  clear CT
  obtain ⟨_, sr, cr, vx⟩ := tx.its.2.form
  obtain ⟨rf, xv⟩ := x
  dsimp only at vx
  subst vx
  obtain ⟨lr, hlr⟩ : ∃ l, l = (zeroT).l.length := ⟨_, rfl⟩
  rw [← hlr] at tx ⊢
  clear hlr
  unfold ftV
  have Tr_31 := Lib.hid (tx.below ((Below.refl _ _).alloc (Nat.le_refl _) (.cells #[.int .i64 rf.k, .int .i64 rf.n, .int .i64 rf.g, .string rf.nm, .string rf.fn, .int .i64 rf.ar, .slice sr lr cr, .string rf.bs, .int .i64 rf.bt] 25)) (fun _ _ h => h))
  have B_31 := Lib.hid (B_30.out.alloc B_30.out.size (.cells #[.int .i64 rf.k, .int .i64 rf.n, .int .i64 rf.g, .string rf.nm, .string rf.fn, .int .i64 rf.ar, .slice sr lr cr, .string rf.bs, .int .i64 rf.bt] 25))
  have Xr_31 := Lib.hid (Blk.new v30 25 #[.int .i64 rf.k, .int .i64 rf.n, .int .i64 rf.g, .string rf.nm, .string rf.fn, .int .i64 rf.ar, .slice sr lr cr, .string rf.bs, .int .i64 rf.bt])
  clear tx
  clear B_30
  try dsimp only
  go_upto_region 11 with fail
  generalize v30.alloc (.cells #[.int .i64 rf.k, .int .i64 rf.n, .int .i64 rf.g, .string rf.nm, .string rf.fn, .int .i64 rf.ar, .slice sr lr cr, .string rf.bs, .int .i64 rf.bt] 25) = v31 at * 
  generalize v30.heap.size = gr at *
  clear Tr_31 Xr_31
  go_wp2_with fail
  try clear hst
  have CT := Lib.hid (take_any' ⟨#[108, 0, 0, 0, 0, 106]⟩ (by decide) v31)
  rw [(takeF_e ⟨#[108, 0, 0, 0, 0, 106]⟩).resolve_left (by decide +kernel)] at CT
  refine (CT.out).mono ?_
  rintro e v32 ⟨bb, x, rfl, tx⟩
  have B_32 := Lib.hid (B_31.out.trans (bb.mono B_31.out.size))
  clear bb
  clear B_31
  dsimp only at tx
  clear CT
  obtain ⟨_, ss, cs, vx⟩ := tx.its.2.form
  obtain ⟨sf, xv⟩ := x
  dsimp only at vx
  subst vx
  obtain ⟨ls, hls⟩ : ∃ l, l = (zeroT).l.length := ⟨_, rfl⟩
  rw [← hls] at tx ⊢
  clear hls
  unfold ftV
  have Ts_33 := Lib.hid (tx.below ((Below.refl _ _).alloc (Nat.le_refl _) (.cells #[.int .i64 sf.k, .int .i64 sf.n, .int .i64 sf.g, .string sf.nm, .string sf.fn, .int .i64 sf.ar, .slice ss ls cs, .string sf.bs, .int .i64 sf.bt] 25)) (fun _ _ h => h))
  have B_33 := Lib.hid (B_32.out.alloc B_32.out.size (.cells #[.int .i64 sf.k, .int .i64 sf.n, .int .i64 sf.g, .string sf.nm, .string sf.fn, .int .i64 sf.ar, .slice ss ls cs, .string sf.bs, .int .i64 sf.bt] 25))
  have Xs_33 := Lib.hid (Blk.new v32 25 #[.int .i64 sf.k, .int .i64 sf.n, .int .i64 sf.g, .string sf.nm, .string sf.fn, .int .i64 sf.ar, .slice ss ls cs, .string sf.bs, .int .i64 sf.bt])
  clear tx
  clear B_32
  try dsimp only
  go_upto_region 12 with fail
  generalize v32.alloc (.cells #[.int .i64 sf.k, .int .i64 sf.n, .int .i64 sf.g, .string sf.nm, .string sf.fn, .int .i64 sf.ar, .slice ss ls cs, .string sf.bs, .int .i64 sf.bt] 25) = v33 at * 
  generalize v32.heap.size = gs at *
  clear Ts_33 Xs_33
  go_wp2_with fail
  try clear hst
  have CT := Lib.hid (take_any' ⟨#[109, 0, 0, 0, 1]⟩ (by decide) v33)
  rw [(takeF_e ⟨#[109, 0, 0, 0, 1]⟩).resolve_left (by decide +kernel)] at CT
  refine (CT.out).mono ?_
  rintro e v34 ⟨bb, x, rfl, tx⟩
  have B_34 := Lib.hid (B_33.out.trans (bb.mono B_33.out.size))
  clear bb
  clear B_33
  dsimp only at tx
  clear CT
  obtain ⟨_, st, ct, vx⟩ := tx.its.2.form
  obtain ⟨tf, xv⟩ := x
  dsimp only at vx
  subst vx
  obtain ⟨lt, hlt⟩ : ∃ l, l = (zeroT).l.length := ⟨_, rfl⟩
  rw [← hlt] at tx ⊢
  clear hlt
  unfold ftV
  have Tt_35 := Lib.hid (tx.below ((Below.refl _ _).alloc (Nat.le_refl _) (.cells #[.int .i64 tf.k, .int .i64 tf.n, .int .i64 tf.g, .string tf.nm, .string tf.fn, .int .i64 tf.ar, .slice st lt ct, .string tf.bs, .int .i64 tf.bt] 25)) (fun _ _ h => h))
  have B_35 := Lib.hid (B_34.out.alloc B_34.out.size (.cells #[.int .i64 tf.k, .int .i64 tf.n, .int .i64 tf.g, .string tf.nm, .string tf.fn, .int .i64 tf.ar, .slice st lt ct, .string tf.bs, .int .i64 tf.bt] 25))
  have Xt_35 := Lib.hid (Blk.new v34 25 #[.int .i64 tf.k, .int .i64 tf.n, .int .i64 tf.g, .string tf.nm, .string tf.fn, .int .i64 tf.ar, .slice st lt ct, .string tf.bs, .int .i64 tf.bt])
  clear tx
  clear B_34
  try dsimp only
  go_upto_region 13 with fail
  generalize v34.alloc (.cells #[.int .i64 tf.k, .int .i64 tf.n, .int .i64 tf.g, .string tf.nm, .string tf.fn, .int .i64 tf.ar, .slice st lt ct, .string tf.bs, .int .i64 tf.bt] 25) = v35 at * 
  generalize v34.heap.size = gt at *
  clear Tt_35 Xt_35
  go_wp2_with fail
  refine (awake_any _).mono ?_
  rintro e v36 ⟨rfl, bb⟩
  have B_36 := Lib.hid (B_35.out.trans (bb.mono B_35.out.size))
  clear bb
  clear B_35
  go_wp2_with fail
  go_ret
  exact ⟨rfl, B_36.out⟩
end Go.Proofs.Ytcpdmlnodhokmaa
