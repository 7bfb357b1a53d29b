/- The reference's (*reader).term. -/
import Derived.Test.YtemlogadbopffaaGreatRs
namespace Go.Proofs.YtemlogadbopffaaGreat
open Go.RowKit Go.Rt Go.Rw

theorem numS_tag {st st' : Sr} {n : Nat} (h : numS st 1 = (n, st')) (hn : n ≠ 0) : st.r = u8 n :: st'.r ∧ st'.bad = false := by
 unfold numS at h
 obtain ⟨h1, h2⟩ := Prod.mk.inj h
 cases hb : st'.bad with
 | false =>
  obtain ⟨g1, _, g3, _⟩ := takeS_ok (st := st) (n := 1) (a := (takeS st 1).1) (st' := st') (by rw [← h2]) hb
  obtain ⟨c, hc⟩ := List.length_eq_one_iff.1 g1
  rw [hc] at g3 h1
  have : n = c.toNat := by rw [← h1]; simp [beN]
  refine ⟨?_, rfl⟩
  rw [g3, u8_eq (c := c) (by have := UInt8.toNat_lt c; omega)]
  rfl
 | true =>
  exfalso
  unfold takeS at h1 h2
  split at h1
  ·
   exact hn (by rw [← h1]; rfl)
  ·
   rename_i hc
   rw [if_neg hc] at h2
   rw [← h2] at hb
   exact hc (.inl hb)
set_option maxRecDepth 100000 in
set_option maxHeartbeats 2000000 in
theorem rrterm_core {T : Sr → Tm × Sr} {s : ByteArray} {rb d : Nat} {st : Sr} {w : World} (hT : SmC T s rb d) (h : RS s rb st w) (hb : st.bad = false) (hl0 : 0 ≤ st.left) (hld : st.left < ((d + 1 : Nat) : Int)) (hl2 : st.left ≤ 2000) (hs : s.size ≤ 200000) :
  Calls Tryz.prog 100 #[.pointer (some ⟨rb, 0, none⟩)] w (SmR s rb (bodyS T (numS (startS st) 1)) st w) := by
 have HT := Lib.hid hT
 have NRB : Hid (rb < w.heap.size) := Lib.hid h.lt
 obtain ⟨P, hP⟩ : ∃ P, P = bodyS T (numS (startS st) 1) := ⟨_, rfl⟩
 rw [← hP]
 obtain ⟨r0, l0, b0⟩ := st
 dsimp only at hb hl0 hld hl2
 subst hb
 have HPB := Lib.hid hP
 have O_0 := Lib.hid (Only.alloc [rb] w (.cells #[.int .i64 0, .int .i64 0, .int .i64 0, .string ⟨#[]⟩, .string ⟨#[]⟩, .int .i64 0, .slice none 0 0, .string ⟨#[]⟩, .int .i64 0] 24))
 have R_0 := Lib.hid (h.below ((Below.refl _ _).alloc (Nat.le_refl _) (.cells #[.int .i64 0, .int .i64 0, .int .i64 0, .string ⟨#[]⟩, .string ⟨#[]⟩, .int .i64 0, .slice none 0 0, .string ⟨#[]⟩, .int .i64 0] 24)))
 have X_0 := Lib.hid (Blk.new w 24 #[.int .i64 0, .int .i64 0, .int .i64 0, .string ⟨#[]⟩, .string ⟨#[]⟩, .int .i64 0, .slice none 0 0, .string ⟨#[]⟩, .int .i64 0])
 clear h hP hT
 go_enter Tryz.func100, Tryz.ntmps100
 go_upto_region 1 with fail
 generalize w.alloc (.cells #[.int .i64 0, .int .i64 0, .int .i64 0, .string ⟨#[]⟩, .string ⟨#[]⟩, .int .i64 0, .slice none 0 0, .string ⟨#[]⟩, .int .i64 0] 24) = v0 at O_0 R_0 X_0 ⊢
 obtain ⟨a0, ha0, hd0, hb0⟩ := R_0.out
 dsimp only at ha0 hd0 hb0
 have HA0 := Lib.hid ha0
 have HD0 := Lib.hid hd0
 have HB0 := Lib.hid hb0
 have c2 : v0.cell? ⟨rb, 2, none⟩ = some (.int .i64 l0) := hb0.cell 2
 clear ha0 hd0 hb0 R_0
 obtain ⟨L, hL⟩ : ∃ L, L = l0 - 1 := ⟨_, rfl⟩
 have HLL : Hid (L + 1 ≤ l0) := Lib.hid (by omega)
 have w1 : IntKind.i64.wrap (l0 - 1) = L := by rw [IntKind.wrap_i64]; omega
 have HST : Hid (startS ⟨r0, l0, false⟩ = badS (decide (L < 0)) ⟨r0, L, false⟩) := Lib.hid (by unfold startS; rw [hL])
 have hL1 : -1 ≤ L ∧ L < d ∧ L ≤ 2000 := by omega
 clear hL
 go_wp2_with (refine wpList_store_fld rfl 3 _ _ rfl rfl rb 2 _ 154 (.int .i64 L) rfl rfl HB0.out (Nat.le_of_ble_eq_true rfl) (by kernel_rfl) rfl ?_)
 intro v1 ev
 have B1 := Lib.hid (show Blk v1 rb 154 #[.string s, .int .i64 a0, .int .i64 L, .bool false] by rw [ev]; exact HB0.out.set_ 2 _)
 have O_1 := Lib.hid (show Only [rb] w v1 by rw [ev]; exact O_0.out.trans (Only.setCell v0 ⟨rb, 2, none⟩ _ (by simp)))
 have X_1 := Lib.hid (X_0.out.only (bs := [rb]) (show Only [rb] v0 v1 by rw [ev]; exact Only.setCell v0 ⟨rb, 2, none⟩ _ (by simp)) (by have := NRB.out; simp; omega))
 clear ev c2 w1 HB0 O_0 X_0
 have c2 : v1.cell? ⟨rb, 2, none⟩ = some (.int .i64 L) := B1.out.cell 2
 by_cases hL0 : L < 0
 ·
  have dL : decide (L < 0) = true := decide_eq_true hL0
  obtain rfl : L = -1 := by omega
  obtain ⟨s0, hs0⟩ : ∃ s0, s0 = (⟨r0, -1, true⟩ : Sr) := ⟨_, rfl⟩
  obtain rfl : P = (zeroT, ⟨s0.r, s0.left, true⟩) := by
   rw [HPB.out, HST.out, dL, hs0]
   rfl
  have HS0 := Lib.hid hs0
  clear HPB HST hL0 hs0
  go_wp2_with (refine wpList_store_fld rfl 4 _ _ rfl rfl rb 3 _ 154 (.bool true) rfl rfl B1.out (Nat.le_of_ble_eq_true rfl) (by kernel_rfl) rfl ?_)
  intro v2 ev
  have R_2 : Hid (RS s rb s0 v2) := Lib.hid (by rw [HS0.out]; exact ⟨a0, HA0.out, HD0.out, by rw [ev]; exact B1.out.set_ 3 _⟩)
  have ox : Only [rb] v1 v2 := by rw [ev]; exact Only.setCell v1 ⟨rb, 3, none⟩ _ (by simp)
  have O_2 := Lib.hid (O_1.out.trans ox)
  have X_2 := Lib.hid (X_1.out.only ox (by have := NRB.out; simp; omega))
  clear ev ox c2 B1 O_1 X_1
  have T_3 := Lib.hid (Blk.new v2 24 #[.int .i64 0, .int .i64 0, .int .i64 0, .string ⟨#[]⟩, .string ⟨#[]⟩, .int .i64 0, .slice none 0 0, .string ⟨#[]⟩, .int .i64 0])
  have HG : Hid (w.heap.size < v2.heap.size) := Lib.hid X_2.out.lt
  have O_3 := Lib.hid (O_2.out.trans (Only.alloc [rb] v2 (.cells #[.int .i64 0, .int .i64 0, .int .i64 0, .string ⟨#[]⟩, .string ⟨#[]⟩, .int .i64 0, .slice none 0 0, .string ⟨#[]⟩, .int .i64 0] 24)))
  have R_3 := Lib.hid (R_2.out.below ((Below.refl _ _).alloc (Nat.le_refl _) (.cells #[.int .i64 0, .int .i64 0, .int .i64 0, .string ⟨#[]⟩, .string ⟨#[]⟩, .int .i64 0, .slice none 0 0, .string ⟨#[]⟩, .int .i64 0] 24)))
  have X_3 := Lib.hid (X_2.out.alloc (.cells #[.int .i64 0, .int .i64 0, .int .i64 0, .string ⟨#[]⟩, .string ⟨#[]⟩, .int .i64 0, .slice none 0 0, .string ⟨#[]⟩, .int .i64 0] 24))
  clear R_2 X_2 O_2
  go_upto_region 5 with fail
  generalize (v2.alloc (.cells #[.int .i64 0, .int .i64 0, .int .i64 0, .string ⟨#[]⟩, .string ⟨#[]⟩, .int .i64 0, .slice none 0 0, .string ⟨#[]⟩, .int .i64 0] 24)) = v3 at T_3 O_3 R_3 X_3 ⊢
  generalize v2.heap.size = gT at T_3 HG ⊢
  have HC := Lib.hid (rnumber_any R_3.out 1 (by omega) hs)
  rw [show numS s0 1 = (0, s0) by rw [HS0.out]; rfl] at HC
  go_wp2_with fail
  refine HC.out.mono ?_
  rintro e v4 ⟨ox, rfl, rx⟩
  dsimp only at rx ⊢
  have O_4 := Lib.hid (O_3.out.trans ox)
  have R_4 := Lib.hid rx
  have X_4 := Lib.hid (X_3.out.only ox (by have := NRB.out; simp; omega))
  have T_4 := Lib.hid (T_3.out.only ox (by have := NRB.out; have := HG.out; simp; omega))
  clear ox rx HC O_3 R_3 X_3 T_3
  rw [Int.natCast_zero]
  obtain ⟨ab, _, _, hbb⟩ := R_4.out
  have HBB := Lib.hid hbb
  clear hbb
  go_upto_region 6 with fail
  go_wp2_with (refine wpList_store_fld rfl 4 _ _ rfl rfl rb 3 _ 154 (.bool true) rfl rfl HBB.out (Nat.le_of_ble_eq_true rfl) (by kernel_rfl) rfl ?_)
  intro v5 ev
  have ox : Only [rb] v4 v5 := by rw [ev]; exact Only.setCell v4 ⟨rb, 3, none⟩ _ (by simp)
  have R_5 := Lib.hid (show RS s rb ⟨s0.r, s0.left, true⟩ v5 by rw [ev]; exact R_4.out.setBad)
  have O_5 := Lib.hid (O_4.out.trans ox)
  have X_5 := Lib.hid (X_4.out.only ox (by have := NRB.out; simp; omega))
  have T_5 := Lib.hid (T_4.out.only ox (by have := NRB.out; have := HG.out; simp; omega))
  clear ev ox HBB R_4 O_4 X_4 T_4
  go_wp2_with (first
   | (refine wpList_load_blk rfl 24 _ rfl gT rfl _ 24 _ T_5.out Tryz.underlying24 rfl info25 ?_)
   | (refine wpList_store_blk rfl 24 _ _ rfl rfl w.heap.size #[.int .i64 0, .int .i64 0, .int .i64 0, .string ⟨#[]⟩, .string ⟨#[]⟩, .int .i64 0, .slice none 0 0, .string ⟨#[]⟩, .int .i64 0] _ 24 rfl rfl X_5.out rfl info25 (by simp [Value.oneCell']) ?_; intro vF bF oF))
  have RF := R_5.out.only' oF (by have := NRB.out; omega)
  have OF := only_new O_5.out oF (Nat.le_refl _)
  go_wp2_with fail
  refine bodyPost_ret (results_blk rfl _ _ w.heap.size _ _ rfl bF Tryz.underlying24 rfl info25) rfl ⟨OF, ⟨zeroFl, .slice none 0 0⟩, rfl, zeroT_at _ _, RF, by have := HLL.out; show s0.left + 1 ≤ l0; rw [HS0.out]; exact this, by show (-1 : Int) ≤ s0.left; rw [HS0.out]; exact Int.le_refl _, fun h => by cases h⟩
 ·
  have dL : decide (L < 0) = false := decide_eq_false hL0
  obtain ⟨s0, hs0⟩ : ∃ s0, s0 = (⟨r0, L, false⟩ : Sr) := ⟨_, rfl⟩
  have HP1 : Hid (P = bodyS T (numS s0 1)) := Lib.hid (by rw [HPB.out, HST.out, dL, hs0]; rfl)
  have R_1 : Hid (RS s rb s0 v1) := Lib.hid (by rw [hs0]; exact ⟨a0, HA0.out, HD0.out, B1.out⟩)
  have G_1 : Hid (Lg s0 d L) := Lib.hid (by rw [hs0]; exact ⟨⟨hL1.1, hL1.2.1, hL1.2.2, fun _ => by show 0 ≤ L; omega⟩, Int.le_refl _⟩)
  have HA0 : Hid (a0 + s0.r.length = s.size) := Lib.hid (by rw [hs0]; exact HA0.out)
  have HD0 : Hid (s.data.toList.drop a0 = s0.r) := Lib.hid (by rw [hs0]; exact HD0.out)
  clear HPB HST hL0 hs0 hL1
  have T_2 := Lib.hid (Blk.new v1 24 #[.int .i64 0, .int .i64 0, .int .i64 0, .string ⟨#[]⟩, .string ⟨#[]⟩, .int .i64 0, .slice none 0 0, .string ⟨#[]⟩, .int .i64 0])
  have HG : Hid (w.heap.size < v1.heap.size) := Lib.hid X_1.out.lt
  have O_2 := Lib.hid (O_1.out.trans (Only.alloc [rb] v1 (.cells #[.int .i64 0, .int .i64 0, .int .i64 0, .string ⟨#[]⟩, .string ⟨#[]⟩, .int .i64 0, .slice none 0 0, .string ⟨#[]⟩, .int .i64 0] 24)))
  have R_2 := Lib.hid (R_1.out.below ((Below.refl _ _).alloc (Nat.le_refl _) (.cells #[.int .i64 0, .int .i64 0, .int .i64 0, .string ⟨#[]⟩, .string ⟨#[]⟩, .int .i64 0, .slice none 0 0, .string ⟨#[]⟩, .int .i64 0] 24)))
  have X_2 := Lib.hid (X_1.out.alloc (.cells #[.int .i64 0, .int .i64 0, .int .i64 0, .string ⟨#[]⟩, .string ⟨#[]⟩, .int .i64 0, .slice none 0 0, .string ⟨#[]⟩, .int .i64 0] 24))
  clear R_1 X_1 O_1 B1
  go_upto_region 5 with fail
  clear c2 dL
  generalize (v1.alloc (.cells #[.int .i64 0, .int .i64 0, .int .i64 0, .string ⟨#[]⟩, .string ⟨#[]⟩, .int .i64 0, .slice none 0 0, .string ⟨#[]⟩, .int .i64 0] 24)) = w2 at T_2 O_2 R_2 X_2 ⊢
  generalize v1.heap.size = gT at T_2 HG ⊢
  have HC := rnumber_any R_2.out 1 (by omega) hs
  have hg := Lg_num G_1.out 1
  have hb := numS_lt s0 1
  obtain ⟨q, hq⟩ : ∃ q, q = numS s0 1 := ⟨_, rfl⟩
  have hP1 := HP1.out
  rw [← hq] at HC hg hb hP1
  obtain ⟨tag, s2⟩ := q
  have HE := Lib.hid hq.symm
  have HP0 : Hid (P = tagS T tag s2) := Lib.hid hP1
  have HC := Lib.hid HC
  have G_2 := Lib.hid hg
  dsimp only at G_2 hb
  clear hq hg hP1 HP1 G_1
  go_wp2_with fail
  refine HC.out.mono ?_
  rintro e v2 ⟨ox, rfl, rx⟩
  dsimp only at rx ⊢
  have R2' := Lib.hid rx
  have O2' := Lib.hid (O_2.out.trans ox)
  have X2' := Lib.hid (X_2.out.only ox (by have := NRB.out; simp; omega))
  have T2' := Lib.hid (T_2.out.only ox (by have := NRB.out; have := HG.out; simp; omega))
  clear ox rx HC O_2 R_2 X_2 T_2
  have R_2 := R2'
  have O_2 := O2'
  have X_2 := X2'
  have T_2 := T2'
  clear R2' O2' X2' T2'
  by_cases ht97 : tag = 97
  ·
   subst ht97
   have HP : Hid (P = s97 s2) := Lib.hid (by rw [HP0.out]; rfl)
   clear HP0 HE HA0 HD0
   have HC := rnumber_any R_2.out 1 (by omega) hs
   have hg := Lg_num G_2.out 1
   have hb2 := numS_lt s2 1
   obtain ⟨q, hq⟩ : ∃ q, q = numS s2 1 := ⟨_, rfl⟩
   rw [← hq] at HC hg hb2
   obtain ⟨n2, s3⟩ := q
   have E2 := Lib.hid hq.symm
   have G_3 := Lib.hid hg
   have HC := Lib.hid HC
   dsimp only at G_3 hb2
   clear hq hg G_2
   go_wp2_with fail
   refine HC.out.mono ?_
   rintro e v3 ⟨ox, rfl, rx⟩
   dsimp only at rx ⊢
   have O_3 := Lib.hid (O_2.out.trans ox)
   have R_3 := Lib.hid rx
   have X_3 := Lib.hid (X_2.out.only ox (by have := NRB.out; simp; omega))
   have T_3 := Lib.hid (T_2.out.only ox (by have := NRB.out; have := HG.out; simp; omega))
   clear ox rx HC O_2 R_2 X_2 T_2
   go_wp2_with (refine wpList_store_blk rfl 24 _ _ rfl rfl gT #[.int .i64 1, .int .i64 (n2 : Int), .int .i64 0, .string ⟨#[]⟩, .string ⟨#[]⟩, .int .i64 0, .slice none 0 0, .string ⟨#[]⟩, .int .i64 0] _ 24 rfl rfl T_3.out rfl info25 (by simp [Value.oneCell']) ?_)
   intro v4 bj oj
   have T_4 := Lib.hid bj
   clear bj T_3
   have O_4 := Lib.hid (only_new O_3.out oj (by have := HG.out; omega))
   have R_4 := Lib.hid (R_3.out.only' oj (by have := NRB.out; have := HG.out; omega))
   have X_4 := Lib.hid (X_3.out.only oj (by have := HG.out; simp; omega))
   have G_4 := G_3
   obtain ⟨s4, hs4⟩ : ∃ s, s = s3 := ⟨_, rfl⟩
   rw [← hs4] at R_4 G_4
   have ES4 := Lib.hid hs4
   clear oj hs4 O_3 R_3 X_3
   obtain rfl : P = (.mk ⟨1, (n2 : Int), 0, noB, noB, 0, noB, 0⟩ [], s4) := by
     rw [HP.out]
     unfold s97
     rw [E2.out]
     try dsimp only
     first | rfl | (simp only [ES4.out]; try rfl)
   clear HP
   go_wp2_with (first
    | (refine wpList_load_blk rfl 24 _ rfl gT rfl _ 24 _ T_4.out Tryz.underlying24 rfl info25 ?_)
    | (refine wpList_store_blk rfl 24 _ _ rfl rfl w.heap.size #[.int .i64 1, .int .i64 (n2 : Int), .int .i64 0, .string ⟨#[]⟩, .string ⟨#[]⟩, .int .i64 0, .slice none 0 0, .string ⟨#[]⟩, .int .i64 0] _ 24 rfl rfl X_4.out rfl info25 (by simp [Value.oneCell']) ?_; intro vF bF oF))
   have RF := R_4.out.only' oF (by have := NRB.out; omega)
   have OF := only_new O_4.out oF (Nat.le_refl _)
   have GF := G_4.out
   go_wp2_with fail
   refine bodyPost_ret (results_blk rfl _ _ w.heap.size _ _ rfl bF Tryz.underlying24 rfl info25) rfl ⟨OF, ⟨⟨1, (n2 : Int), 0, noB, noB, 0, noB, 0⟩, .slice none 0 0⟩, rfl, TmAt.of rfl (ItsAt.nil none 0), RF, by have := GF.2; have := HLL.out; show s4.left + 1 ≤ l0; omega, GF.1.1, GF.1.2.2.2⟩
  ·
   have dt97 : ((tag : Int) == 97) = false := by rw [beq_eq_false_iff_ne]; omega
   by_cases ht98 : tag = 98
   ·
    subst ht98
    have HP : Hid (P = s98 s2) := Lib.hid (by rw [HP0.out]; rfl)
    clear HP0 HE HA0 HD0 ht97
    have HC := rnumber_any R_2.out 4 (by omega) hs
    have hg := Lg_num G_2.out 4
    have hb2 := numS_lt s2 4
    obtain ⟨q, hq⟩ : ∃ q, q = numS s2 4 := ⟨_, rfl⟩
    rw [← hq] at HC hg hb2
    obtain ⟨n2, s3⟩ := q
    have E2 := Lib.hid hq.symm
    have G_3 := Lib.hid hg
    have HC := Lib.hid HC
    dsimp only at G_3 hb2
    clear hq hg G_2
    go_wp2_with fail
    refine HC.out.mono ?_
    rintro e v3 ⟨ox, rfl, rx⟩
    dsimp only at rx ⊢
    have O_3 := Lib.hid (O_2.out.trans ox)
    have R_3 := Lib.hid rx
    have X_3 := Lib.hid (X_2.out.only ox (by have := NRB.out; simp; omega))
    have T_3 := Lib.hid (T_2.out.only ox (by have := NRB.out; have := HG.out; simp; omega))
    clear ox rx HC O_2 R_2 X_2 T_2
    obtain ⟨m, hm⟩ : ∃ m, m = toI32 n2 := ⟨_, rfl⟩
    have HM := Lib.hid hm
    have hmb : -2147483648 ≤ m ∧ m ≤ 2147483647 := by rw [hm]; unfold toI32; split <;> omega
    by_cases hc : 2147483648 ≤ n2
    ·
     have d1 : decide ((2147483648 : Int) ≤ n2) = true := decide_eq_true (by omega)
     have d1n : decide (2147483648 ≤ n2) = true := decide_eq_true hc
     have em : IntKind.i64.wrap ((n2 : Int) - 4294967296) = m := by rw [IntKind.wrap_i64, hm]; unfold toI32; rw [if_neg (by omega)]; omega
     clear hc hm
     go_wp2_with (refine wpList_store_blk rfl 24 _ _ rfl rfl gT #[.int .i64 1, .int .i64 m, .int .i64 0, .string ⟨#[]⟩, .string ⟨#[]⟩, .int .i64 0, .slice none 0 0, .string ⟨#[]⟩, .int .i64 0] _ 24 rfl rfl T_3.out rfl info25 (by simp [Value.oneCell']) ?_)
     intro v4 bj oj
     have T_4 := Lib.hid bj
     clear bj T_3
     have O_4 := Lib.hid (only_new O_3.out oj (by have := HG.out; omega))
     have R_4 := Lib.hid (R_3.out.only' oj (by have := NRB.out; have := HG.out; omega))
     have X_4 := Lib.hid (X_3.out.only oj (by have := HG.out; simp; omega))
     have G_4 := G_3
     obtain ⟨s4, hs4⟩ : ∃ s, s = s3 := ⟨_, rfl⟩
     rw [← hs4] at R_4 G_4
     have ES4 := Lib.hid hs4
     clear oj hs4 O_3 R_3 X_3
     obtain rfl : P = (.mk ⟨1, m, 0, noB, noB, 0, noB, 0⟩ [], s4) := by
       rw [HP.out]
       unfold s98
       rw [E2.out]
       try dsimp only
       rw [← HM.out]
       first | rfl | (simp only [ES4.out]; try rfl)
     clear HP
     go_wp2_with (first
      | (refine wpList_load_blk rfl 24 _ rfl gT rfl _ 24 _ T_4.out Tryz.underlying24 rfl info25 ?_)
      | (refine wpList_store_blk rfl 24 _ _ rfl rfl w.heap.size #[.int .i64 1, .int .i64 m, .int .i64 0, .string ⟨#[]⟩, .string ⟨#[]⟩, .int .i64 0, .slice none 0 0, .string ⟨#[]⟩, .int .i64 0] _ 24 rfl rfl X_4.out rfl info25 (by simp [Value.oneCell']) ?_; intro vF bF oF))
     have RF := R_4.out.only' oF (by have := NRB.out; omega)
     have OF := only_new O_4.out oF (Nat.le_refl _)
     have GF := G_4.out
     go_wp2_with fail
     refine bodyPost_ret (results_blk rfl _ _ w.heap.size _ _ rfl bF Tryz.underlying24 rfl info25) rfl ⟨OF, ⟨⟨1, m, 0, noB, noB, 0, noB, 0⟩, .slice none 0 0⟩, rfl, TmAt.of rfl (ItsAt.nil none 0), RF, by have := GF.2; have := HLL.out; show s4.left + 1 ≤ l0; omega, GF.1.1, GF.1.2.2.2⟩
    ·
     have d1 : decide ((2147483648 : Int) ≤ n2) = false := decide_eq_false (by omega)
     have d1n : decide (2147483648 ≤ n2) = false := decide_eq_false hc
     obtain rfl : m = (n2 : Int) := by rw [hm]; unfold toI32; rw [if_pos (by omega)]
     clear hc hm
     go_wp2_with (refine wpList_store_blk rfl 24 _ _ rfl rfl gT #[.int .i64 1, .int .i64 (n2 : Int), .int .i64 0, .string ⟨#[]⟩, .string ⟨#[]⟩, .int .i64 0, .slice none 0 0, .string ⟨#[]⟩, .int .i64 0] _ 24 rfl rfl T_3.out rfl info25 (by simp [Value.oneCell']) ?_)
     intro v4 bj oj
     have T_4 := Lib.hid bj
     clear bj T_3
     have O_4 := Lib.hid (only_new O_3.out oj (by have := HG.out; omega))
     have R_4 := Lib.hid (R_3.out.only' oj (by have := NRB.out; have := HG.out; omega))
     have X_4 := Lib.hid (X_3.out.only oj (by have := HG.out; simp; omega))
     have G_4 := G_3
     obtain ⟨s4, hs4⟩ : ∃ s, s = s3 := ⟨_, rfl⟩
     rw [← hs4] at R_4 G_4
     have ES4 := Lib.hid hs4
     clear oj hs4 O_3 R_3 X_3
     obtain rfl : P = (.mk ⟨1, (n2 : Int), 0, noB, noB, 0, noB, 0⟩ [], s4) := by
       rw [HP.out]
       unfold s98
       rw [E2.out]
       try dsimp only
       rw [← HM.out]
       first | rfl | (simp only [ES4.out]; try rfl)
     clear HP
     go_wp2_with (first
      | (refine wpList_load_blk rfl 24 _ rfl gT rfl _ 24 _ T_4.out Tryz.underlying24 rfl info25 ?_)
      | (refine wpList_store_blk rfl 24 _ _ rfl rfl w.heap.size #[.int .i64 1, .int .i64 (n2 : Int), .int .i64 0, .string ⟨#[]⟩, .string ⟨#[]⟩, .int .i64 0, .slice none 0 0, .string ⟨#[]⟩, .int .i64 0] _ 24 rfl rfl X_4.out rfl info25 (by simp [Value.oneCell']) ?_; intro vF bF oF))
     have RF := R_4.out.only' oF (by have := NRB.out; omega)
     have OF := only_new O_4.out oF (Nat.le_refl _)
     have GF := G_4.out
     go_wp2_with fail
     refine bodyPost_ret (results_blk rfl _ _ w.heap.size _ _ rfl bF Tryz.underlying24 rfl info25) rfl ⟨OF, ⟨⟨1, (n2 : Int), 0, noB, noB, 0, noB, 0⟩, .slice none 0 0⟩, rfl, TmAt.of rfl (ItsAt.nil none 0), RF, by have := GF.2; have := HLL.out; show s4.left + 1 ≤ l0; omega, GF.1.1, GF.1.2.2.2⟩
   ·
    have dt98 : ((tag : Int) == 98) = false := by rw [beq_eq_false_iff_ne]; omega
    by_cases ht110 : tag = 110
    ·
     subst ht110
     have HP : Hid (P = s110 s2) := Lib.hid (by rw [HP0.out]; rfl)
     clear HP0 HE HA0 HD0 ht97 ht98
     have HC := rlarge_any R_2.out hs
     have hg := Lg_large G_2.out
     obtain ⟨q, hq⟩ : ∃ q, q = largeS s2 := ⟨_, rfl⟩
     rw [← hq] at HC hg
     obtain ⟨n2, s3⟩ := q
     have E2 := Lib.hid hq.symm
     have G_3 := Lib.hid hg
     have HC := Lib.hid HC
     dsimp only at G_3
     clear hq hg G_2
     go_wp2_with fail
     refine HC.out.mono ?_
     rintro e v3 ⟨ox, rfl, rx⟩
     dsimp only at rx ⊢
     have O_3 := Lib.hid (O_2.out.trans ox)
     have R_3 := Lib.hid rx
     have X_3 := Lib.hid (X_2.out.only ox (by have := NRB.out; simp; omega))
     have T_3 := Lib.hid (T_2.out.only ox (by have := NRB.out; have := HG.out; simp; omega))
     clear ox rx HC O_2 R_2 X_2 T_2
     go_wp2_with (refine wpList_store_blk rfl 24 _ _ rfl rfl gT #[.int .i64 1, .int .i64 n2, .int .i64 0, .string ⟨#[]⟩, .string ⟨#[]⟩, .int .i64 0, .slice none 0 0, .string ⟨#[]⟩, .int .i64 0] _ 24 rfl rfl T_3.out rfl info25 (by simp [Value.oneCell']) ?_)
     intro v4 bj oj
     have T_4 := Lib.hid bj
     clear bj T_3
     have O_4 := Lib.hid (only_new O_3.out oj (by have := HG.out; omega))
     have R_4 := Lib.hid (R_3.out.only' oj (by have := NRB.out; have := HG.out; omega))
     have X_4 := Lib.hid (X_3.out.only oj (by have := HG.out; simp; omega))
     have G_4 := G_3
     obtain ⟨s4, hs4⟩ : ∃ s, s = s3 := ⟨_, rfl⟩
     rw [← hs4] at R_4 G_4
     have ES4 := Lib.hid hs4
     clear oj hs4 O_3 R_3 X_3
     obtain rfl : P = (.mk ⟨1, n2, 0, noB, noB, 0, noB, 0⟩ [], s4) := by
       rw [HP.out]
       unfold s110
       rw [E2.out]
       try dsimp only
       first | rfl | (simp only [ES4.out]; try rfl)
     clear HP
     go_wp2_with (first
      | (refine wpList_load_blk rfl 24 _ rfl gT rfl _ 24 _ T_4.out Tryz.underlying24 rfl info25 ?_)
      | (refine wpList_store_blk rfl 24 _ _ rfl rfl w.heap.size #[.int .i64 1, .int .i64 n2, .int .i64 0, .string ⟨#[]⟩, .string ⟨#[]⟩, .int .i64 0, .slice none 0 0, .string ⟨#[]⟩, .int .i64 0] _ 24 rfl rfl X_4.out rfl info25 (by simp [Value.oneCell']) ?_; intro vF bF oF))
     have RF := R_4.out.only' oF (by have := NRB.out; omega)
     have OF := only_new O_4.out oF (Nat.le_refl _)
     have GF := G_4.out
     go_wp2_with fail
     refine bodyPost_ret (results_blk rfl _ _ w.heap.size _ _ rfl bF Tryz.underlying24 rfl info25) rfl ⟨OF, ⟨⟨1, n2, 0, noB, noB, 0, noB, 0⟩, .slice none 0 0⟩, rfl, TmAt.of rfl (ItsAt.nil none 0), RF, by have := GF.2; have := HLL.out; show s4.left + 1 ≤ l0; omega, GF.1.1, GF.1.2.2.2⟩
    ·
     have dt110 : ((tag : Int) == 110) = false := by rw [beq_eq_false_iff_ne]; omega
     by_cases ht119 : tag = 119
     ·
      subst ht119
      have HP : Hid (P = s119 s2) := Lib.hid (by rw [HP0.out]; rfl)
      clear HP0 ht97 ht98 ht110
      obtain ⟨hne1, hne2⟩ := numS_tag HE.out (by decide)
      obtain ⟨a2, ha2, hd2, hb2⟩ := R_2.out
      have hl2 := congrArg List.length hne1
      rw [List.length_cons] at hl2
      have e2 : a2 = a0 + 1 := by have := HA0.out; omega
      subst e2
      have HB2 := Lib.hid hb2
      have c1 : v2.cell? ⟨rb, 1, none⟩ = some (.int .i64 ((a0 + 1 : Nat) : Int)) := hb2.cell 1
      have wm : IntKind.i64.wrap (((a0 + 1 : Nat) : Int) - 1) = (a0 : Int) := by rw [IntKind.wrap_i64]; have := HA0.out; omega
      obtain ⟨s3, hs3⟩ : ∃ s, s = (⟨119 :: s2.r, s2.left, s2.bad⟩ : Sr) := ⟨_, rfl⟩
      have G_3 := Lib.hid (show Lg s3 d L by rw [hs3]; exact G_2.out)
      have HNE := Lib.hid hne1
      generalize ((a0 + 1 : Nat) : Int) = a1 at c1 wm HB2
      clear ha2 hd2 hb2 hl2 R_2 G_2 hne1 hne2
      go_wp2_with (refine wpList_store_fld rfl 3 _ _ rfl rfl rb 1 _ 154 (.int .i64 (a0 : Int)) rfl rfl HB2.out (Nat.le_of_ble_eq_true rfl) (by kernel_rfl) rfl ?_)
      intro v3 ev
      have ox : Only [rb] v2 v3 := by rw [ev]; exact Only.setCell v2 ⟨rb, 1, none⟩ _ (by simp)
      have R_3 : Hid (RS s rb s3 v3) := Lib.hid (by
       rw [hs3]
       refine ⟨a0, ?_, ?_, ?_⟩
       ·
        have := HA0.out; rw [HNE.out] at this; exact this
       ·
        have := HD0.out; rw [HNE.out] at this; exact this
       ·
        rw [ev]; exact HB2.out.set_ 1 _)
      have O_3 := Lib.hid (O_2.out.trans ox)
      have E2 := Lib.hid hs3.symm
      have X_3 := Lib.hid (X_2.out.only ox (by have := NRB.out; simp; omega))
      have T_3 := Lib.hid (T_2.out.only ox (by have := NRB.out; have := HG.out; simp; omega))
      clear ev ox c1 wm HB2 O_2 X_2 T_2 hs3 HE HA0 HD0 HNE
      have HC := rrname_any R_3.out hs
      have hg := Lg_name G_3.out
      obtain ⟨q, hq⟩ : ∃ q, q = nameS s3 := ⟨_, rfl⟩
      rw [← hq] at HC hg
      obtain ⟨a3, s4⟩ := q
      have E3 := Lib.hid hq.symm
      have G_4 := Lib.hid hg
      have HC := Lib.hid HC
      dsimp only at G_4
      clear hq hg G_3
      go_wp2_with fail
      refine HC.out.mono ?_
      rintro e v4 ⟨ox, rfl, rx⟩
      dsimp only at rx ⊢
      have O_4 := Lib.hid (O_3.out.trans ox)
      have R_4 := Lib.hid rx
      have X_4 := Lib.hid (X_3.out.only ox (by have := NRB.out; simp; omega))
      have T_4 := Lib.hid (T_3.out.only ox (by have := NRB.out; have := HG.out; simp; omega))
      clear ox rx HC O_3 R_3 X_3 T_3
      go_wp2_with (refine wpList_store_blk rfl 24 _ _ rfl rfl gT #[.int .i64 2, .int .i64 0, .int .i64 0, .string ⟨a3.toArray⟩, .string ⟨#[]⟩, .int .i64 0, .slice none 0 0, .string ⟨#[]⟩, .int .i64 0] _ 24 rfl rfl T_4.out rfl info25 (by simp [Value.oneCell']) ?_)
      intro v5 bj oj
      have T_5 := Lib.hid bj
      clear bj T_4
      have O_5 := Lib.hid (only_new O_4.out oj (by have := HG.out; omega))
      have R_5 := Lib.hid (R_4.out.only' oj (by have := NRB.out; have := HG.out; omega))
      have X_5 := Lib.hid (X_4.out.only oj (by have := HG.out; simp; omega))
      have G_5 := G_4
      obtain ⟨s5, hs5⟩ : ∃ s, s = s4 := ⟨_, rfl⟩
      rw [← hs5] at R_5 G_5
      have ES5 := Lib.hid hs5
      clear oj hs5 O_4 R_4 X_4
      obtain rfl : P = (.mk ⟨2, 0, 0, bA a3, noB, 0, noB, 0⟩ [], s5) := by
        rw [HP.out]
        unfold s119
        rw [E2.out]
        rw [E3.out]
        try dsimp only
        first | rfl | (simp only [ES5.out]; try rfl)
      clear HP
      go_wp2_with (first
       | (refine wpList_load_blk rfl 24 _ rfl gT rfl _ 24 _ T_5.out Tryz.underlying24 rfl info25 ?_)
       | (refine wpList_store_blk rfl 24 _ _ rfl rfl w.heap.size #[.int .i64 2, .int .i64 0, .int .i64 0, .string ⟨a3.toArray⟩, .string ⟨#[]⟩, .int .i64 0, .slice none 0 0, .string ⟨#[]⟩, .int .i64 0] _ 24 rfl rfl X_5.out rfl info25 (by simp [Value.oneCell']) ?_; intro vF bF oF))
      have RF := R_5.out.only' oF (by have := NRB.out; omega)
      have OF := only_new O_5.out oF (Nat.le_refl _)
      have GF := G_5.out
      go_wp2_with fail
      refine bodyPost_ret (results_blk rfl _ _ w.heap.size _ _ rfl bF Tryz.underlying24 rfl info25) rfl ⟨OF, ⟨⟨2, 0, 0, bA a3, noB, 0, noB, 0⟩, .slice none 0 0⟩, rfl, TmAt.of rfl (ItsAt.nil none 0), RF, by have := GF.2; have := HLL.out; show s5.left + 1 ≤ l0; omega, GF.1.1, GF.1.2.2.2⟩
     ·
      have dt119 : ((tag : Int) == 119) = false := by rw [beq_eq_false_iff_ne]; omega
      by_cases ht104 : tag = 104
      ·
       subst ht104
       have HP : Hid (P = s104 T s2) := Lib.hid (by rw [HP0.out]; rfl)
       clear HP0 HE HA0 HD0 ht97 ht98 ht110 ht119
       have HC := rnumber_any R_2.out 1 (by omega) hs
       have hg := Lg_num G_2.out 1
       have hb2 := numS_lt s2 1
       obtain ⟨q, hq⟩ : ∃ q, q = numS s2 1 := ⟨_, rfl⟩
       rw [← hq] at HC hg hb2
       obtain ⟨n2, s3⟩ := q
       have E2 := Lib.hid hq.symm
       have G_3 := Lib.hid hg
       have HC := Lib.hid HC
       dsimp only at G_3 hb2
       clear hq hg G_2
       go_wp2_with fail
       refine HC.out.mono ?_
       rintro e v3 ⟨ox, rfl, rx⟩
       dsimp only at rx ⊢
       have O_3 := Lib.hid (O_2.out.trans ox)
       have R_3 := Lib.hid rx
       have X_3 := Lib.hid (X_2.out.only ox (by have := NRB.out; simp; omega))
       have T_3 := Lib.hid (T_2.out.only ox (by have := NRB.out; have := HG.out; simp; omega))
       clear ox rx HC O_2 R_2 X_2 T_2
       have HC := ritems_any HT.out R_3.out G_3.out.1 (n2) (by omega)
       obtain ⟨q, hq⟩ : ∃ q, q = itemsS T (n2) s3 := ⟨_, rfl⟩
       rw [← hq] at HC
       obtain ⟨ts, s4⟩ := q
       have E3 := Lib.hid hq.symm
       have HC := Lib.hid HC
       clear hq
       go_wp2_with fail
       refine HC.out.mono ?_
       rintro e v4 ⟨ox, vi, rfl, it, rx, hp1, hp2, hp3⟩
       dsimp only at it rx hp1 hp2 hp3
       obtain ⟨_, si, ci, rfl⟩ := it.form
       have O_4 := Lib.hid (O_3.out.trans ox)
       have R_4 := Lib.hid rx
       have G_4 := Lib.hid (show Lg s4 d L from ⟨⟨hp2, by have := G_3.out.1.2.1; omega, by have := G_3.out.1.2.2.1; omega, hp3⟩, by have := G_3.out.2; omega⟩)
       have IT_4 := Lib.hid it
       obtain ⟨li, hli⟩ : ∃ li, li = ts.length := ⟨_, rfl⟩
       rw [← hli]
       rw [← hli] at IT_4
       have HBS : Hid (w.heap.size < v3.heap.size ∧ gT < v3.heap.size) := Lib.hid ⟨X_3.out.lt, T_3.out.lt⟩
       have X_4 := Lib.hid (X_3.out.only ox (by have := NRB.out; simp; omega))
       have T_4 := Lib.hid (T_3.out.only ox (by have := NRB.out; have := HG.out; simp; omega))
       clear ox rx it hli HC hp1 hp2 hp3 O_3 R_3 X_3 T_3 G_3
       go_wp2_with (refine wpList_store_blk rfl 24 _ _ rfl rfl gT #[.int .i64 7, .int .i64 0, .int .i64 0, .string ⟨#[]⟩, .string ⟨#[]⟩, .int .i64 0, .slice si li ci, .string ⟨#[]⟩, .int .i64 0] _ 24 rfl rfl T_4.out rfl info25 (by simp [Value.oneCell']) ?_)
       intro v5 bj oj
       have T_5 := Lib.hid bj
       clear bj T_4
       have O_5 := Lib.hid (only_new O_4.out oj (by have := HG.out; omega))
       have R_5 := Lib.hid (R_4.out.only' oj (by have := NRB.out; have := HG.out; omega))
       have X_5 := Lib.hid (X_4.out.only oj (by have := HG.out; simp; omega))
       have G_5 := G_4
       have IT_5 := Lib.hid (IT_4.out.only oj (fun b hb _ => by have := HBS.out; simp; omega))
       clear IT_4
       obtain ⟨s5, hs5⟩ : ∃ s, s = s4 := ⟨_, rfl⟩
       rw [← hs5] at R_5 G_5
       have ES5 := Lib.hid hs5
       clear oj hs5 O_4 R_4 X_4
       obtain rfl : P = (.mk ⟨7, 0, 0, noB, noB, 0, noB, 0⟩ ts, s5) := by
         rw [HP.out]
         unfold s104
         unfold i104
         rw [E2.out]
         try dsimp only
         rw [E3.out]
         try dsimp only
         first | rfl | (simp only [ES5.out]; try rfl)
       clear HP
       go_wp2_with (first
        | (refine wpList_load_blk rfl 24 _ rfl gT rfl _ 24 _ T_5.out Tryz.underlying24 rfl info25 ?_)
        | (refine wpList_store_blk rfl 24 _ _ rfl rfl w.heap.size #[.int .i64 7, .int .i64 0, .int .i64 0, .string ⟨#[]⟩, .string ⟨#[]⟩, .int .i64 0, .slice si li ci, .string ⟨#[]⟩, .int .i64 0] _ 24 rfl rfl X_5.out rfl info25 (by simp [Value.oneCell']) ?_; intro vF bF oF))
       have RF := R_5.out.only' oF (by have := NRB.out; omega)
       have OF := only_new O_5.out oF (Nat.le_refl _)
       have GF := G_5.out
       have IF := IT_5.out.only oF (fun b hb _ => by have := HBS.out; simp; omega)
       go_wp2_with fail
       refine bodyPost_ret (results_blk rfl _ _ w.heap.size _ _ rfl bF Tryz.underlying24 rfl info25) rfl ⟨OF, ⟨⟨7, 0, 0, noB, noB, 0, noB, 0⟩, .slice si li ci⟩, rfl, TmAt.of rfl (IF.mono (S' := fun c => w.heap.size ≤ c) (fun b hb _ => by have := HBS.out; omega)), RF, by have := GF.2; have := HLL.out; show s5.left + 1 ≤ l0; omega, GF.1.1, GF.1.2.2.2⟩
      ·
       have dt104 : ((tag : Int) == 104) = false := by rw [beq_eq_false_iff_ne]; omega
       by_cases ht106 : tag = 106
       ·
        subst ht106
        have HP : Hid (P = s106 s2) := Lib.hid (by rw [HP0.out]; rfl)
        clear HP0 HE HA0 HD0 ht97 ht98 ht110 ht119 ht104
        go_wp2_with (refine wpList_store_blk rfl 24 _ _ rfl rfl gT #[.int .i64 8, .int .i64 0, .int .i64 0, .string ⟨#[]⟩, .string ⟨#[]⟩, .int .i64 0, .slice none 0 0, .string ⟨#[]⟩, .int .i64 0] _ 24 rfl rfl T_2.out rfl info25 (by simp [Value.oneCell']) ?_)
        intro v3 bj oj
        have T_3 := Lib.hid bj
        clear bj T_2
        have O_3 := Lib.hid (only_new O_2.out oj (by have := HG.out; omega))
        have R_3 := Lib.hid (R_2.out.only' oj (by have := NRB.out; have := HG.out; omega))
        have X_3 := Lib.hid (X_2.out.only oj (by have := HG.out; simp; omega))
        have G_3 := G_2
        obtain ⟨s3, hs3⟩ : ∃ s, s = s2 := ⟨_, rfl⟩
        rw [← hs3] at R_3 G_3
        have ES3 := Lib.hid hs3
        clear oj hs3 O_2 R_2 X_2
        obtain rfl : P = (.mk ⟨8, 0, 0, noB, noB, 0, noB, 0⟩ [], s3) := by
          rw [HP.out]
          unfold s106
          first | rfl | (simp only [ES3.out]; try rfl)
        clear HP
        go_wp2_with (first
         | (refine wpList_load_blk rfl 24 _ rfl gT rfl _ 24 _ T_3.out Tryz.underlying24 rfl info25 ?_)
         | (refine wpList_store_blk rfl 24 _ _ rfl rfl w.heap.size #[.int .i64 8, .int .i64 0, .int .i64 0, .string ⟨#[]⟩, .string ⟨#[]⟩, .int .i64 0, .slice none 0 0, .string ⟨#[]⟩, .int .i64 0] _ 24 rfl rfl X_3.out rfl info25 (by simp [Value.oneCell']) ?_; intro vF bF oF))
        have RF := R_3.out.only' oF (by have := NRB.out; omega)
        have OF := only_new O_3.out oF (Nat.le_refl _)
        have GF := G_3.out
        go_wp2_with fail
        refine bodyPost_ret (results_blk rfl _ _ w.heap.size _ _ rfl bF Tryz.underlying24 rfl info25) rfl ⟨OF, ⟨⟨8, 0, 0, noB, noB, 0, noB, 0⟩, .slice none 0 0⟩, rfl, TmAt.of rfl (ItsAt.nil none 0), RF, by have := GF.2; have := HLL.out; show s3.left + 1 ≤ l0; omega, GF.1.1, GF.1.2.2.2⟩
       ·
        have dt106 : ((tag : Int) == 106) = false := by rw [beq_eq_false_iff_ne]; omega
        by_cases ht108 : tag = 108
        ·
         subst ht108
         have HP : Hid (P = s108 T s2) := Lib.hid (by rw [HP0.out]; rfl)
         clear HP0 HE HA0 HD0 ht97 ht98 ht110 ht119 ht104 ht106
         have HC := rnumber_any R_2.out 4 (by omega) hs
         have hg := Lg_num G_2.out 4
         have hb2 := numS_lt s2 4
         obtain ⟨q, hq⟩ : ∃ q, q = numS s2 4 := ⟨_, rfl⟩
         rw [← hq] at HC hg hb2
         obtain ⟨n2, s3⟩ := q
         have E2 := Lib.hid hq.symm
         have G_3 := Lib.hid hg
         have HC := Lib.hid HC
         dsimp only at G_3 hb2
         clear hq hg G_2
         go_wp2_with fail
         refine HC.out.mono ?_
         rintro e v3 ⟨ox, rfl, rx⟩
         dsimp only at rx ⊢
         have O_3 := Lib.hid (O_2.out.trans ox)
         have R_3 := Lib.hid rx
         have X_3 := Lib.hid (X_2.out.only ox (by have := NRB.out; simp; omega))
         have T_3 := Lib.hid (T_2.out.only ox (by have := NRB.out; have := HG.out; simp; omega))
         clear ox rx HC O_2 R_2 X_2 T_2
         obtain ⟨k, hk⟩ : ∃ k, k = n2 + 1 := ⟨_, rfl⟩
         have HKK := Lib.hid hk
         have hk9 : k ≤ 8589934592 := by omega
         have wk : IntKind.i64.wrap ((n2 : Int) + 1) = (k : Int) := by rw [IntKind.wrap_i64]; omega
         clear hk
         have HC := ritems_any HT.out R_3.out G_3.out.1 (k) (by omega)
         obtain ⟨q, hq⟩ : ∃ q, q = itemsS T (k) s3 := ⟨_, rfl⟩
         rw [← hq] at HC
         obtain ⟨ts, s4⟩ := q
         have E3 := Lib.hid hq.symm
         have HC := Lib.hid HC
         clear hq
         go_wp2_with fail
         refine HC.out.mono ?_
         rintro e v4 ⟨ox, vi, rfl, it, rx, hp1, hp2, hp3⟩
         dsimp only at it rx hp1 hp2 hp3
         obtain ⟨_, si, ci, rfl⟩ := it.form
         have O_4 := Lib.hid (O_3.out.trans ox)
         have R_4 := Lib.hid rx
         have G_4 := Lib.hid (show Lg s4 d L from ⟨⟨hp2, by have := G_3.out.1.2.1; omega, by have := G_3.out.1.2.2.1; omega, hp3⟩, by have := G_3.out.2; omega⟩)
         have IT_4 := Lib.hid it
         obtain ⟨li, hli⟩ : ∃ li, li = ts.length := ⟨_, rfl⟩
         rw [← hli]
         rw [← hli] at IT_4
         have HBS : Hid (w.heap.size < v3.heap.size ∧ gT < v3.heap.size) := Lib.hid ⟨X_3.out.lt, T_3.out.lt⟩
         have X_4 := Lib.hid (X_3.out.only ox (by have := NRB.out; simp; omega))
         have T_4 := Lib.hid (T_3.out.only ox (by have := NRB.out; have := HG.out; simp; omega))
         clear ox rx it hli HC hp1 hp2 hp3 O_3 R_3 X_3 T_3 G_3
         go_wp2_with (refine wpList_store_blk rfl 24 _ _ rfl rfl gT #[.int .i64 9, .int .i64 0, .int .i64 0, .string ⟨#[]⟩, .string ⟨#[]⟩, .int .i64 0, .slice si li ci, .string ⟨#[]⟩, .int .i64 0] _ 24 rfl rfl T_4.out rfl info25 (by simp [Value.oneCell']) ?_)
         intro v5 bj oj
         have T_5 := Lib.hid bj
         clear bj T_4
         have O_5 := Lib.hid (only_new O_4.out oj (by have := HG.out; omega))
         have R_5 := Lib.hid (R_4.out.only' oj (by have := NRB.out; have := HG.out; omega))
         have X_5 := Lib.hid (X_4.out.only oj (by have := HG.out; simp; omega))
         have G_5 := G_4
         have IT_5 := Lib.hid (IT_4.out.only oj (fun b hb _ => by have := HBS.out; simp; omega))
         clear IT_4
         obtain ⟨s5, hs5⟩ : ∃ s, s = s4 := ⟨_, rfl⟩
         rw [← hs5] at R_5 G_5
         have ES5 := Lib.hid hs5
         clear oj hs5 O_4 R_4 X_4
         obtain rfl : P = (.mk ⟨9, 0, 0, noB, noB, 0, noB, 0⟩ ts, s5) := by
           rw [HP.out]
           unfold s108
           unfold i108
           rw [E2.out]
           try dsimp only
           rw [← HKK.out]
           rw [E3.out]
           try dsimp only
           first | rfl | (simp only [ES5.out]; try rfl)
         clear HP
         go_wp2_with (first
          | (refine wpList_load_blk rfl 24 _ rfl gT rfl _ 24 _ T_5.out Tryz.underlying24 rfl info25 ?_)
          | (refine wpList_store_blk rfl 24 _ _ rfl rfl w.heap.size #[.int .i64 9, .int .i64 0, .int .i64 0, .string ⟨#[]⟩, .string ⟨#[]⟩, .int .i64 0, .slice si li ci, .string ⟨#[]⟩, .int .i64 0] _ 24 rfl rfl X_5.out rfl info25 (by simp [Value.oneCell']) ?_; intro vF bF oF))
         have RF := R_5.out.only' oF (by have := NRB.out; omega)
         have OF := only_new O_5.out oF (Nat.le_refl _)
         have GF := G_5.out
         have IF := IT_5.out.only oF (fun b hb _ => by have := HBS.out; simp; omega)
         go_wp2_with fail
         refine bodyPost_ret (results_blk rfl _ _ w.heap.size _ _ rfl bF Tryz.underlying24 rfl info25) rfl ⟨OF, ⟨⟨9, 0, 0, noB, noB, 0, noB, 0⟩, .slice si li ci⟩, rfl, TmAt.of rfl (IF.mono (S' := fun c => w.heap.size ≤ c) (fun b hb _ => by have := HBS.out; omega)), RF, by have := GF.2; have := HLL.out; show s5.left + 1 ≤ l0; omega, GF.1.1, GF.1.2.2.2⟩
        ·
         have dt108 : ((tag : Int) == 108) = false := by rw [beq_eq_false_iff_ne]; omega
         by_cases ht109 : tag = 109
         ·
          subst ht109
          have HP : Hid (P = s109 s2) := Lib.hid (by rw [HP0.out]; rfl)
          clear HP0 HE HA0 HD0 ht97 ht98 ht110 ht119 ht104 ht106 ht108
          have HC := rnumber_any R_2.out 4 (by omega) hs
          have hg := Lg_num G_2.out 4
          have hb2 := numS_lt s2 4
          obtain ⟨q, hq⟩ : ∃ q, q = numS s2 4 := ⟨_, rfl⟩
          rw [← hq] at HC hg hb2
          obtain ⟨n2, s3⟩ := q
          have E2 := Lib.hid hq.symm
          have G_3 := Lib.hid hg
          have HC := Lib.hid HC
          dsimp only at G_3 hb2
          clear hq hg G_2
          go_wp2_with fail
          refine HC.out.mono ?_
          rintro e v3 ⟨ox, rfl, rx⟩
          dsimp only at rx ⊢
          have O_3 := Lib.hid (O_2.out.trans ox)
          have R_3 := Lib.hid rx
          have X_3 := Lib.hid (X_2.out.only ox (by have := NRB.out; simp; omega))
          have T_3 := Lib.hid (T_2.out.only ox (by have := NRB.out; have := HG.out; simp; omega))
          clear ox rx HC O_2 R_2 X_2 T_2
          have HC := rtake_any R_3.out n2 (by omega) hs
          have hg := Lg_take G_3.out n2
          have hb3 := (takeS_len s3 n2).2
          have hr3 := R_3.out.le
          obtain ⟨q, hq⟩ : ∃ q, q = takeS s3 n2 := ⟨_, rfl⟩
          rw [← hq] at HC hg hb3
          obtain ⟨a3, s4⟩ := q
          have E3 := Lib.hid hq.symm
          have G_4 := Lib.hid hg
          have HC := Lib.hid HC
          dsimp only at G_4 hb3
          clear hq hg G_3
          have hz3 : a3.length ≤ 200000 := by omega
          clear hb3 hr3
          go_wp2_with fail
          refine HC.out.mono ?_
          rintro e v4 ⟨ox, rfl, rx⟩
          dsimp only at rx ⊢
          have O_4 := Lib.hid (O_3.out.trans ox)
          have R_4 := Lib.hid rx
          have X_4 := Lib.hid (X_3.out.only ox (by have := NRB.out; simp; omega))
          have T_4 := Lib.hid (T_3.out.only ox (by have := NRB.out; have := HG.out; simp; omega))
          clear ox rx HC O_3 R_3 X_3 T_3
          obtain ⟨m, hm⟩ : ∃ m, m = a3.length := ⟨_, rfl⟩
          have HM := Lib.hid hm
          have hm9 : m ≤ 200000 := by omega
          have hla : (a3.length : Int) = (m : Int) := by rw [hm]
          clear hm
          have w8 : IntKind.i64.wrap (8 * (m : Int)) = 8 * (m : Int) := by rw [IntKind.wrap_i64]; omega
          go_wp2_with (refine wpList_store_blk rfl 24 _ _ rfl rfl gT #[.int .i64 10, .int .i64 0, .int .i64 0, .string ⟨#[]⟩, .string ⟨#[]⟩, .int .i64 0, .slice none 0 0, .string ⟨a3.toArray⟩, .int .i64 (8 * (m : Int))] _ 24 rfl rfl T_4.out rfl info25 (by simp [Value.oneCell']) ?_)
          intro v5 bj oj
          have T_5 := Lib.hid bj
          clear bj T_4
          have O_5 := Lib.hid (only_new O_4.out oj (by have := HG.out; omega))
          have R_5 := Lib.hid (R_4.out.only' oj (by have := NRB.out; have := HG.out; omega))
          have X_5 := Lib.hid (X_4.out.only oj (by have := HG.out; simp; omega))
          have G_5 := G_4
          obtain ⟨s5, hs5⟩ : ∃ s, s = s4 := ⟨_, rfl⟩
          rw [← hs5] at R_5 G_5
          have ES5 := Lib.hid hs5
          clear oj hs5 O_4 R_4 X_4
          obtain rfl : P = (.mk ⟨10, 0, 0, noB, noB, 0, bA a3, 8 * (m : Int)⟩ [], s5) := by
            rw [HP.out]
            unfold s109
            rw [E2.out]
            try dsimp only
            rw [E3.out]
            try dsimp only
            unfold i109
            rw [← HM.out]
            first | rfl | (simp only [ES5.out]; try rfl)
          clear HP
          go_wp2_with (first
           | (refine wpList_load_blk rfl 24 _ rfl gT rfl _ 24 _ T_5.out Tryz.underlying24 rfl info25 ?_)
           | (refine wpList_store_blk rfl 24 _ _ rfl rfl w.heap.size #[.int .i64 10, .int .i64 0, .int .i64 0, .string ⟨#[]⟩, .string ⟨#[]⟩, .int .i64 0, .slice none 0 0, .string ⟨a3.toArray⟩, .int .i64 (8 * (m : Int))] _ 24 rfl rfl X_5.out rfl info25 (by simp [Value.oneCell']) ?_; intro vF bF oF))
          have RF := R_5.out.only' oF (by have := NRB.out; omega)
          have OF := only_new O_5.out oF (Nat.le_refl _)
          have GF := G_5.out
          go_wp2_with fail
          refine bodyPost_ret (results_blk rfl _ _ w.heap.size _ _ rfl bF Tryz.underlying24 rfl info25) rfl ⟨OF, ⟨⟨10, 0, 0, noB, noB, 0, bA a3, 8 * (m : Int)⟩, .slice none 0 0⟩, rfl, TmAt.of rfl (ItsAt.nil none 0), RF, by have := GF.2; have := HLL.out; show s5.left + 1 ≤ l0; omega, GF.1.1, GF.1.2.2.2⟩
         ·
          have dt109 : ((tag : Int) == 109) = false := by rw [beq_eq_false_iff_ne]; omega
          by_cases ht77 : tag = 77
          ·
           subst ht77
           have HP : Hid (P = s77 s2) := Lib.hid (by rw [HP0.out]; rfl)
           clear HP0 HE HA0 HD0 ht97 ht98 ht110 ht119 ht104 ht106 ht108 ht109
           have HC := rnumber_any R_2.out 4 (by omega) hs
           have hg := Lg_num G_2.out 4
           have hb2 := numS_lt s2 4
           obtain ⟨q, hq⟩ : ∃ q, q = numS s2 4 := ⟨_, rfl⟩
           rw [← hq] at HC hg hb2
           obtain ⟨n2, s3⟩ := q
           have E2 := Lib.hid hq.symm
           have G_3 := Lib.hid hg
           have HC := Lib.hid HC
           dsimp only at G_3 hb2
           clear hq hg G_2
           go_wp2_with fail
           refine HC.out.mono ?_
           rintro e v3 ⟨ox, rfl, rx⟩
           dsimp only at rx ⊢
           have O_3 := Lib.hid (O_2.out.trans ox)
           have R_3 := Lib.hid rx
           have X_3 := Lib.hid (X_2.out.only ox (by have := NRB.out; simp; omega))
           have T_3 := Lib.hid (T_2.out.only ox (by have := NRB.out; have := HG.out; simp; omega))
           clear ox rx HC O_2 R_2 X_2 T_2
           have HC := rnumber_any R_3.out 1 (by omega) hs
           have hg := Lg_num G_3.out 1
           have hb3 := numS_lt s3 1
           obtain ⟨q, hq⟩ : ∃ q, q = numS s3 1 := ⟨_, rfl⟩
           rw [← hq] at HC hg hb3
           obtain ⟨n3, s4⟩ := q
           have E3 := Lib.hid hq.symm
           have G_4 := Lib.hid hg
           have HC := Lib.hid HC
           dsimp only at G_4 hb3
           clear hq hg G_3
           go_wp2_with fail
           refine HC.out.mono ?_
           rintro e v4 ⟨ox, rfl, rx⟩
           dsimp only at rx ⊢
           have O_4 := Lib.hid (O_3.out.trans ox)
           have R_4 := Lib.hid rx
           have X_4 := Lib.hid (X_3.out.only ox (by have := NRB.out; simp; omega))
           have T_4 := Lib.hid (T_3.out.only ox (by have := NRB.out; have := HG.out; simp; omega))
           clear ox rx HC O_3 R_3 X_3 T_3
           have HC := rtake_any R_4.out n2 (by omega) hs
           have hg := Lg_take G_4.out n2
           have hb4 := (takeS_len s4 n2).2
           have hr4 := R_4.out.le
           obtain ⟨q, hq⟩ : ∃ q, q = takeS s4 n2 := ⟨_, rfl⟩
           rw [← hq] at HC hg hb4
           obtain ⟨a4, s5⟩ := q
           have E4 := Lib.hid hq.symm
           have G_5 := Lib.hid hg
           have HC := Lib.hid HC
           dsimp only at G_5 hb4
           clear hq hg G_4
           have hz4 : a4.length ≤ 200000 := by omega
           clear hb4 hr4
           go_wp2_with fail
           refine HC.out.mono ?_
           rintro e v5 ⟨ox, rfl, rx⟩
           dsimp only at rx ⊢
           have O_5 := Lib.hid (O_4.out.trans ox)
           have R_5 := Lib.hid rx
           have X_5 := Lib.hid (X_4.out.only ox (by have := NRB.out; simp; omega))
           have T_5 := Lib.hid (T_4.out.only ox (by have := NRB.out; have := HG.out; simp; omega))
           clear ox rx HC O_4 R_4 X_4 T_4
           obtain ⟨m, hm⟩ : ∃ m, m = a4.length := ⟨_, rfl⟩
           have HM := Lib.hid hm
           have hm9 : m ≤ 200000 := by omega
           have hla : (a4.length : Int) = (m : Int) := by rw [hm]
           clear hm
           have w8 : IntKind.i64.wrap (8 * (m : Int)) = 8 * (m : Int) := by rw [IntKind.wrap_i64]; omega
           have w7 : IntKind.i64.wrap (8 * (m : Int) - 8) = 8 * (m : Int) - 8 := by rw [IntKind.wrap_i64]; omega
           have w9 : IntKind.i64.wrap (8 * (m : Int) - 8 + (n3 : Int)) = 8 * (m : Int) - 8 + (n3 : Int) := by rw [IntKind.wrap_i64]; omega
           go_wp2_with (refine wpList_store_blk rfl 24 _ _ rfl rfl gT #[.int .i64 10, .int .i64 0, .int .i64 0, .string ⟨#[]⟩, .string ⟨#[]⟩, .int .i64 0, .slice none 0 0, .string ⟨a4.toArray⟩, .int .i64 (8 * (m : Int) - 8 + (n3 : Int))] _ 24 rfl rfl T_5.out rfl info25 (by simp [Value.oneCell']) ?_)
           intro v6 bj oj
           have T_6 := Lib.hid bj
           clear bj T_5
           have O_6 := Lib.hid (only_new O_5.out oj (by have := HG.out; omega))
           have R_6 := Lib.hid (R_5.out.only' oj (by have := NRB.out; have := HG.out; omega))
           have X_6 := Lib.hid (X_5.out.only oj (by have := HG.out; simp; omega))
           have G_6 := G_5
           obtain ⟨s6, hs6⟩ : ∃ s, s = s5 := ⟨_, rfl⟩
           rw [← hs6] at R_6 G_6
           have ES6 := Lib.hid hs6
           clear oj hs6 O_5 R_5 X_5
           obtain rfl : P = (.mk ⟨10, 0, 0, noB, noB, 0, bA a4, 8 * (m : Int) - 8 + (n3 : Int)⟩ [], s6) := by
             rw [HP.out]
             unfold s77
             rw [E2.out]
             try dsimp only
             rw [E3.out]
             try dsimp only
             unfold j77
             try dsimp only
             rw [E4.out]
             try dsimp only
             unfold i77
             try dsimp only
             rw [← HM.out]
             first | rfl | (simp only [ES6.out]; try rfl)
           clear HP
           go_wp2_with (first
            | (refine wpList_load_blk rfl 24 _ rfl gT rfl _ 24 _ T_6.out Tryz.underlying24 rfl info25 ?_)
            | (refine wpList_store_blk rfl 24 _ _ rfl rfl w.heap.size #[.int .i64 10, .int .i64 0, .int .i64 0, .string ⟨#[]⟩, .string ⟨#[]⟩, .int .i64 0, .slice none 0 0, .string ⟨a4.toArray⟩, .int .i64 (8 * (m : Int) - 8 + (n3 : Int))] _ 24 rfl rfl X_6.out rfl info25 (by simp [Value.oneCell']) ?_; intro vF bF oF))
           have RF := R_6.out.only' oF (by have := NRB.out; omega)
           have OF := only_new O_6.out oF (Nat.le_refl _)
           have GF := G_6.out
           go_wp2_with fail
           refine bodyPost_ret (results_blk rfl _ _ w.heap.size _ _ rfl bF Tryz.underlying24 rfl info25) rfl ⟨OF, ⟨⟨10, 0, 0, noB, noB, 0, bA a4, 8 * (m : Int) - 8 + (n3 : Int)⟩, .slice none 0 0⟩, rfl, TmAt.of rfl (ItsAt.nil none 0), RF, by have := GF.2; have := HLL.out; show s6.left + 1 ≤ l0; omega, GF.1.1, GF.1.2.2.2⟩
          ·
           have dt77 : ((tag : Int) == 77) = false := by rw [beq_eq_false_iff_ne]; omega
           by_cases ht88 : tag = 88
           ·
            subst ht88
            have HP : Hid (P = s88 s2) := Lib.hid (by rw [HP0.out]; rfl)
            clear HP0 HE HA0 HD0 ht97 ht98 ht110 ht119 ht104 ht106 ht108 ht109 ht77
            have HC := rrname_any R_2.out hs
            have hg := Lg_name G_2.out
            obtain ⟨q, hq⟩ : ∃ q, q = nameS s2 := ⟨_, rfl⟩
            rw [← hq] at HC hg
            obtain ⟨a2, s3⟩ := q
            have E2 := Lib.hid hq.symm
            have G_3 := Lib.hid hg
            have HC := Lib.hid HC
            dsimp only at G_3
            clear hq hg G_2
            go_wp2_with fail
            refine HC.out.mono ?_
            rintro e v3 ⟨ox, rfl, rx⟩
            dsimp only at rx ⊢
            have O_3 := Lib.hid (O_2.out.trans ox)
            have R_3 := Lib.hid rx
            have X_3 := Lib.hid (X_2.out.only ox (by have := NRB.out; simp; omega))
            have T_3 := Lib.hid (T_2.out.only ox (by have := NRB.out; have := HG.out; simp; omega))
            clear ox rx HC O_2 R_2 X_2 T_2
            have HC := rnumber_any R_3.out 4 (by omega) hs
            have hg := Lg_num G_3.out 4
            have hb3 := numS_lt s3 4
            obtain ⟨q, hq⟩ : ∃ q, q = numS s3 4 := ⟨_, rfl⟩
            rw [← hq] at HC hg hb3
            obtain ⟨n3, s4⟩ := q
            have E3 := Lib.hid hq.symm
            have G_4 := Lib.hid hg
            have HC := Lib.hid HC
            dsimp only at G_4 hb3
            clear hq hg G_3
            go_wp2_with fail
            refine HC.out.mono ?_
            rintro e v4 ⟨ox, rfl, rx⟩
            dsimp only at rx ⊢
            have O_4 := Lib.hid (O_3.out.trans ox)
            have R_4 := Lib.hid rx
            have X_4 := Lib.hid (X_3.out.only ox (by have := NRB.out; simp; omega))
            have T_4 := Lib.hid (T_3.out.only ox (by have := NRB.out; have := HG.out; simp; omega))
            clear ox rx HC O_3 R_3 X_3 T_3
            go_wp2_with (refine wpList_store_blk rfl 24 _ _ rfl rfl gT #[.int .i64 6, .int .i64 (n3 : Int), .int .i64 0, .string ⟨a2.toArray⟩, .string ⟨#[]⟩, .int .i64 0, .slice none 0 0, .string ⟨#[]⟩, .int .i64 0] _ 24 rfl rfl T_4.out rfl info25 (by simp [Value.oneCell']) ?_)
            intro v5 bj oj
            have T_5 := Lib.hid bj
            clear bj T_4
            have O_5 := Lib.hid (only_new O_4.out oj (by have := HG.out; omega))
            have R_5 := Lib.hid (R_4.out.only' oj (by have := NRB.out; have := HG.out; omega))
            have X_5 := Lib.hid (X_4.out.only oj (by have := HG.out; simp; omega))
            have G_5 := G_4
            obtain ⟨s5, hs5⟩ : ∃ s, s = s4 := ⟨_, rfl⟩
            rw [← hs5] at R_5 G_5
            have ES5 := Lib.hid hs5
            clear oj hs5 O_4 R_4 X_4
            have HC := rnumber_any R_5.out 4 (by omega) hs
            have hg := Lg_num G_5.out 4
            have hb5 := numS_lt s5 4
            obtain ⟨q, hq⟩ : ∃ q, q = numS s5 4 := ⟨_, rfl⟩
            rw [← hq] at HC hg hb5
            obtain ⟨n5, s6⟩ := q
            have E5 := Lib.hid hq.symm
            have G_6 := Lib.hid hg
            have HC := Lib.hid HC
            dsimp only at G_6 hb5
            clear hq hg G_5
            go_wp2_with fail
            refine HC.out.mono ?_
            rintro e v6 ⟨ox, rfl, rx⟩
            dsimp only at rx ⊢
            have O_6 := Lib.hid (O_5.out.trans ox)
            have R_6 := Lib.hid rx
            have X_6 := Lib.hid (X_5.out.only ox (by have := NRB.out; simp; omega))
            have T_6 := Lib.hid (T_5.out.only ox (by have := NRB.out; have := HG.out; simp; omega))
            clear ox rx HC O_5 R_5 X_5 T_5
            have HC := rnumber_any R_6.out 4 (by omega) hs
            have hg := Lg_num G_6.out 4
            have hb6 := numS_lt s6 4
            obtain ⟨q, hq⟩ : ∃ q, q = numS s6 4 := ⟨_, rfl⟩
            rw [← hq] at HC hg hb6
            obtain ⟨n6, s7⟩ := q
            have E6 := Lib.hid hq.symm
            have G_7 := Lib.hid hg
            have HC := Lib.hid HC
            dsimp only at G_7 hb6
            clear hq hg G_6
            go_wp2_with fail
            refine HC.out.mono ?_
            rintro e v7 ⟨ox, rfl, rx⟩
            dsimp only at rx ⊢
            have O_7 := Lib.hid (O_6.out.trans ox)
            have R_7 := Lib.hid rx
            have X_7 := Lib.hid (X_6.out.only ox (by have := NRB.out; simp; omega))
            have T_7 := Lib.hid (T_6.out.only ox (by have := NRB.out; have := HG.out; simp; omega))
            clear ox rx HC O_6 R_6 X_6 T_6
            go_wp2_with (refine wpList_store_fld rfl 2 _ _ rfl rfl gT 2 _ 24 (.int .i64 (n6 : Int)) rfl rfl T_7.out (Nat.le_of_ble_eq_true rfl) (by kernel_rfl) rfl ?_)
            intro v8 ev
            have oj : Only [gT] v7 v8 := by rw [ev]; exact Only.setCell _ ⟨gT, 2, none⟩ _ (by simp)
            have T_8 := Lib.hid (show Blk v8 gT 24 #[.int .i64 6, .int .i64 (n3 : Int), .int .i64 (n6 : Int), .string ⟨a2.toArray⟩, .string ⟨#[]⟩, .int .i64 0, .slice none 0 0, .string ⟨#[]⟩, .int .i64 0] by rw [ev]; exact T_7.out.set_ 2 _)
            clear ev T_7
            have O_8 := Lib.hid (only_new O_7.out oj (by have := HG.out; omega))
            have R_8 := Lib.hid (R_7.out.only' oj (by have := NRB.out; have := HG.out; omega))
            have X_8 := Lib.hid (X_7.out.only oj (by have := HG.out; simp; omega))
            have G_8 := G_7
            obtain ⟨s8, hs8⟩ : ∃ s, s = s7 := ⟨_, rfl⟩
            rw [← hs8] at R_8 G_8
            have ES8 := Lib.hid hs8
            clear oj hs8 O_7 R_7 X_7
            obtain rfl : P = (.mk ⟨6, n3, n6, bA a2, noB, 0, noB, 0⟩ [], s8) := by
              rw [HP.out]
              unfold s88
              rw [E2.out]
              try dsimp only
              unfold k88
              try dsimp only
              rw [E3.out]
              try dsimp only
              unfold j88
              try dsimp only
              rw [← ES5.out]
              rw [E5.out]
              try dsimp only
              rw [E6.out]
              try dsimp only
              unfold i88
              try dsimp only
              first | rfl | (simp only [ES8.out]; try rfl)
            clear HP
            go_wp2_with (first
             | (refine wpList_load_blk rfl 24 _ rfl gT rfl _ 24 _ T_8.out Tryz.underlying24 rfl info25 ?_)
             | (refine wpList_store_blk rfl 24 _ _ rfl rfl w.heap.size #[.int .i64 6, .int .i64 (n3 : Int), .int .i64 (n6 : Int), .string ⟨a2.toArray⟩, .string ⟨#[]⟩, .int .i64 0, .slice none 0 0, .string ⟨#[]⟩, .int .i64 0] _ 24 rfl rfl X_8.out rfl info25 (by simp [Value.oneCell']) ?_; intro vF bF oF))
            have RF := R_8.out.only' oF (by have := NRB.out; omega)
            have OF := only_new O_8.out oF (Nat.le_refl _)
            have GF := G_8.out
            go_wp2_with fail
            refine bodyPost_ret (results_blk rfl _ _ w.heap.size _ _ rfl bF Tryz.underlying24 rfl info25) rfl ⟨OF, ⟨⟨6, n3, n6, bA a2, noB, 0, noB, 0⟩, .slice none 0 0⟩, rfl, TmAt.of rfl (ItsAt.nil none 0), RF, by have := GF.2; have := HLL.out; show s8.left + 1 ≤ l0; omega, GF.1.1, GF.1.2.2.2⟩
           ·
            have dt88 : ((tag : Int) == 88) = false := by rw [beq_eq_false_iff_ne]; omega
            by_cases ht90 : tag = 90
            ·
             subst ht90
             have HP : Hid (P = s90 s2) := Lib.hid (by rw [HP0.out]; rfl)
             clear HP0 HE HA0 HD0 ht97 ht98 ht110 ht119 ht104 ht106 ht108 ht109 ht77 ht88
             have HC := rnumber_any R_2.out 2 (by omega) hs
             have hg := Lg_num G_2.out 2
             have hb2 := numS_lt s2 2
             obtain ⟨q, hq⟩ : ∃ q, q = numS s2 2 := ⟨_, rfl⟩
             rw [← hq] at HC hg hb2
             obtain ⟨n2, s3⟩ := q
             have E2 := Lib.hid hq.symm
             have G_3 := Lib.hid hg
             have HC := Lib.hid HC
             dsimp only at G_3 hb2
             clear hq hg G_2
             go_wp2_with fail
             refine HC.out.mono ?_
             rintro e v3 ⟨ox, rfl, rx⟩
             dsimp only at rx ⊢
             have O_3 := Lib.hid (O_2.out.trans ox)
             have R_3 := Lib.hid rx
             have X_3 := Lib.hid (X_2.out.only ox (by have := NRB.out; simp; omega))
             have T_3 := Lib.hid (T_2.out.only ox (by have := NRB.out; have := HG.out; simp; omega))
             clear ox rx HC O_2 R_2 X_2 T_2
             have HC := rrname_any R_3.out hs
             have hg := Lg_name G_3.out
             obtain ⟨q, hq⟩ : ∃ q, q = nameS s3 := ⟨_, rfl⟩
             rw [← hq] at HC hg
             obtain ⟨a3, s4⟩ := q
             have E3 := Lib.hid hq.symm
             have G_4 := Lib.hid hg
             have HC := Lib.hid HC
             dsimp only at G_4
             clear hq hg G_3
             go_wp2_with fail
             refine HC.out.mono ?_
             rintro e v4 ⟨ox, rfl, rx⟩
             dsimp only at rx ⊢
             have O_4 := Lib.hid (O_3.out.trans ox)
             have R_4 := Lib.hid rx
             have X_4 := Lib.hid (X_3.out.only ox (by have := NRB.out; simp; omega))
             have T_4 := Lib.hid (T_3.out.only ox (by have := NRB.out; have := HG.out; simp; omega))
             clear ox rx HC O_3 R_3 X_3 T_3
             have HC := rnumber_any R_4.out 4 (by omega) hs
             have hg := Lg_num G_4.out 4
             have hb4 := numS_lt s4 4
             obtain ⟨q, hq⟩ : ∃ q, q = numS s4 4 := ⟨_, rfl⟩
             rw [← hq] at HC hg hb4
             obtain ⟨n4, s5⟩ := q
             have E4 := Lib.hid hq.symm
             have G_5 := Lib.hid hg
             have HC := Lib.hid HC
             dsimp only at G_5 hb4
             clear hq hg G_4
             go_wp2_with fail
             refine HC.out.mono ?_
             rintro e v5 ⟨ox, rfl, rx⟩
             dsimp only at rx ⊢
             have O_5 := Lib.hid (O_4.out.trans ox)
             have R_5 := Lib.hid rx
             have X_5 := Lib.hid (X_4.out.only ox (by have := NRB.out; simp; omega))
             have T_5 := Lib.hid (T_4.out.only ox (by have := NRB.out; have := HG.out; simp; omega))
             clear ox rx HC O_4 R_4 X_4 T_4
             have HC := rnumber_any R_5.out 4 (by omega) hs
             have hg := Lg_num G_5.out 4
             have hb5 := numS_lt s5 4
             obtain ⟨q, hq⟩ : ∃ q, q = numS s5 4 := ⟨_, rfl⟩
             rw [← hq] at HC hg hb5
             obtain ⟨n5, s6⟩ := q
             have E5 := Lib.hid hq.symm
             have G_6 := Lib.hid hg
             have HC := Lib.hid HC
             dsimp only at G_6 hb5
             clear hq hg G_5
             go_wp2_with fail
             refine HC.out.mono ?_
             rintro e v6 ⟨ox, rfl, rx⟩
             dsimp only at rx ⊢
             have O_6 := Lib.hid (O_5.out.trans ox)
             have R_6 := Lib.hid rx
             have X_6 := Lib.hid (X_5.out.only ox (by have := NRB.out; simp; omega))
             have T_6 := Lib.hid (T_5.out.only ox (by have := NRB.out; have := HG.out; simp; omega))
             clear ox rx HC O_5 R_5 X_5 T_5
             go_wp2_with (refine wpList_store_blk rfl 24 _ _ rfl rfl gT #[.int .i64 3, .int .i64 (n5 : Int), .int .i64 (n4 : Int), .string ⟨a3.toArray⟩, .string ⟨#[]⟩, .int .i64 0, .slice none 0 0, .string ⟨#[]⟩, .int .i64 0] _ 24 rfl rfl T_6.out rfl info25 (by simp [Value.oneCell']) ?_)
             intro v7 bj oj
             have T_7 := Lib.hid bj
             clear bj T_6
             have O_7 := Lib.hid (only_new O_6.out oj (by have := HG.out; omega))
             have R_7 := Lib.hid (R_6.out.only' oj (by have := NRB.out; have := HG.out; omega))
             have X_7 := Lib.hid (X_6.out.only oj (by have := HG.out; simp; omega))
             have G_7 := G_6
             obtain ⟨s7, hs7⟩ : ∃ s, s = s6 := ⟨_, rfl⟩
             rw [← hs7] at R_7 G_7
             have ES7 := Lib.hid hs7
             clear oj hs7 O_6 R_6 X_6
             obtain rfl : P = (.mk ⟨3, n5, n4, bA a3, noB, 0, noB, 0⟩ [], s7) := by
               rw [HP.out]
               unfold s90
               rw [E2.out]
               try dsimp only
               rw [E3.out]
               try dsimp only
               unfold k90
               try dsimp only
               rw [E4.out]
               try dsimp only
               unfold j90
               try dsimp only
               rw [E5.out]
               try dsimp only
               unfold i90
               try dsimp only
               first | rfl | (simp only [ES7.out]; try rfl)
             clear HP
             go_wp2_with (first
              | (refine wpList_load_blk rfl 24 _ rfl gT rfl _ 24 _ T_7.out Tryz.underlying24 rfl info25 ?_)
              | (refine wpList_store_blk rfl 24 _ _ rfl rfl w.heap.size #[.int .i64 3, .int .i64 (n5 : Int), .int .i64 (n4 : Int), .string ⟨a3.toArray⟩, .string ⟨#[]⟩, .int .i64 0, .slice none 0 0, .string ⟨#[]⟩, .int .i64 0] _ 24 rfl rfl X_7.out rfl info25 (by simp [Value.oneCell']) ?_; intro vF bF oF))
             have RF := R_7.out.only' oF (by have := NRB.out; omega)
             have OF := only_new O_7.out oF (Nat.le_refl _)
             have GF := G_7.out
             go_wp2_with fail
             refine bodyPost_ret (results_blk rfl _ _ w.heap.size _ _ rfl bF Tryz.underlying24 rfl info25) rfl ⟨OF, ⟨⟨3, n5, n4, bA a3, noB, 0, noB, 0⟩, .slice none 0 0⟩, rfl, TmAt.of rfl (ItsAt.nil none 0), RF, by have := GF.2; have := HLL.out; show s7.left + 1 ≤ l0; omega, GF.1.1, GF.1.2.2.2⟩
            ·
             have dt90 : ((tag : Int) == 90) = false := by rw [beq_eq_false_iff_ne]; omega
             by_cases ht113 : tag = 113
             ·
              subst ht113
              have HP : Hid (P = s113 s2) := Lib.hid (by rw [HP0.out]; rfl)
              clear HP0 HE HA0 HD0 ht97 ht98 ht110 ht119 ht104 ht106 ht108 ht109 ht77 ht88 ht90
              have HC := rrname_any R_2.out hs
              have hg := Lg_name G_2.out
              obtain ⟨q, hq⟩ : ∃ q, q = nameS s2 := ⟨_, rfl⟩
              rw [← hq] at HC hg
              obtain ⟨a2, s3⟩ := q
              have E2 := Lib.hid hq.symm
              have G_3 := Lib.hid hg
              have HC := Lib.hid HC
              dsimp only at G_3
              clear hq hg G_2
              go_wp2_with fail
              refine HC.out.mono ?_
              rintro e v3 ⟨ox, rfl, rx⟩
              dsimp only at rx ⊢
              have O_3 := Lib.hid (O_2.out.trans ox)
              have R_3 := Lib.hid rx
              have X_3 := Lib.hid (X_2.out.only ox (by have := NRB.out; simp; omega))
              have T_3 := Lib.hid (T_2.out.only ox (by have := NRB.out; have := HG.out; simp; omega))
              clear ox rx HC O_2 R_2 X_2 T_2
              have HC := rrname_any R_3.out hs
              have hg := Lg_name G_3.out
              obtain ⟨q, hq⟩ : ∃ q, q = nameS s3 := ⟨_, rfl⟩
              rw [← hq] at HC hg
              obtain ⟨a3, s4⟩ := q
              have E3 := Lib.hid hq.symm
              have G_4 := Lib.hid hg
              have HC := Lib.hid HC
              dsimp only at G_4
              clear hq hg G_3
              go_wp2_with fail
              refine HC.out.mono ?_
              rintro e v4 ⟨ox, rfl, rx⟩
              dsimp only at rx ⊢
              have O_4 := Lib.hid (O_3.out.trans ox)
              have R_4 := Lib.hid rx
              have X_4 := Lib.hid (X_3.out.only ox (by have := NRB.out; simp; omega))
              have T_4 := Lib.hid (T_3.out.only ox (by have := NRB.out; have := HG.out; simp; omega))
              clear ox rx HC O_3 R_3 X_3 T_3
              go_wp2_with (refine wpList_store_blk rfl 24 _ _ rfl rfl gT #[.int .i64 5, .int .i64 0, .int .i64 0, .string ⟨a2.toArray⟩, .string ⟨a3.toArray⟩, .int .i64 0, .slice none 0 0, .string ⟨#[]⟩, .int .i64 0] _ 24 rfl rfl T_4.out rfl info25 (by simp [Value.oneCell']) ?_)
              intro v5 bj oj
              have T_5 := Lib.hid bj
              clear bj T_4
              have O_5 := Lib.hid (only_new O_4.out oj (by have := HG.out; omega))
              have R_5 := Lib.hid (R_4.out.only' oj (by have := NRB.out; have := HG.out; omega))
              have X_5 := Lib.hid (X_4.out.only oj (by have := HG.out; simp; omega))
              have G_5 := G_4
              obtain ⟨s5, hs5⟩ : ∃ s, s = s4 := ⟨_, rfl⟩
              rw [← hs5] at R_5 G_5
              have ES5 := Lib.hid hs5
              clear oj hs5 O_4 R_4 X_4
              have HC := rnumber_any R_5.out 1 (by omega) hs
              have hg := Lg_num G_5.out 1
              have hb5 := numS_lt s5 1
              obtain ⟨q, hq⟩ : ∃ q, q = numS s5 1 := ⟨_, rfl⟩
              rw [← hq] at HC hg hb5
              obtain ⟨n5, s6⟩ := q
              have E5 := Lib.hid hq.symm
              have G_6 := Lib.hid hg
              have HC := Lib.hid HC
              dsimp only at G_6 hb5
              clear hq hg G_5
              go_wp2_with fail
              refine HC.out.mono ?_
              rintro e v6 ⟨ox, rfl, rx⟩
              dsimp only at rx ⊢
              have O_6 := Lib.hid (O_5.out.trans ox)
              have R_6 := Lib.hid rx
              have X_6 := Lib.hid (X_5.out.only ox (by have := NRB.out; simp; omega))
              have T_6 := Lib.hid (T_5.out.only ox (by have := NRB.out; have := HG.out; simp; omega))
              clear ox rx HC O_5 R_5 X_5 T_5
              by_cases hc : n5 = 97
              ·
               have d1 : ((n5 : Int) != 97) = false := by rw [bne_eq_false_iff_eq]; omega
               have HQ : Hid (decide (n5 ≠ 97) = false) := Lib.hid (by simp [hc])
               clear hc
               have HC := rnumber_any R_6.out 1 (by omega) hs
               have hg := Lg_num G_6.out 1
               have hb6 := numS_lt s6 1
               obtain ⟨q, hq⟩ : ∃ q, q = numS s6 1 := ⟨_, rfl⟩
               rw [← hq] at HC hg hb6
               obtain ⟨n6, s7⟩ := q
               have E6 := Lib.hid hq.symm
               have G_7 := Lib.hid hg
               have HC := Lib.hid HC
               dsimp only at G_7 hb6
               clear hq hg G_6
               go_wp2_with fail
               refine HC.out.mono ?_
               rintro e v7 ⟨ox, rfl, rx⟩
               dsimp only at rx ⊢
               have O_7 := Lib.hid (O_6.out.trans ox)
               have R_7 := Lib.hid rx
               have X_7 := Lib.hid (X_6.out.only ox (by have := NRB.out; simp; omega))
               have T_7 := Lib.hid (T_6.out.only ox (by have := NRB.out; have := HG.out; simp; omega))
               clear ox rx HC O_6 R_6 X_6 T_6
               go_wp2_with (refine wpList_store_fld rfl 3 _ _ rfl rfl gT 5 _ 24 (.int .i64 (n6 : Int)) rfl rfl T_7.out (Nat.le_of_ble_eq_true rfl) (by kernel_rfl) rfl ?_)
               intro v8 ev
               have oj : Only [gT] v7 v8 := by rw [ev]; exact Only.setCell _ ⟨gT, 5, none⟩ _ (by simp)
               have T_8 := Lib.hid (show Blk v8 gT 24 #[.int .i64 5, .int .i64 0, .int .i64 0, .string ⟨a2.toArray⟩, .string ⟨a3.toArray⟩, .int .i64 (n6 : Int), .slice none 0 0, .string ⟨#[]⟩, .int .i64 0] by rw [ev]; exact T_7.out.set_ 5 _)
               clear ev T_7
               have O_8 := Lib.hid (only_new O_7.out oj (by have := HG.out; omega))
               have R_8 := Lib.hid (R_7.out.only' oj (by have := NRB.out; have := HG.out; omega))
               have X_8 := Lib.hid (X_7.out.only oj (by have := HG.out; simp; omega))
               have G_8 := G_7
               obtain ⟨s8, hs8⟩ : ∃ s, s = s7 := ⟨_, rfl⟩
               rw [← hs8] at R_8 G_8
               have ES8 := Lib.hid hs8
               clear oj hs8 O_7 R_7 X_7
               obtain rfl : P = (.mk ⟨5, 0, 0, bA a2, bA a3, n6, noB, 0⟩ [], s8) := by
                 rw [HP.out]
                 unfold s113
                 rw [E2.out]
                 try dsimp only
                 unfold l113
                 try dsimp only
                 rw [E3.out]
                 try dsimp only
                 unfold k113
                 try dsimp only
                 rw [← ES5.out]
                 rw [E5.out]
                 try dsimp only
                 unfold j113
                 try dsimp only
                 rw [show decide (n5 ≠ 97) = false from HQ.out]
                 rw [show badS false s6 = s6 from rfl]
                 rw [E6.out]
                 try dsimp only
                 unfold i113
                 try dsimp only
                 first | rfl | (simp only [ES8.out]; try rfl)
               clear HP
               go_wp2_with (first
                | (refine wpList_load_blk rfl 24 _ rfl gT rfl _ 24 _ T_8.out Tryz.underlying24 rfl info25 ?_)
                | (refine wpList_store_blk rfl 24 _ _ rfl rfl w.heap.size #[.int .i64 5, .int .i64 0, .int .i64 0, .string ⟨a2.toArray⟩, .string ⟨a3.toArray⟩, .int .i64 (n6 : Int), .slice none 0 0, .string ⟨#[]⟩, .int .i64 0] _ 24 rfl rfl X_8.out rfl info25 (by simp [Value.oneCell']) ?_; intro vF bF oF))
               have RF := R_8.out.only' oF (by have := NRB.out; omega)
               have OF := only_new O_8.out oF (Nat.le_refl _)
               have GF := G_8.out
               go_wp2_with fail
               refine bodyPost_ret (results_blk rfl _ _ w.heap.size _ _ rfl bF Tryz.underlying24 rfl info25) rfl ⟨OF, ⟨⟨5, 0, 0, bA a2, bA a3, n6, noB, 0⟩, .slice none 0 0⟩, rfl, TmAt.of rfl (ItsAt.nil none 0), RF, by have := GF.2; have := HLL.out; show s8.left + 1 ≤ l0; omega, GF.1.1, GF.1.2.2.2⟩
              ·
               have d1 : ((n5 : Int) != 97) = true := by rw [bne_iff_ne]; omega
               have HQ : Hid (decide (n5 ≠ 97) = true) := Lib.hid (by simp [hc])
               clear hc
               obtain ⟨ab, _, _, hbb⟩ := R_6.out
               have HBB := Lib.hid hbb
               clear hbb
               go_wp2_with (refine wpList_store_fld rfl 4 _ _ rfl rfl rb 3 _ 154 (.bool true) rfl rfl HBB.out (Nat.le_of_ble_eq_true rfl) (by kernel_rfl) rfl ?_)
               intro v7 ev
               have ox : Only [rb] v6 v7 := by rw [ev]; exact Only.setCell v6 ⟨rb, 3, none⟩ _ (by simp)
               obtain ⟨s7, hs7⟩ : ∃ s, s = (⟨s6.r, s6.left, true⟩ : Sr) := ⟨_, rfl⟩
               have R_7 := Lib.hid (show RS s rb s7 v7 by rw [ev, hs7]; exact R_6.out.setBad)
               have E6 := Lib.hid (show badS true s6 = s7 by rw [hs7]; rfl)
               have G_7 := Lib.hid (show Lg s7 d L by rw [← E6.out]; exact Lg_bad G_6.out true)
               have O_7 := Lib.hid (O_6.out.trans ox)
               have X_7 := Lib.hid (X_6.out.only ox (by have := NRB.out; simp; omega))
               have T_7 := Lib.hid (T_6.out.only ox (by have := NRB.out; have := HG.out; simp; omega))
               clear ev ox HBB hs7 R_6 O_6 X_6 T_6 G_6
               have HC := rnumber_any R_7.out 1 (by omega) hs
               have hg := Lg_num G_7.out 1
               have hb7 := numS_lt s7 1
               obtain ⟨q, hq⟩ : ∃ q, q = numS s7 1 := ⟨_, rfl⟩
               rw [← hq] at HC hg hb7
               obtain ⟨n7, s8⟩ := q
               have E7 := Lib.hid hq.symm
               have G_8 := Lib.hid hg
               have HC := Lib.hid HC
               dsimp only at G_8 hb7
               clear hq hg G_7
               go_wp2_with fail
               refine HC.out.mono ?_
               rintro e v8 ⟨ox, rfl, rx⟩
               dsimp only at rx ⊢
               have O_8 := Lib.hid (O_7.out.trans ox)
               have R_8 := Lib.hid rx
               have X_8 := Lib.hid (X_7.out.only ox (by have := NRB.out; simp; omega))
               have T_8 := Lib.hid (T_7.out.only ox (by have := NRB.out; have := HG.out; simp; omega))
               clear ox rx HC O_7 R_7 X_7 T_7
               go_wp2_with (refine wpList_store_fld rfl 3 _ _ rfl rfl gT 5 _ 24 (.int .i64 (n7 : Int)) rfl rfl T_8.out (Nat.le_of_ble_eq_true rfl) (by kernel_rfl) rfl ?_)
               intro v9 ev
               have oj : Only [gT] v8 v9 := by rw [ev]; exact Only.setCell _ ⟨gT, 5, none⟩ _ (by simp)
               have T_9 := Lib.hid (show Blk v9 gT 24 #[.int .i64 5, .int .i64 0, .int .i64 0, .string ⟨a2.toArray⟩, .string ⟨a3.toArray⟩, .int .i64 (n7 : Int), .slice none 0 0, .string ⟨#[]⟩, .int .i64 0] by rw [ev]; exact T_8.out.set_ 5 _)
               clear ev T_8
               have O_9 := Lib.hid (only_new O_8.out oj (by have := HG.out; omega))
               have R_9 := Lib.hid (R_8.out.only' oj (by have := NRB.out; have := HG.out; omega))
               have X_9 := Lib.hid (X_8.out.only oj (by have := HG.out; simp; omega))
               have G_9 := G_8
               obtain ⟨s9, hs9⟩ : ∃ s, s = s8 := ⟨_, rfl⟩
               rw [← hs9] at R_9 G_9
               have ES9 := Lib.hid hs9
               clear oj hs9 O_8 R_8 X_8
               obtain rfl : P = (.mk ⟨5, 0, 0, bA a2, bA a3, n7, noB, 0⟩ [], s9) := by
                 rw [HP.out]
                 unfold s113
                 rw [E2.out]
                 try dsimp only
                 unfold l113
                 try dsimp only
                 rw [E3.out]
                 try dsimp only
                 unfold k113
                 try dsimp only
                 rw [← ES5.out]
                 rw [E5.out]
                 try dsimp only
                 unfold j113
                 try dsimp only
                 rw [show decide (n5 ≠ 97) = true from HQ.out]
                 rw [E6.out]
                 try dsimp only
                 rw [E7.out]
                 try dsimp only
                 unfold i113
                 try dsimp only
                 first | rfl | (simp only [ES9.out]; try rfl)
               clear HP
               go_wp2_with (first
                | (refine wpList_load_blk rfl 24 _ rfl gT rfl _ 24 _ T_9.out Tryz.underlying24 rfl info25 ?_)
                | (refine wpList_store_blk rfl 24 _ _ rfl rfl w.heap.size #[.int .i64 5, .int .i64 0, .int .i64 0, .string ⟨a2.toArray⟩, .string ⟨a3.toArray⟩, .int .i64 (n7 : Int), .slice none 0 0, .string ⟨#[]⟩, .int .i64 0] _ 24 rfl rfl X_9.out rfl info25 (by simp [Value.oneCell']) ?_; intro vF bF oF))
               have RF := R_9.out.only' oF (by have := NRB.out; omega)
               have OF := only_new O_9.out oF (Nat.le_refl _)
               have GF := G_9.out
               go_wp2_with fail
               refine bodyPost_ret (results_blk rfl _ _ w.heap.size _ _ rfl bF Tryz.underlying24 rfl info25) rfl ⟨OF, ⟨⟨5, 0, 0, bA a2, bA a3, n7, noB, 0⟩, .slice none 0 0⟩, rfl, TmAt.of rfl (ItsAt.nil none 0), RF, by have := GF.2; have := HLL.out; show s9.left + 1 ≤ l0; omega, GF.1.1, GF.1.2.2.2⟩
             ·
              have dt113 : ((tag : Int) == 113) = false := by rw [beq_eq_false_iff_ne]; omega
              by_cases ht112 : tag = 112
              ·
               subst ht112
               have HP : Hid (P = s112 T s2) := Lib.hid (by rw [HP0.out]; rfl)
               clear HP0 HE HA0 HD0 ht97 ht98 ht110 ht119 ht104 ht106 ht108 ht109 ht77 ht88 ht90 ht113
               have HC := rnumber_any R_2.out 1 (by omega) hs
               have hg := Lg_num G_2.out 1
               have hb2 := numS_lt s2 1
               obtain ⟨q, hq⟩ : ∃ q, q = numS s2 1 := ⟨_, rfl⟩
               rw [← hq] at HC hg hb2
               obtain ⟨n2, s3⟩ := q
               have E2 := Lib.hid hq.symm
               have G_3 := Lib.hid hg
               have HC := Lib.hid HC
               dsimp only at G_3 hb2
               clear hq hg G_2
               go_wp2_with fail
               refine HC.out.mono ?_
               rintro e v3 ⟨ox, rfl, rx⟩
               dsimp only at rx ⊢
               have O_3 := Lib.hid (O_2.out.trans ox)
               have R_3 := Lib.hid rx
               have X_3 := Lib.hid (X_2.out.only ox (by have := NRB.out; simp; omega))
               have T_3 := Lib.hid (T_2.out.only ox (by have := NRB.out; have := HG.out; simp; omega))
               clear ox rx HC O_2 R_2 X_2 T_2
               have HC := rnumber_any R_3.out 2 (by omega) hs
               have hg := Lg_num G_3.out 2
               have hb3 := numS_lt s3 2
               obtain ⟨q, hq⟩ : ∃ q, q = numS s3 2 := ⟨_, rfl⟩
               rw [← hq] at HC hg hb3
               obtain ⟨n3, s4⟩ := q
               have E3 := Lib.hid hq.symm
               have G_4 := Lib.hid hg
               have HC := Lib.hid HC
               dsimp only at G_4 hb3
               clear hq hg G_3
               go_wp2_with fail
               refine HC.out.mono ?_
               rintro e v4 ⟨ox, rfl, rx⟩
               dsimp only at rx ⊢
               have O_4 := Lib.hid (O_3.out.trans ox)
               have R_4 := Lib.hid rx
               have X_4 := Lib.hid (X_3.out.only ox (by have := NRB.out; simp; omega))
               have T_4 := Lib.hid (T_3.out.only ox (by have := NRB.out; have := HG.out; simp; omega))
               clear ox rx HC O_3 R_3 X_3 T_3
               go_wp2_with (refine wpList_store_blk rfl 24 _ _ rfl rfl gT #[.int .i64 4, .int .i64 (n3 : Int), .int .i64 0, .string ⟨#[]⟩, .string ⟨#[]⟩, .int .i64 (n2 : Int), .slice none 0 0, .string ⟨#[]⟩, .int .i64 0] _ 24 rfl rfl T_4.out rfl info25 (by simp [Value.oneCell']) ?_)
               intro v5 bj oj
               have T_5 := Lib.hid bj
               clear bj T_4
               have O_5 := Lib.hid (only_new O_4.out oj (by have := HG.out; omega))
               have R_5 := Lib.hid (R_4.out.only' oj (by have := NRB.out; have := HG.out; omega))
               have X_5 := Lib.hid (X_4.out.only oj (by have := HG.out; simp; omega))
               have G_5 := G_4
               obtain ⟨s5, hs5⟩ : ∃ s, s = s4 := ⟨_, rfl⟩
               rw [← hs5] at R_5 G_5
               have ES5 := Lib.hid hs5
               clear oj hs5 O_4 R_4 X_4
               have HC := rnumber_any R_5.out 1 (by omega) hs
               have hg := Lg_num G_5.out 1
               have hb5 := numS_lt s5 1
               obtain ⟨q, hq⟩ : ∃ q, q = numS s5 1 := ⟨_, rfl⟩
               rw [← hq] at HC hg hb5
               obtain ⟨n5, s6⟩ := q
               have E5 := Lib.hid hq.symm
               have G_6 := Lib.hid hg
               have HC := Lib.hid HC
               dsimp only at G_6 hb5
               clear hq hg G_5
               go_wp2_with fail
               refine HC.out.mono ?_
               rintro e v6 ⟨ox, rfl, rx⟩
               dsimp only at rx ⊢
               have O_6 := Lib.hid (O_5.out.trans ox)
               have R_6 := Lib.hid rx
               have X_6 := Lib.hid (X_5.out.only ox (by have := NRB.out; simp; omega))
               have T_6 := Lib.hid (T_5.out.only ox (by have := NRB.out; have := HG.out; simp; omega))
               clear ox rx HC O_5 R_5 X_5 T_5
               have HC := rrname_any R_6.out hs
               have hg := Lg_name G_6.out
               obtain ⟨q, hq⟩ : ∃ q, q = nameS s6 := ⟨_, rfl⟩
               rw [← hq] at HC hg
               obtain ⟨a6, s7⟩ := q
               have E6 := Lib.hid hq.symm
               have G_7 := Lib.hid hg
               have HC := Lib.hid HC
               dsimp only at G_7
               clear hq hg G_6
               go_wp2_with fail
               refine HC.out.mono ?_
               rintro e v7 ⟨ox, rfl, rx⟩
               dsimp only at rx ⊢
               have O_7 := Lib.hid (O_6.out.trans ox)
               have R_7 := Lib.hid rx
               have X_7 := Lib.hid (X_6.out.only ox (by have := NRB.out; simp; omega))
               have T_7 := Lib.hid (T_6.out.only ox (by have := NRB.out; have := HG.out; simp; omega))
               clear ox rx HC O_6 R_6 X_6 T_6
               go_wp2_with (refine wpList_store_fld rfl 9 _ _ rfl rfl gT 3 _ 24 (.string ⟨a6.toArray⟩) rfl rfl T_7.out (Nat.le_of_ble_eq_true rfl) (by kernel_rfl) rfl ?_)
               intro v8 ev
               have oj : Only [gT] v7 v8 := by rw [ev]; exact Only.setCell _ ⟨gT, 3, none⟩ _ (by simp)
               have T_8 := Lib.hid (show Blk v8 gT 24 #[.int .i64 4, .int .i64 (n3 : Int), .int .i64 0, .string ⟨a6.toArray⟩, .string ⟨#[]⟩, .int .i64 (n2 : Int), .slice none 0 0, .string ⟨#[]⟩, .int .i64 0] by rw [ev]; exact T_7.out.set_ 3 _)
               clear ev T_7
               have O_8 := Lib.hid (only_new O_7.out oj (by have := HG.out; omega))
               have R_8 := Lib.hid (R_7.out.only' oj (by have := NRB.out; have := HG.out; omega))
               have X_8 := Lib.hid (X_7.out.only oj (by have := HG.out; simp; omega))
               have G_8 := G_7
               obtain ⟨s8, hs8⟩ : ∃ s, s = s7 := ⟨_, rfl⟩
               rw [← hs8] at R_8 G_8
               have ES8 := Lib.hid hs8
               clear oj hs8 O_7 R_7 X_7
               have HC := rnumber_any R_8.out 4 (by omega) hs
               have hg := Lg_num G_8.out 4
               have hb8 := numS_lt s8 4
               obtain ⟨q, hq⟩ : ∃ q, q = numS s8 4 := ⟨_, rfl⟩
               rw [← hq] at HC hg hb8
               obtain ⟨n8, s9⟩ := q
               have E8 := Lib.hid hq.symm
               have G_9 := Lib.hid hg
               have HC := Lib.hid HC
               dsimp only at G_9 hb8
               clear hq hg G_8
               go_wp2_with fail
               refine HC.out.mono ?_
               rintro e v9 ⟨ox, rfl, rx⟩
               dsimp only at rx ⊢
               have O_9 := Lib.hid (O_8.out.trans ox)
               have R_9 := Lib.hid rx
               have X_9 := Lib.hid (X_8.out.only ox (by have := NRB.out; simp; omega))
               have T_9 := Lib.hid (T_8.out.only ox (by have := NRB.out; have := HG.out; simp; omega))
               clear ox rx HC O_8 R_8 X_8 T_8
               go_wp2_with (refine wpList_store_fld rfl 2 _ _ rfl rfl gT 2 _ 24 (.int .i64 (n8 : Int)) rfl rfl T_9.out (Nat.le_of_ble_eq_true rfl) (by kernel_rfl) rfl ?_)
               intro v10 ev
               have oj : Only [gT] v9 v10 := by rw [ev]; exact Only.setCell _ ⟨gT, 2, none⟩ _ (by simp)
               have T_10 := Lib.hid (show Blk v10 gT 24 #[.int .i64 4, .int .i64 (n3 : Int), .int .i64 (n8 : Int), .string ⟨a6.toArray⟩, .string ⟨#[]⟩, .int .i64 (n2 : Int), .slice none 0 0, .string ⟨#[]⟩, .int .i64 0] by rw [ev]; exact T_9.out.set_ 2 _)
               clear ev T_9
               have O_10 := Lib.hid (only_new O_9.out oj (by have := HG.out; omega))
               have R_10 := Lib.hid (R_9.out.only' oj (by have := NRB.out; have := HG.out; omega))
               have X_10 := Lib.hid (X_9.out.only oj (by have := HG.out; simp; omega))
               have G_10 := G_9
               obtain ⟨s10, hs10⟩ : ∃ s, s = s9 := ⟨_, rfl⟩
               rw [← hs10] at R_10 G_10
               have ES10 := Lib.hid hs10
               clear oj hs10 O_9 R_9 X_9
               have HC := ritems_any HT.out R_10.out G_10.out.1 (n5) (by omega)
               obtain ⟨q, hq⟩ : ∃ q, q = itemsS T (n5) s10 := ⟨_, rfl⟩
               rw [← hq] at HC
               obtain ⟨ts, s11⟩ := q
               have E10 := Lib.hid hq.symm
               have HC := Lib.hid HC
               clear hq
               go_wp2_with fail
               refine HC.out.mono ?_
               rintro e v11 ⟨ox, vi, rfl, it, rx, hp1, hp2, hp3⟩
               dsimp only at it rx hp1 hp2 hp3
               obtain ⟨_, si, ci, rfl⟩ := it.form
               have O_11 := Lib.hid (O_10.out.trans ox)
               have R_11 := Lib.hid rx
               have G_11 := Lib.hid (show Lg s11 d L from ⟨⟨hp2, by have := G_10.out.1.2.1; omega, by have := G_10.out.1.2.2.1; omega, hp3⟩, by have := G_10.out.2; omega⟩)
               have IT_11 := Lib.hid it
               obtain ⟨li, hli⟩ : ∃ li, li = ts.length := ⟨_, rfl⟩
               rw [← hli]
               rw [← hli] at IT_11
               have HBS : Hid (w.heap.size < v10.heap.size ∧ gT < v10.heap.size) := Lib.hid ⟨X_10.out.lt, T_10.out.lt⟩
               have X_11 := Lib.hid (X_10.out.only ox (by have := NRB.out; simp; omega))
               have T_11 := Lib.hid (T_10.out.only ox (by have := NRB.out; have := HG.out; simp; omega))
               clear ox rx it hli HC hp1 hp2 hp3 O_10 R_10 X_10 T_10 G_10
               go_wp2_with (refine wpList_store_fld rfl 22 _ _ rfl rfl gT 6 _ 24 (.slice si li ci) rfl rfl T_11.out (Nat.le_of_ble_eq_true rfl) (by kernel_rfl) rfl ?_)
               intro v12 ev
               have oj : Only [gT] v11 v12 := by rw [ev]; exact Only.setCell _ ⟨gT, 6, none⟩ _ (by simp)
               have T_12 := Lib.hid (show Blk v12 gT 24 #[.int .i64 4, .int .i64 (n3 : Int), .int .i64 (n8 : Int), .string ⟨a6.toArray⟩, .string ⟨#[]⟩, .int .i64 (n2 : Int), .slice si li ci, .string ⟨#[]⟩, .int .i64 0] by rw [ev]; exact T_11.out.set_ 6 _)
               clear ev T_11
               have O_12 := Lib.hid (only_new O_11.out oj (by have := HG.out; omega))
               have R_12 := Lib.hid (R_11.out.only' oj (by have := NRB.out; have := HG.out; omega))
               have X_12 := Lib.hid (X_11.out.only oj (by have := HG.out; simp; omega))
               have G_12 := G_11
               have IT_12 := Lib.hid (IT_11.out.only oj (fun b hb _ => by have := HBS.out; simp; omega))
               clear IT_11
               obtain ⟨s12, hs12⟩ : ∃ s, s = s11 := ⟨_, rfl⟩
               rw [← hs12] at R_12 G_12
               have ES12 := Lib.hid hs12
               clear oj hs12 O_11 R_11 X_11
               obtain rfl : P = (.mk ⟨4, n3, n8, bA a6, noB, n2, noB, 0⟩ ts, s12) := by
                 rw [HP.out]
                 unfold s112
                 rw [E2.out]
                 try dsimp only
                 unfold m112
                 try dsimp only
                 rw [E3.out]
                 try dsimp only
                 unfold l112
                 try dsimp only
                 rw [← ES5.out]
                 rw [E5.out]
                 try dsimp only
                 unfold k112
                 try dsimp only
                 rw [E6.out]
                 try dsimp only
                 unfold j112
                 try dsimp only
                 rw [← ES8.out]
                 rw [E8.out]
                 try dsimp only
                 unfold i112
                 try dsimp only
                 rw [← ES10.out]
                 rw [E10.out]
                 try dsimp only
                 first | rfl | (simp only [ES12.out]; try rfl)
               clear HP
               go_wp2_with (first
                | (refine wpList_load_blk rfl 24 _ rfl gT rfl _ 24 _ T_12.out Tryz.underlying24 rfl info25 ?_)
                | (refine wpList_store_blk rfl 24 _ _ rfl rfl w.heap.size #[.int .i64 4, .int .i64 (n3 : Int), .int .i64 (n8 : Int), .string ⟨a6.toArray⟩, .string ⟨#[]⟩, .int .i64 (n2 : Int), .slice si li ci, .string ⟨#[]⟩, .int .i64 0] _ 24 rfl rfl X_12.out rfl info25 (by simp [Value.oneCell']) ?_; intro vF bF oF))
               have RF := R_12.out.only' oF (by have := NRB.out; omega)
               have OF := only_new O_12.out oF (Nat.le_refl _)
               have GF := G_12.out
               have IF := IT_12.out.only oF (fun b hb _ => by have := HBS.out; simp; omega)
               go_wp2_with fail
               refine bodyPost_ret (results_blk rfl _ _ w.heap.size _ _ rfl bF Tryz.underlying24 rfl info25) rfl ⟨OF, ⟨⟨4, n3, n8, bA a6, noB, n2, noB, 0⟩, .slice si li ci⟩, rfl, TmAt.of rfl (IF.mono (S' := fun c => w.heap.size ≤ c) (fun b hb _ => by have := HBS.out; omega)), RF, by have := GF.2; have := HLL.out; show s12.left + 1 ≤ l0; omega, GF.1.1, GF.1.2.2.2⟩
              ·
               have dt112 : ((tag : Int) == 112) = false := by rw [beq_eq_false_iff_ne]; omega
               obtain rfl : P = (zeroT, ⟨s2.r, s2.left, true⟩) := by
                rw [HP0.out]
                unfold tagS
                rw [if_neg ht97, if_neg ht98, if_neg ht110, if_neg ht119, if_neg ht104, if_neg ht106, if_neg ht108, if_neg ht109, if_neg ht77, if_neg ht88, if_neg ht90, if_neg ht113, if_neg ht112]
               clear HP0 HE HA0 HD0 ht97 ht98 ht110 ht119 ht104 ht106 ht108 ht109 ht77 ht88 ht90 ht113 ht112
               obtain ⟨ab, _, _, hbb⟩ := R_2.out
               have HBB := Lib.hid hbb
               clear hbb
               go_upto_region 6 with fail
               go_wp2_with (refine wpList_store_fld rfl 4 _ _ rfl rfl rb 3 _ 154 (.bool true) rfl rfl HBB.out (Nat.le_of_ble_eq_true rfl) (by kernel_rfl) rfl ?_)
               intro v3 ev
               have ox : Only [rb] v2 v3 := by rw [ev]; exact Only.setCell v2 ⟨rb, 3, none⟩ _ (by simp)
               have R_3 := Lib.hid (show RS s rb ⟨s2.r, s2.left, true⟩ v3 by rw [ev]; exact R_2.out.setBad)
               have O_3 := Lib.hid (O_2.out.trans ox)
               have X_3 := Lib.hid (X_2.out.only ox (by have := NRB.out; simp; omega))
               have T_3 := Lib.hid (T_2.out.only ox (by have := NRB.out; have := HG.out; simp; omega))
               clear ev ox HBB R_2 O_2 X_2 T_2
               go_wp2_with (first
                | (refine wpList_load_blk rfl 24 _ rfl gT rfl _ 24 _ T_3.out Tryz.underlying24 rfl info25 ?_)
                | (refine wpList_store_blk rfl 24 _ _ rfl rfl w.heap.size #[.int .i64 0, .int .i64 0, .int .i64 0, .string ⟨#[]⟩, .string ⟨#[]⟩, .int .i64 0, .slice none 0 0, .string ⟨#[]⟩, .int .i64 0] _ 24 rfl rfl X_3.out rfl info25 (by simp [Value.oneCell']) ?_; intro vF bF oF))
               have RF := R_3.out.only' oF (by have := NRB.out; omega)
               have OF := only_new O_3.out oF (Nat.le_refl _)
               go_wp2_with fail
               refine bodyPost_ret (results_blk rfl _ _ w.heap.size _ _ rfl bF Tryz.underlying24 rfl info25) rfl ⟨OF, ⟨zeroFl, .slice none 0 0⟩, rfl, zeroT_at _ _, RF, by have := G_2.out.2; have := HLL.out; show s2.left + 1 ≤ l0; omega, G_2.out.1.1, fun h => by cases h⟩
theorem rrterm_any {s : ByteArray} {rb : Nat} (hs : s.size ≤ 200000) : ∀ d, SmC (termS d) s rb d
 | 0 => fun st W h hb hl0 hld => by omega
 | d + 1 => fun st W h hb hl0 hld hl2 => rrterm_core (rrterm_any hs d) h hb hl0 hld hl2 hs
end Go.Proofs.YtemlogadbopffaaGreat
