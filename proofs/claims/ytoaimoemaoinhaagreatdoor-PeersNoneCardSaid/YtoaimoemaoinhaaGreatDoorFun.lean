/- (*reader).fun. -/
import Derived.Test.YtoaimoemaoinhaaGreatDoorItems
namespace Go.Proofs.YtoaimoemaoinhaaGreatDoor
open Go.RowKit Go.Rt Go.Rw

theorem numP_len {r r1 : List UInt8} {k n : Nat} (h : numP r k = some (n, r1)) : r.length = r1.length + k := by
 unfold numP takeL at h
 split at h
 ·
  rw [Option.map_some, Option.some.injEq, Prod.mk.injEq] at h
  rw [← h.2, List.length_drop]
  omega
 ·
  cases h
theorem only_set_new {bs : List Nat} {w W : World} {g : Nat} (h : Only bs w W) (hg : w.heap.size ≤ g) (i : Nat) (v : Value) : Only bs w (W.setCell ⟨g, i, none⟩ v) :=
 ⟨h.os, h.tape, h.output, by simpa [World.setCell] using h.size, fun k hk hn => (Below.heap_setCell _ _ _ _ (by show k ≠ g; omega)).trans (h.block k hk hn)⟩
theorem only_new {bs : List Nat} {w W W' : World} {g : Nat} (h : Only bs w W) (o : Only [g] W W') (hg : w.heap.size ≤ g) : Only bs w W' :=
 ⟨o.os.trans h.os, o.tape.trans h.tape, o.output.trans h.output, Nat.le_trans h.size o.size, fun k hk hn => (o.block k (Nat.lt_of_lt_of_le hk h.size) (by simp; omega)).trans (h.block k hk hn)⟩
theorem Rd.only' {s : ByteArray} {rb g : Nat} {r : List UInt8} {p : Nat} {w w' : World} (h : Rd s rb r p w) (o : Only [g] w w') (hg : rb ≠ g) : Rd s rb r p w' := h.same (o.block rb h.lt (by simpa using hg))
set_option maxRecDepth 100000 in
set_option maxHeartbeats 2000000 in
theorem fun_any {T : Nat → List UInt8 → Pr Tm} {s : ByteArray} {rb d p tag : Nat} {r0 rt : List UInt8} {w : World} (hT : TmC T s rb d) (h : Rd s rb r0 p w) (hd : 2000 ≤ p + d) (hp : p ≤ 2000) (hs : s.size ≤ 200000) (htag : numP r0 1 = some (tag, rt)) :
  Calls Tryz.prog 162 #[.pointer (some ⟨rb, 0, none⟩)] w (TmR s rb p (funP T p tag rt) w) := by
 have HT := Lib.hid hT
 have NRB : Hid (rb < w.heap.size) := Lib.hid h.lt
 have O0 := Lib.hid (Only.alloc [rb] w (.cells #[.int .i64 0, .int .i64 0, .int .i64 0, .string ⟨#[]⟩, .string ⟨#[]⟩, .int .i64 0, .slice none 0 0, .string ⟨#[]⟩, .int .i64 0] 48))
 have R0 := Lib.hid (h.below ((Below.refl _ _).alloc (Nat.le_refl _) (.cells #[.int .i64 0, .int .i64 0, .int .i64 0, .string ⟨#[]⟩, .string ⟨#[]⟩, .int .i64 0, .slice none 0 0, .string ⟨#[]⟩, .int .i64 0] 48)))
 have X0 := Lib.hid (Blk.new w 48 #[.int .i64 0, .int .i64 0, .int .i64 0, .string ⟨#[]⟩, .string ⟨#[]⟩, .int .i64 0, .slice none 0 0, .string ⟨#[]⟩, .int .i64 0])
 have HE := Lib.hid htag
 obtain ⟨P, hP⟩ : ∃ P, P = funP T p tag rt := ⟨_, rfl⟩
 rw [← hP]
 have HP0 := Lib.hid hP
 clear h hP hT htag
 go_enter Tryz.func162, Tryz.ntmps162
 go_upto_region 1 with fail
 generalize w.alloc (.cells #[.int .i64 0, .int .i64 0, .int .i64 0, .string ⟨#[]⟩, .string ⟨#[]⟩, .int .i64 0, .slice none 0 0, .string ⟨#[]⟩, .int .i64 0] 48) = v0 at O0 R0 X0 ⊢
 have HC := Lib.hid (byte_any R0.out hs)
 rw [HE.out] at HC
 go_wp2_with fail
 refine HC.out.mono ?_
 rintro e v1 ⟨ox, rfl, rx⟩
 have O1 := Lib.hid (O0.out.trans ox)
 have R1 := Lib.hid rx
 have X1 := Lib.hid (X0.out.only ox (by have := NRB.out; simp; omega))
 clear ox rx HC R0 X0
 dsimp only
 by_cases ht : tag = 113
 ·
  subst ht
  have HP : Hid (P = p113 p rt) := Lib.hid (by rw [HP0.out]; rfl)
  clear HP0 HE
  obtain ⟨r1, hr1⟩ : ∃ r1, r1 = rt := ⟨_, rfl⟩
  rw [← hr1] at HP R1
  clear hr1
  cases hq : nameP r1 with
  | none =>
   have HC := Lib.hid (rname_any R1.out hs)
   rw [hq] at HC
   have E1 := Lib.hid hq
   clear hq
   obtain rfl : P = none := by
     rw [HP.out]
     unfold p113
     rw [E1.out]
   clear HP
   go_wp2_with fail
   refine HC.out.mono ?_
   rintro e vx ⟨ox, rfl⟩
   have OX := Lib.hid (O1.out.trans ox)
   clear ox
   go_wp2_with fail
   exact ⟨rfl, OX.out, rfl⟩
  | some q =>
   obtain ⟨a1, r2⟩ := q
   have HC := Lib.hid (rname_any R1.out hs)
   rw [hq] at HC
   have E1 := Lib.hid hq
   clear hq
   go_wp2_with fail
   refine HC.out.mono ?_
   rintro e v2 ⟨ox, rfl, rx⟩
   have O2 := Lib.hid (O1.out.trans ox)
   have R2 := Lib.hid rx
   have X2 := Lib.hid (X1.out.only ox (by have := NRB.out; simp; omega))
   clear ox rx HC
   clear R1 X1
   have T3 := Lib.hid (Blk.new v2 48 #[.int .i64 5, .int .i64 0, .int .i64 0, .string ⟨a1.toArray⟩, .string ⟨#[]⟩, .int .i64 0, .slice none 0 0, .string ⟨#[]⟩, .int .i64 0])
   have HG : Hid (w.heap.size < v2.heap.size) := Lib.hid X2.out.lt
   have O3 := Lib.hid (O2.out.trans (Only.alloc [rb] v2 (.cells #[.int .i64 5, .int .i64 0, .int .i64 0, .string ⟨a1.toArray⟩, .string ⟨#[]⟩, .int .i64 0, .slice none 0 0, .string ⟨#[]⟩, .int .i64 0] 48)))
   have R3 := Lib.hid (R2.out.below ((Below.refl _ _).alloc (Nat.le_refl _) (.cells #[.int .i64 5, .int .i64 0, .int .i64 0, .string ⟨a1.toArray⟩, .string ⟨#[]⟩, .int .i64 0, .slice none 0 0, .string ⟨#[]⟩, .int .i64 0] 48)))
   have X3 := Lib.hid (X2.out.alloc (.cells #[.int .i64 5, .int .i64 0, .int .i64 0, .string ⟨a1.toArray⟩, .string ⟨#[]⟩, .int .i64 0, .slice none 0 0, .string ⟨#[]⟩, .int .i64 0] 48))
   clear R2 X2
   go_upto_region 4 with fail
   generalize (v2.alloc (.cells #[.int .i64 5, .int .i64 0, .int .i64 0, .string ⟨a1.toArray⟩, .string ⟨#[]⟩, .int .i64 0, .slice none 0 0, .string ⟨#[]⟩, .int .i64 0] 48)) = v3 at T3 O3 R3 X3 ⊢
   generalize v2.heap.size = gT at T3 HG ⊢
   cases hq : nameP r2 with
   | none =>
    have HC := Lib.hid (rname_any R3.out hs)
    rw [hq] at HC
    have E3 := Lib.hid hq
    clear hq
    obtain rfl : P = none := by
      rw [HP.out]
      unfold p113
      rw [E1.out]
      try dsimp only
      rw [E3.out]
    clear HP
    go_wp2_with fail
    refine HC.out.mono ?_
    rintro e vx ⟨ox, rfl⟩
    have OX := Lib.hid (O3.out.trans ox)
    clear ox
    go_wp2_with fail
    exact ⟨rfl, OX.out, rfl⟩
   | some q =>
    obtain ⟨a3, r3⟩ := q
    have HC := Lib.hid (rname_any R3.out hs)
    rw [hq] at HC
    have E3 := Lib.hid hq
    clear hq
    go_wp2_with fail
    refine HC.out.mono ?_
    rintro e v4 ⟨ox, rfl, rx⟩
    have O4 := Lib.hid (O3.out.trans ox)
    have R4 := Lib.hid rx
    have X4 := Lib.hid (X3.out.only ox (by have := NRB.out; simp; omega))
    have T4 := Lib.hid (T3.out.only ox (by have := NRB.out; have := HG.out; simp; omega))
    clear ox rx HC
    clear R3 X3 T3
    go_wp2_with (refine wpList_store_fld rfl 9 _ _ rfl rfl gT 4 _ 48 (.string ⟨a3.toArray⟩) rfl rfl T4.out (Nat.le_of_ble_eq_true rfl) (by kernel_rfl) rfl ?_)
    intro v5 ev
    have T5 := Lib.hid (show Blk v5 gT 48 #[.int .i64 5, .int .i64 0, .int .i64 0, .string ⟨a1.toArray⟩, .string ⟨a3.toArray⟩, .int .i64 0, .slice none 0 0, .string ⟨#[]⟩, .int .i64 0] by rw [ev]; exact T4.out.set_ 4 _)
    have X5 := Lib.hid (X4.out.only (bs := [gT]) (show Only [gT] v4 v5 by rw [ev]; exact Only.setCell _ ⟨gT, 4, none⟩ _ (by simp)) (by have := HG.out; simp; omega))
    have R5 := Lib.hid (R4.out.same (show v5.heap[rb]? = v4.heap[rb]? by rw [ev]; exact Below.heap_setCell _ _ _ _ (by have := NRB.out; have := HG.out; show rb ≠ gT; omega)))
    have O5 := Lib.hid (show Only [rb] w v5 by rw [ev]; exact only_set_new O4.out (by have := HG.out; omega) _ _)
    clear ev
    clear R4 X4 T4
    cases hq : numP r3 1 with
    | none =>
     have HC := Lib.hid (byte_any R5.out hs)
     rw [hq] at HC
     have E5 := Lib.hid hq
     clear hq
     obtain rfl : P = none := by
       rw [HP.out]
       unfold p113
       rw [E1.out]
       try dsimp only
       rw [E3.out]
       try dsimp only
       rw [E5.out]
     clear HP
     go_wp2_with fail
     refine HC.out.mono ?_
     rintro e vx ⟨ox, rfl⟩
     have OX := Lib.hid (O5.out.trans ox)
     clear ox
     go_wp2_with fail
     exact ⟨rfl, OX.out, rfl⟩
    | some q =>
     obtain ⟨n5, r4⟩ := q
     have hn5 := numP_lt hq
     have HE5 := Lib.hid (numP_len hq)
     have HC := Lib.hid (byte_any R5.out hs)
     rw [hq] at HC
     have E5 := Lib.hid hq
     clear hq
     go_wp2_with fail
     refine HC.out.mono ?_
     rintro e v6 ⟨ox, rfl, rx⟩
     have O6 := Lib.hid (O5.out.trans ox)
     have R6 := Lib.hid rx
     have X6 := Lib.hid (X5.out.only ox (by have := NRB.out; simp; omega))
     have T6 := Lib.hid (T5.out.only ox (by have := NRB.out; have := HG.out; simp; omega))
     clear ox rx HC
     clear R5 X5 T5
     by_cases hc : n5 = 97
     ·
      have K6 := Lib.hid hc
      have d1 : ((n5 : Int) == 97) = true := by rw [hc]; rfl
      clear hc
      go_wp2_with fail
      refine (demand_any _ true _).mono ?_
      rintro e vy ⟨rfl, rfl⟩
      cases hq : numP r4 1 with
      | none =>
       have HC := Lib.hid (byte_any R6.out hs)
       rw [hq] at HC
       have E6 := Lib.hid hq
       clear hq
       obtain rfl : P = none := by
         rw [HP.out]
         unfold p113
         rw [E1.out]
         try dsimp only
         rw [E3.out]
         try dsimp only
         rw [E5.out]
         try dsimp only
         rw [if_pos K6.out]
         rw [E6.out]
       clear HP
       go_wp2_with fail
       refine HC.out.mono ?_
       rintro e vx ⟨ox, rfl⟩
       have OX := Lib.hid (O6.out.trans ox)
       clear ox
       go_wp2_with fail
       exact ⟨rfl, OX.out, rfl⟩
      | some q =>
       obtain ⟨n6, r5⟩ := q
       have hn6 := numP_lt hq
       have HE6 := Lib.hid (numP_len hq)
       have HC := Lib.hid (byte_any R6.out hs)
       rw [hq] at HC
       have E6 := Lib.hid hq
       clear hq
       go_wp2_with fail
       refine HC.out.mono ?_
       rintro e v7 ⟨ox, rfl, rx⟩
       have O7 := Lib.hid (O6.out.trans ox)
       have R7 := Lib.hid rx
       have X7 := Lib.hid (X6.out.only ox (by have := NRB.out; simp; omega))
       have T7 := Lib.hid (T6.out.only ox (by have := NRB.out; have := HG.out; simp; omega))
       clear ox rx HC
       clear R6 X6 T6
       go_wp2_with (refine wpList_store_fld rfl 3 _ _ rfl rfl gT 5 _ 48 (.int .i64 (n6 : Int)) rfl rfl T7.out (Nat.le_of_ble_eq_true rfl) (by kernel_rfl) rfl ?_)
       intro v8 ev
       have T8 := Lib.hid (show Blk v8 gT 48 #[.int .i64 5, .int .i64 0, .int .i64 0, .string ⟨a1.toArray⟩, .string ⟨a3.toArray⟩, .int .i64 (n6 : Int), .slice none 0 0, .string ⟨#[]⟩, .int .i64 0] by rw [ev]; exact T7.out.set_ 5 _)
       have X8 := Lib.hid (X7.out.only (bs := [gT]) (show Only [gT] v7 v8 by rw [ev]; exact Only.setCell _ ⟨gT, 5, none⟩ _ (by simp)) (by have := HG.out; simp; omega))
       have R8 := Lib.hid (R7.out.same (show v8.heap[rb]? = v7.heap[rb]? by rw [ev]; exact Below.heap_setCell _ _ _ _ (by have := NRB.out; have := HG.out; show rb ≠ gT; omega)))
       have O8 := Lib.hid (show Only [rb] w v8 by rw [ev]; exact only_set_new O7.out (by have := HG.out; omega) _ _)
       clear ev
       clear R7 X7 T7
       obtain rfl : P = some (.mk ⟨5, 0, 0, bA a1, bA a3, n6, noB, 0⟩ [], p, r5) := by
         rw [HP.out]
         unfold p113
         rw [E1.out]
         try dsimp only
         rw [E3.out]
         try dsimp only
         rw [E5.out]
         try dsimp only
         rw [if_pos K6.out]
         rw [E6.out]
         try dsimp only
         try rfl
       clear HP
       go_wp2_with (first
        | (refine wpList_load_blk rfl 48 _ rfl gT rfl _ 48 _ T8.out Tryz.underlying48 rfl info25 ?_)
        | (refine wpList_store_blk rfl 48 _ _ rfl rfl w.heap.size #[.int .i64 5, .int .i64 0, .int .i64 0, .string ⟨a1.toArray⟩, .string ⟨a3.toArray⟩, .int .i64 (n6 : Int), .slice none 0 0, .string ⟨#[]⟩, .int .i64 0] _ 48 rfl rfl X8.out rfl info25 (by simp [Value.oneCell']) ?_; intro vF bF oF))
       have RF := R8.out.only' oF (by have := NRB.out; omega)
       have OF := only_new O8.out oF (Nat.le_refl _)
       go_wp2_with fail
       refine bodyPost_ret (results_blk rfl _ _ w.heap.size _ _ rfl bF Tryz.underlying48 rfl info25) rfl ⟨OF, ⟨⟨5, 0, 0, bA a1, bA a3, n6, noB, 0⟩, .slice none 0 0⟩, rfl, TmAt.of rfl (ItsAt.nil none 0), RF, (by show p ≤ p; omega), (by show p ≤ 2000; omega)⟩
     ·
      have K6 := Lib.hid hc
      obtain rfl : P = none := by
        rw [HP.out]
        unfold p113
        rw [E1.out]
        try dsimp only
        rw [E3.out]
        try dsimp only
        rw [E5.out]
        try dsimp only
        rw [if_neg K6.out]
      clear HP
      have d1 : ((n5 : Int) == 97) = false := by rw [beq_eq_false_iff_ne]; omega
      clear hc
      go_wp2_with fail
      refine (demand_any _ false _).mono ?_
      rintro e vy ⟨rfl, rfl⟩
      go_wp2_with fail
      exact ⟨rfl, O6.out, rfl⟩
 ·
  have dt : ((tag : Int) == 113) = false := by rw [beq_eq_false_iff_ne]; omega
  by_cases ht2 : tag = 112
  ·
   subst ht2
   have HP : Hid (P = p112 T p rt) := Lib.hid (by rw [HP0.out]; rfl)
   clear HP0 HE ht
   obtain ⟨r1, hr1⟩ : ∃ r1, r1 = rt := ⟨_, rfl⟩
   rw [← hr1] at HP R1
   clear hr1
   cases hq : numP r1 1 with
   | none =>
    have HC := Lib.hid (byte_any R1.out hs)
    rw [hq] at HC
    have E1 := Lib.hid hq
    clear hq
    obtain rfl : P = none := by
      rw [HP.out]
      unfold p112
      rw [E1.out]
    clear HP
    go_wp2_with fail
    refine HC.out.mono ?_
    rintro e vx ⟨ox, rfl⟩
    have OX := Lib.hid (O1.out.trans ox)
    clear ox
    go_wp2_with fail
    exact ⟨rfl, OX.out, rfl⟩
   | some q =>
    obtain ⟨n1, r2⟩ := q
    have hn1 := numP_lt hq
    have HE1 := Lib.hid (numP_len hq)
    have HC := Lib.hid (byte_any R1.out hs)
    rw [hq] at HC
    have E1 := Lib.hid hq
    clear hq
    go_wp2_with fail
    refine HC.out.mono ?_
    rintro e v2 ⟨ox, rfl, rx⟩
    have O2 := Lib.hid (O1.out.trans ox)
    have R2 := Lib.hid rx
    have X2 := Lib.hid (X1.out.only ox (by have := NRB.out; simp; omega))
    clear ox rx HC
    clear R1 X1
    have T3 := Lib.hid (Blk.new v2 48 #[.int .i64 4, .int .i64 0, .int .i64 0, .string ⟨#[]⟩, .string ⟨#[]⟩, .int .i64 (n1 : Int), .slice none 0 0, .string ⟨#[]⟩, .int .i64 0])
    have HG : Hid (w.heap.size < v2.heap.size) := Lib.hid X2.out.lt
    have O3 := Lib.hid (O2.out.trans (Only.alloc [rb] v2 (.cells #[.int .i64 4, .int .i64 0, .int .i64 0, .string ⟨#[]⟩, .string ⟨#[]⟩, .int .i64 (n1 : Int), .slice none 0 0, .string ⟨#[]⟩, .int .i64 0] 48)))
    have R3 := Lib.hid (R2.out.below ((Below.refl _ _).alloc (Nat.le_refl _) (.cells #[.int .i64 4, .int .i64 0, .int .i64 0, .string ⟨#[]⟩, .string ⟨#[]⟩, .int .i64 (n1 : Int), .slice none 0 0, .string ⟨#[]⟩, .int .i64 0] 48)))
    have X3 := Lib.hid (X2.out.alloc (.cells #[.int .i64 4, .int .i64 0, .int .i64 0, .string ⟨#[]⟩, .string ⟨#[]⟩, .int .i64 (n1 : Int), .slice none 0 0, .string ⟨#[]⟩, .int .i64 0] 48))
    clear R2 X2
    go_upto_region 10 with fail
    generalize (v2.alloc (.cells #[.int .i64 4, .int .i64 0, .int .i64 0, .string ⟨#[]⟩, .string ⟨#[]⟩, .int .i64 (n1 : Int), .slice none 0 0, .string ⟨#[]⟩, .int .i64 0] 48)) = v3 at T3 O3 R3 X3 ⊢
    generalize v2.heap.size = gT at T3 HG ⊢
    cases hq : numP r2 2 with
    | none =>
     have HC := Lib.hid (number_any R3.out 2 (by omega) (by omega) hs)
     rw [hq] at HC
     have E3 := Lib.hid hq
     clear hq
     obtain rfl : P = none := by
       rw [HP.out]
       unfold p112
       rw [E1.out]
       try dsimp only
       rw [E3.out]
     clear HP
     go_wp2_with fail
     refine HC.out.mono ?_
     rintro e vx ⟨ox, rfl⟩
     have OX := Lib.hid (O3.out.trans ox)
     clear ox
     go_wp2_with fail
     exact ⟨rfl, OX.out, rfl⟩
    | some q =>
     obtain ⟨n3, r3⟩ := q
     have hn3 := numP_lt hq
     have HE3 := Lib.hid (numP_len hq)
     have HC := Lib.hid (number_any R3.out 2 (by omega) (by omega) hs)
     rw [hq] at HC
     have E3 := Lib.hid hq
     clear hq
     go_wp2_with fail
     refine HC.out.mono ?_
     rintro e v4 ⟨ox, rfl, rx⟩
     have O4 := Lib.hid (O3.out.trans ox)
     have R4 := Lib.hid rx
     have X4 := Lib.hid (X3.out.only ox (by have := NRB.out; simp; omega))
     have T4 := Lib.hid (T3.out.only ox (by have := NRB.out; have := HG.out; simp; omega))
     clear ox rx HC
     clear R3 X3 T3
     go_wp2_with (refine wpList_store_fld rfl 2 _ _ rfl rfl gT 1 _ 48 (.int .i64 (n3 : Int)) rfl rfl T4.out (Nat.le_of_ble_eq_true rfl) (by kernel_rfl) rfl ?_)
     intro v5 ev
     have T5 := Lib.hid (show Blk v5 gT 48 #[.int .i64 4, .int .i64 (n3 : Int), .int .i64 0, .string ⟨#[]⟩, .string ⟨#[]⟩, .int .i64 (n1 : Int), .slice none 0 0, .string ⟨#[]⟩, .int .i64 0] by rw [ev]; exact T4.out.set_ 1 _)
     have X5 := Lib.hid (X4.out.only (bs := [gT]) (show Only [gT] v4 v5 by rw [ev]; exact Only.setCell _ ⟨gT, 1, none⟩ _ (by simp)) (by have := HG.out; simp; omega))
     have R5 := Lib.hid (R4.out.same (show v5.heap[rb]? = v4.heap[rb]? by rw [ev]; exact Below.heap_setCell _ _ _ _ (by have := NRB.out; have := HG.out; show rb ≠ gT; omega)))
     have O5 := Lib.hid (show Only [rb] w v5 by rw [ev]; exact only_set_new O4.out (by have := HG.out; omega) _ _)
     clear ev
     clear R4 X4 T4
     cases hq : numP r3 1 with
     | none =>
      have HC := Lib.hid (byte_any R5.out hs)
      rw [hq] at HC
      have E5 := Lib.hid hq
      clear hq
      obtain rfl : P = none := by
        rw [HP.out]
        unfold p112
        rw [E1.out]
        try dsimp only
        rw [E3.out]
        try dsimp only
        rw [E5.out]
      clear HP
      go_wp2_with fail
      refine HC.out.mono ?_
      rintro e vx ⟨ox, rfl⟩
      have OX := Lib.hid (O5.out.trans ox)
      clear ox
      go_wp2_with fail
      exact ⟨rfl, OX.out, rfl⟩
     | some q =>
      obtain ⟨n5, r4⟩ := q
      have hn5 := numP_lt hq
      have HE5 := Lib.hid (numP_len hq)
      have HC := Lib.hid (byte_any R5.out hs)
      rw [hq] at HC
      have E5 := Lib.hid hq
      clear hq
      go_wp2_with fail
      refine HC.out.mono ?_
      rintro e v6 ⟨ox, rfl, rx⟩
      have O6 := Lib.hid (O5.out.trans ox)
      have R6 := Lib.hid rx
      have X6 := Lib.hid (X5.out.only ox (by have := NRB.out; simp; omega))
      have T6 := Lib.hid (T5.out.only ox (by have := NRB.out; have := HG.out; simp; omega))
      clear ox rx HC
      clear R5 X5 T5
      cases hq : nameP r4 with
      | none =>
       have HC := Lib.hid (rname_any R6.out hs)
       rw [hq] at HC
       have E6 := Lib.hid hq
       clear hq
       obtain rfl : P = none := by
         rw [HP.out]
         unfold p112
         rw [E1.out]
         try dsimp only
         rw [E3.out]
         try dsimp only
         rw [E5.out]
         try dsimp only
         rw [E6.out]
       clear HP
       go_wp2_with fail
       refine HC.out.mono ?_
       rintro e vx ⟨ox, rfl⟩
       have OX := Lib.hid (O6.out.trans ox)
       clear ox
       go_wp2_with fail
       exact ⟨rfl, OX.out, rfl⟩
      | some q =>
       obtain ⟨a6, r5⟩ := q
       have HC := Lib.hid (rname_any R6.out hs)
       rw [hq] at HC
       have E6 := Lib.hid hq
       clear hq
       go_wp2_with fail
       refine HC.out.mono ?_
       rintro e v7 ⟨ox, rfl, rx⟩
       have O7 := Lib.hid (O6.out.trans ox)
       have R7 := Lib.hid rx
       have X7 := Lib.hid (X6.out.only ox (by have := NRB.out; simp; omega))
       have T7 := Lib.hid (T6.out.only ox (by have := NRB.out; have := HG.out; simp; omega))
       clear ox rx HC
       clear R6 X6 T6
       go_wp2_with (refine wpList_store_fld rfl 9 _ _ rfl rfl gT 3 _ 48 (.string ⟨a6.toArray⟩) rfl rfl T7.out (Nat.le_of_ble_eq_true rfl) (by kernel_rfl) rfl ?_)
       intro v8 ev
       have T8 := Lib.hid (show Blk v8 gT 48 #[.int .i64 4, .int .i64 (n3 : Int), .int .i64 0, .string ⟨a6.toArray⟩, .string ⟨#[]⟩, .int .i64 (n1 : Int), .slice none 0 0, .string ⟨#[]⟩, .int .i64 0] by rw [ev]; exact T7.out.set_ 3 _)
       have X8 := Lib.hid (X7.out.only (bs := [gT]) (show Only [gT] v7 v8 by rw [ev]; exact Only.setCell _ ⟨gT, 3, none⟩ _ (by simp)) (by have := HG.out; simp; omega))
       have R8 := Lib.hid (R7.out.same (show v8.heap[rb]? = v7.heap[rb]? by rw [ev]; exact Below.heap_setCell _ _ _ _ (by have := NRB.out; have := HG.out; show rb ≠ gT; omega)))
       have O8 := Lib.hid (show Only [rb] w v8 by rw [ev]; exact only_set_new O7.out (by have := HG.out; omega) _ _)
       clear ev
       clear R7 X7 T7
       cases hq : numP r5 4 with
       | none =>
        have HC := Lib.hid (number_any R8.out 4 (by omega) (by omega) hs)
        rw [hq] at HC
        have E8 := Lib.hid hq
        clear hq
        obtain rfl : P = none := by
          rw [HP.out]
          unfold p112
          rw [E1.out]
          try dsimp only
          rw [E3.out]
          try dsimp only
          rw [E5.out]
          try dsimp only
          rw [E6.out]
          try dsimp only
          rw [E8.out]
        clear HP
        go_wp2_with fail
        refine HC.out.mono ?_
        rintro e vx ⟨ox, rfl⟩
        have OX := Lib.hid (O8.out.trans ox)
        clear ox
        go_wp2_with fail
        exact ⟨rfl, OX.out, rfl⟩
       | some q =>
        obtain ⟨n8, r6⟩ := q
        have hn8 := numP_lt hq
        have HE8 := Lib.hid (numP_len hq)
        have HC := Lib.hid (number_any R8.out 4 (by omega) (by omega) hs)
        rw [hq] at HC
        have E8 := Lib.hid hq
        clear hq
        go_wp2_with fail
        refine HC.out.mono ?_
        rintro e v9 ⟨ox, rfl, rx⟩
        have O9 := Lib.hid (O8.out.trans ox)
        have R9 := Lib.hid rx
        have X9 := Lib.hid (X8.out.only ox (by have := NRB.out; simp; omega))
        have T9 := Lib.hid (T8.out.only ox (by have := NRB.out; have := HG.out; simp; omega))
        clear ox rx HC
        clear R8 X8 T8
        go_wp2_with (refine wpList_store_fld rfl 2 _ _ rfl rfl gT 2 _ 48 (.int .i64 (n8 : Int)) rfl rfl T9.out (Nat.le_of_ble_eq_true rfl) (by kernel_rfl) rfl ?_)
        intro v10 ev
        have T10 := Lib.hid (show Blk v10 gT 48 #[.int .i64 4, .int .i64 (n3 : Int), .int .i64 (n8 : Int), .string ⟨a6.toArray⟩, .string ⟨#[]⟩, .int .i64 (n1 : Int), .slice none 0 0, .string ⟨#[]⟩, .int .i64 0] by rw [ev]; exact T9.out.set_ 2 _)
        have X10 := Lib.hid (X9.out.only (bs := [gT]) (show Only [gT] v9 v10 by rw [ev]; exact Only.setCell _ ⟨gT, 2, none⟩ _ (by simp)) (by have := HG.out; simp; omega))
        have R10 := Lib.hid (R9.out.same (show v10.heap[rb]? = v9.heap[rb]? by rw [ev]; exact Below.heap_setCell _ _ _ _ (by have := NRB.out; have := HG.out; show rb ≠ gT; omega)))
        have O10 := Lib.hid (show Only [rb] w v10 by rw [ev]; exact only_set_new O9.out (by have := HG.out; omega) _ _)
        clear ev
        clear R9 X9 T9
        cases hq : itemsQ T (n5) p r6 with
        | none =>
         have HC := Lib.hid (items_any HT.out R10.out (by omega) (by omega) (n5) (by omega))
         rw [hq] at HC
         have E10 := Lib.hid hq
         clear hq
         obtain rfl : P = none := by
           rw [HP.out]
           unfold p112
           rw [E1.out]
           try dsimp only
           rw [E3.out]
           try dsimp only
           rw [E5.out]
           try dsimp only
           rw [E6.out]
           try dsimp only
           rw [E8.out]
           try dsimp only
           rw [E10.out]
         clear HP
         go_wp2_with fail
         refine HC.out.mono ?_
         rintro e vx ⟨ox, rfl⟩
         have OX := Lib.hid (O10.out.trans ox)
         clear ox
         go_wp2_with fail
         exact ⟨rfl, OX.out, rfl⟩
        | some q =>
         obtain ⟨ts, p2, r7⟩ := q
         have HC := Lib.hid (items_any HT.out R10.out (by omega) (by omega) (n5) (by omega))
         rw [hq] at HC
         have E10 := Lib.hid hq
         clear hq
         go_wp2_with fail
         refine HC.out.mono ?_
         rintro e v11 ⟨ox, vi, rfl, it, rx, hp1, hp2⟩
         dsimp only at it rx hp1 hp2
         have HPP := Lib.hid hp1
         have HP2K := Lib.hid hp2
         obtain ⟨_, si, ci, rfl⟩ := it.form
         have O11 := Lib.hid (O10.out.trans ox)
         have R11 := Lib.hid rx
         have IT11 := Lib.hid it
         obtain ⟨li, hli⟩ : ∃ li, li = ts.length := ⟨_, rfl⟩
         have HLI := Lib.hid hli
         rw [← hli]
         rw [← hli] at IT11
         have HBS : Hid (w.heap.size < v10.heap.size ∧ gT < v10.heap.size) := Lib.hid (⟨X10.out.lt, T10.out.lt⟩)
         have X11 := Lib.hid (X10.out.only ox (by have := NRB.out; simp; omega))
         have T11 := Lib.hid (T10.out.only ox (by have := NRB.out; have := HG.out; simp; omega))
         clear ox rx it hli HC hp1 hp2
         clear R10 X10 T10
         go_wp2_with (refine wpList_store_fld rfl 46 _ _ rfl rfl gT 6 _ 48 (.slice si li ci) rfl rfl T11.out (Nat.le_of_ble_eq_true rfl) (by kernel_rfl) rfl ?_)
         intro v12 ev
         have T12 := Lib.hid (show Blk v12 gT 48 #[.int .i64 4, .int .i64 (n3 : Int), .int .i64 (n8 : Int), .string ⟨a6.toArray⟩, .string ⟨#[]⟩, .int .i64 (n1 : Int), .slice si li ci, .string ⟨#[]⟩, .int .i64 0] by rw [ev]; exact T11.out.set_ 6 _)
         have X12 := Lib.hid (X11.out.only (bs := [gT]) (show Only [gT] v11 v12 by rw [ev]; exact Only.setCell _ ⟨gT, 6, none⟩ _ (by simp)) (by have := HG.out; simp; omega))
         have R12 := Lib.hid (R11.out.same (show v12.heap[rb]? = v11.heap[rb]? by rw [ev]; exact Below.heap_setCell _ _ _ _ (by have := NRB.out; have := HG.out; show rb ≠ gT; omega)))
         have O12 := Lib.hid (show Only [rb] w v12 by rw [ev]; exact only_set_new O11.out (by have := HG.out; omega) _ _)
         have IT12 := Lib.hid (IT11.out.only (bs := [gT]) (show Only [gT] v11 v12 by rw [ev]; exact Only.setCell _ ⟨gT, 6, none⟩ _ (by simp)) (fun b hb _ => by have := HBS.out; simp; omega))
         clear IT11
         clear ev
         clear R11 X11 T11
         obtain rfl : P = some (.mk ⟨4, n3, n8, bA a6, noB, n1, noB, 0⟩ ts, p2, r7) := by
           rw [HP.out]
           unfold p112
           rw [E1.out]
           try dsimp only
           rw [E3.out]
           try dsimp only
           rw [E5.out]
           try dsimp only
           rw [E6.out]
           try dsimp only
           rw [E8.out]
           try dsimp only
           rw [E10.out]
           try rfl
         clear HP
         go_wp2_with (first
          | (refine wpList_load_blk rfl 48 _ rfl gT rfl _ 48 _ T12.out Tryz.underlying48 rfl info25 ?_)
          | (refine wpList_store_blk rfl 48 _ _ rfl rfl w.heap.size #[.int .i64 4, .int .i64 (n3 : Int), .int .i64 (n8 : Int), .string ⟨a6.toArray⟩, .string ⟨#[]⟩, .int .i64 (n1 : Int), .slice si li ci, .string ⟨#[]⟩, .int .i64 0] _ 48 rfl rfl X12.out rfl info25 (by simp [Value.oneCell']) ?_; intro vF bF oF))
         have RF := R12.out.only' oF (by have := NRB.out; omega)
         have OF := only_new O12.out oF (Nat.le_refl _)
         have IF := IT12.out.only oF (fun b hb _ => by have := HBS.out; simp; omega)
         go_wp2_with fail
         refine bodyPost_ret (results_blk rfl _ _ w.heap.size _ _ rfl bF Tryz.underlying48 rfl info25) rfl ⟨OF, ⟨⟨4, n3, n8, bA a6, noB, n1, noB, 0⟩, .slice si li ci⟩, rfl, TmAt.of rfl (IF.mono (S' := fun c => w.heap.size ≤ c) (fun b hb _ => by have := HBS.out; omega)), RF, (by have := HPP.out; show p ≤ p2; omega), (by have := HP2K.out; show p2 ≤ 2000; omega)⟩
  ·
   obtain rfl : P = none := by rw [HP0.out]; unfold funP; rw [if_neg ht, if_neg ht2]
   have dt2 : ((tag : Int) == 112) = false := by rw [beq_eq_false_iff_ne]; omega
   clear HP0 HE ht ht2
   go_wp2_with fail
   exact ⟨rfl, O1.out, rfl⟩
end Go.Proofs.YtoaimoemaoinhaaGreatDoor
