/- stagehandref07.Code: the encoding of a well-formed term. -/
import Derived.Test.YtemlogadbopffaaGreatRefB
import Derived.Deep.RegionHeld3
namespace Go.Proofs.YtemlogadbopffaaGreat
open Go.RowKit Go.Rt Go.Rw

theorem BR.of {l l' : List UInt8} {w w' : World} {g n c : Nat} (h : BS w' w.heap.size (.slice (some ⟨g, 0, none⟩) n c) l') (e : l' = l) (hl : l ≠ []) (b : Below w.heap.size w w') : BR l w (.returned (.slice (some ⟨g, 0, none⟩) n c)) w' := by
 subst e
 obtain ⟨g', c', e, _⟩ := BS.some h hl
 cases e
 exact ⟨g, c, rfl, h, b⟩
theorem bs_app2 {W : World} {B B2 : Nat} {v u : Value} {l m : List UInt8} (h : BS W B v l) (k : BS W B2 u m) (hm : m ≠ []) (hl : l.length + m.length ≤ 3000000000) (hB : B ≤ W.heap.size) :
  ∃ g n cap W2, (Builtin.append_ #[48, 48] 48 #[v, u]).run Tryz.prog W = .ok (.slice (some ⟨g, 0, none⟩) n cap) W2 ∧ BS W2 B (.slice (some ⟨g, 0, none⟩) n cap) (l ++ m) ∧ F5 B W W2 := by
 obtain ⟨g, cap, W2, h1, h2, h3⟩ := bs_app h k hm hl hB
 exact ⟨g, _, cap, W2, h1, h2, h3⟩
theorem bs_str2 {W : World} {B : Nat} {v : Value} {l : List UInt8} (h : BS W B v l) (s : ByteArray) (hne : l ≠ []) (hl : l.length + s.size ≤ 3000000000) (hB : B ≤ W.heap.size) :
  ∃ g n cap W2, (Builtin.append_ #[48, 9] 48 #[v, .string s]).run Tryz.prog W = .ok (.slice (some ⟨g, 0, none⟩) n cap) W2 ∧ BS W2 B (.slice (some ⟨g, 0, none⟩) n cap) (l ++ s.data.toList) ∧ F5 B W W2 := by
 obtain ⟨g, cap, W2, h1, h2, h3⟩ := bs_str h s hne hl hB
 exact ⟨g, _, cap, W2, h1, h2, h3⟩
theorem code_mem : ∀ (l : List Tm) (t : Tm), t ∈ l → (codeT t).length ≤ (codeL l).length
 | [], _, h => by cases h
 | u :: r, t, h => by
  rw [codeL, List.length_append]
  rcases List.mem_cons.1 h with rfl | q
  ·
   omega
  ·
   have := code_mem r t q
   omega
/-- What Code answers. -/
def RcC (t : Tm) : Prop := ∀ (S : Nat → Prop) (x : Ft) (W : World), (∀ b, S b → b < W.heap.size) → TmAt S W t x → Calls Tryz.prog 66 #[ftV x] W (BR (codeT t) W)
set_option maxRecDepth 100000 in
set_option maxHeartbeats 2000000 in
theorem rcode_core (S : Nat → Prop) (k n g : Int) (nm fn : ByteArray) (ar : Int) (bs : ByteArray) (bt : Int) (its : List Tm) (sa : Option Addr) (cap : Nat) (w : World) (hS : ∀ c, S c → c < w.heap.size) (hi : ItsAt S w its (.slice sa its.length cap))
  (hfit : fitF ⟨k, n, g, nm, fn, ar, bs, bt⟩) (hf : ownB ⟨k, n, g, nm, fn, ar, bs, bt⟩ its = true) (hfl : formedL its = true) (hlen : (codeT (.mk ⟨k, n, g, nm, fn, ar, bs, bt⟩ its)).length ≤ 1000000) (ih : ∀ t ∈ its, RcC t) :
  Calls Tryz.prog 66 #[ftV ⟨⟨k, n, g, nm, fn, ar, bs, bt⟩, .slice sa its.length cap⟩] w (BR (codeT (.mk ⟨k, n, g, nm, fn, ar, bs, bt⟩ its)) w) := by
 obtain ⟨⟨hz1, hz2, hz3⟩, hk1, hn1, hg1, har1, hbt1⟩ := hfit
 dsimp only at hz1 hz2 hz3 hk1 hn1 hg1 har1 hbt1
 unfold ownB at hf
 rw [Bool.and_eq_true, Bool.and_eq_true, Bool.or_eq_true] at hf
 obtain ⟨hok, _, hul⟩ := hf
 have hmx := hi.form.1
 have HUL := Lib.hid hul
 have HOK := Lib.hid hok
 obtain ⟨CT, hCT⟩ : ∃ CT, CT = codeT (.mk ⟨k, n, g, nm, fn, ar, bs, bt⟩ its) := ⟨_, rfl⟩
 rw [← hCT] at hlen ⊢
 rw [codeT] at hCT
 have HCT := Lib.hid hCT
 have HI := Lib.hid hi
 have IH := Lib.hid ih
 have HS := Lib.hid hS
 have HFL := Lib.hid hfl
 have HLN := Lib.hid hlen
 obtain ⟨len, hle⟩ : ∃ len, len = its.length := ⟨_, rfl⟩
 rw [← hle] at HI hmx ⊢
 have HLE := Lib.hid hle
 unfold ftV
 dsimp only
 clear hok hul hlen hCT hi ih hS hle hfl
 by_cases q1 : k = 1
 ·
  subst q1
  obtain rfl : its = [] := by
   have := HUL.out
   simpa [usesL] using this
  obtain rfl : len = 0 := HLE.out
  have HC2 : Hid (CT = (intB n) ++ codeL []) := Lib.hid (by rw [HCT.out]; rfl)
  clear HCT
  have X_0 := Lib.hid (Blk.new w 24 #[.int .i64 1, .int .i64 n, .int .i64 g, .string nm, .string fn, .int .i64 ar, .slice sa 0 cap, .string bs, .int .i64 bt])
  have B_0 := Lib.hid ((Below.refl w.heap.size w).alloc (Nat.le_refl _) (.cells #[.int .i64 1, .int .i64 n, .int .i64 g, .string nm, .string fn, .int .i64 ar, .slice sa 0 cap, .string bs, .int .i64 bt] 24))
  go_enter Tryz.func66, Tryz.ntmps66
  go_upto_region 2 with fail
  generalize w.alloc (.cells #[.int .i64 1, .int .i64 n, .int .i64 g, .string nm, .string fn, .int .i64 ar, .slice sa 0 cap, .string bs, .int .i64 bt] 24) = v0 at X_0 B_0 ⊢
  have xk : v0.cell? ⟨w.heap.size, 0, none⟩ = some (.int .i64 1) := X_0.out.cell 0
  have xn : v0.cell? ⟨w.heap.size, 1, none⟩ = some (.int .i64 n) := X_0.out.cell 1
  go_wp2_with fail
  clear xk xn
  refine (rint_any n hn1 _).mono ?_
  rintro e v1 ⟨gk, ck, rfl, kk, bb⟩
  have K := Lib.hid (Sl.mono kk B_0.out.size)
  have B_1 := Lib.hid (B_0.out.trans (bb.mono B_0.out.size))
  obtain ⟨nk, hnk⟩ : ∃ nk, nk = (intB n).length := ⟨_, rfl⟩
  rw [← hnk] at K ⊢
  clear kk bb hnk
  go_wp2_with fail
  go_ret
  rw [HC2.out]
  exact BR.of K.out (by simp [codeL]) (by unfold intB; split <;> (try split) <;> simp) B_1.out
 ·
  -- not 1
  by_cases q2 : k = 2
  ·
   subst q2
   obtain rfl : its = [] := by
    have := HUL.out
    simpa [usesL] using this
   obtain rfl : len = 0 := HLE.out
   have HC2 : Hid (CT = (atomB nm) ++ codeL []) := Lib.hid (by rw [HCT.out]; rfl)
   clear HCT
   have X_0 := Lib.hid (Blk.new w 24 #[.int .i64 2, .int .i64 n, .int .i64 g, .string nm, .string fn, .int .i64 ar, .slice sa 0 cap, .string bs, .int .i64 bt])
   have B_0 := Lib.hid ((Below.refl w.heap.size w).alloc (Nat.le_refl _) (.cells #[.int .i64 2, .int .i64 n, .int .i64 g, .string nm, .string fn, .int .i64 ar, .slice sa 0 cap, .string bs, .int .i64 bt] 24))
   go_enter Tryz.func66, Tryz.ntmps66
   go_upto_region 2 with fail
   generalize w.alloc (.cells #[.int .i64 2, .int .i64 n, .int .i64 g, .string nm, .string fn, .int .i64 ar, .slice sa 0 cap, .string bs, .int .i64 bt] 24) = v0 at X_0 B_0 ⊢
   have xk : v0.cell? ⟨w.heap.size, 0, none⟩ = some (.int .i64 2) := X_0.out.cell 0
   have xnm : v0.cell? ⟨w.heap.size, 3, none⟩ = some (.string nm) := X_0.out.cell 3
   go_wp2_with fail
   clear xk xnm
   refine (ratom_any nm hz1 _).mono ?_
   rintro e v1 ⟨gk, ck, rfl, kk, bb⟩
   have K := Lib.hid (Sl.mono kk B_0.out.size)
   have B_1 := Lib.hid (B_0.out.trans (bb.mono B_0.out.size))
   obtain ⟨nk, hnk⟩ : ∃ nk, nk = (atomB nm).length := ⟨_, rfl⟩
   rw [← hnk] at K ⊢
   clear kk bb hnk
   go_wp2_with fail
   go_ret
   rw [HC2.out]
   exact BR.of K.out (by simp [codeL]) (by simp [atomB]) B_1.out
  ·
   -- not 2
   by_cases q3 : k = 3
   ·
    subst q3
    obtain rfl : its = [] := by
     have := HUL.out
     simpa [usesL] using this
    obtain rfl : len = 0 := HLE.out
    have HC2 : Hid (CT = (90 :: 0 :: 1 :: (atomB nm ++ (num4 g ++ num4 n))) ++ codeL []) := Lib.hid (by rw [HCT.out]; rfl)
    clear HCT
    have X_0 := Lib.hid (Blk.new w 24 #[.int .i64 3, .int .i64 n, .int .i64 g, .string nm, .string fn, .int .i64 ar, .slice sa 0 cap, .string bs, .int .i64 bt])
    have B_0 := Lib.hid ((Below.refl w.heap.size w).alloc (Nat.le_refl _) (.cells #[.int .i64 3, .int .i64 n, .int .i64 g, .string nm, .string fn, .int .i64 ar, .slice sa 0 cap, .string bs, .int .i64 bt] 24))
    go_enter Tryz.func66, Tryz.ntmps66
    go_upto_region 2 with fail
    generalize w.alloc (.cells #[.int .i64 3, .int .i64 n, .int .i64 g, .string nm, .string fn, .int .i64 ar, .slice sa 0 cap, .string bs, .int .i64 bt] 24) = v0 at X_0 B_0 ⊢
    have xk : v0.cell? ⟨w.heap.size, 0, none⟩ = some (.int .i64 3) := X_0.out.cell 0
    have xnm : (v0.alloc (.cells #[.int .u8 90, .int .u8 0, .int .u8 1] 5)).cell? ⟨w.heap.size, 3, none⟩ = some (.string nm) := (X_0.out.alloc _).cell 3
    have O_1 := Lib.hid (Sl.mono (lit_bs v0 #[.int .u8 90, .int .u8 0, .int .u8 1] [90, 0, 1] 3 rfl (by simp [Lib.byteCells] <;> omega) (by unfold maxLen; simp)) B_0.out.size)
    have X_1 := Lib.hid (X_0.out.alloc (.cells #[.int .u8 90, .int .u8 0, .int .u8 1] 5))
    have B_1 := Lib.hid (B_0.out.alloc B_0.out.size (.cells #[.int .u8 90, .int .u8 0, .int .u8 1] 5))
    clear X_0 B_0
    go_wp2_with fail
    clear xnm
    generalize v0.alloc (.cells #[.int .u8 90, .int .u8 0, .int .u8 1] 5) = v1 at *
    generalize v0.heap.size = gl at *
    clear xk
    refine (ratom_any nm hz1 _).mono ?_
    rintro e v2 ⟨gk, ck, rfl, kk, bb⟩
    have K_2 := Lib.hid kk
    have O_2 := Lib.hid (Sl.below O_1.out bb (fun g hg => (Sl.lt O_1.out g hg).2))
    have X_2 := Lib.hid (X_1.out.below bb X_1.out.lt)
    have B_2 := Lib.hid (B_1.out.trans (bb.mono B_1.out.size))
    obtain ⟨nk, hnk⟩ : ∃ nk, nk = (atomB nm).length := ⟨_, rfl⟩
    rw [← hnk] at K_2 ⊢
    clear kk bb hnk O_1 X_1 B_1
    obtain ⟨go, no, co, v3, hrun, hbs, hf⟩ := bs_app2 O_2.out K_2.out (by simp [atomB]) (by first | omega | (simp [atomB_len]; done) | (simp [atomB_len]; omega)) B_2.out.size
    have HRN := Lib.hid hrun
    have O_3 := Lib.hid hbs
    have X_3 := Lib.hid (hf.blk X_2.out (by decide))
    have B_3 := Lib.hid (B_2.out.trans hf.below)
    clear hrun hbs hf O_2 K_2 X_2 B_2
    go_upto_region 26 with (at_builtin; refine wpList_append_run rfl _ _ 48 48 rfl rfl rfl HRN.out ?_)
    clear HRN
    have xg : v3.cell? ⟨w.heap.size, 2, none⟩ = some (.int .i64 g) := X_3.out.cell 2
    go_wp2_with fail
    clear xg
    refine (rnum4 g _).mono ?_
    rintro e v4 ⟨gk, ck, rfl, kk, bb⟩
    have K_4 := Lib.hid kk
    have O_4 := Lib.hid (Sl.below O_3.out bb (fun g hg => (Sl.lt O_3.out g hg).2))
    have X_4 := Lib.hid (X_3.out.below bb X_3.out.lt)
    have B_4 := Lib.hid (B_3.out.trans (bb.mono B_3.out.size))
    obtain ⟨nk, hnk⟩ : ∃ nk, nk = (num4 g).length := ⟨_, rfl⟩
    rw [← hnk] at K_4 ⊢
    clear kk bb hnk O_3 X_3 B_3
    obtain ⟨go, no, co, v5, hrun, hbs, hf⟩ := bs_app2 O_4.out K_4.out (by simp [num4]) (by first | omega | (simp [atomB_len, num4_len]; done) | (simp [atomB_len, num4_len]; omega)) B_4.out.size
    have HRN := Lib.hid hrun
    have O_5 := Lib.hid hbs
    have X_5 := Lib.hid (hf.blk X_4.out (by decide))
    have B_5 := Lib.hid (B_4.out.trans hf.below)
    clear hrun hbs hf O_4 K_4 X_4 B_4
    go_upto_region 27 with (at_builtin; refine wpList_append_run rfl _ _ 48 48 rfl rfl rfl HRN.out ?_)
    clear HRN
    have xn : v5.cell? ⟨w.heap.size, 1, none⟩ = some (.int .i64 n) := X_5.out.cell 1
    go_wp2_with fail
    clear xn
    refine (rnum4 n _).mono ?_
    rintro e v6 ⟨gk, ck, rfl, kk, bb⟩
    have K_6 := Lib.hid kk
    have O_6 := Lib.hid (Sl.below O_5.out bb (fun g hg => (Sl.lt O_5.out g hg).2))
    have X_6 := Lib.hid (X_5.out.below bb X_5.out.lt)
    have B_6 := Lib.hid (B_5.out.trans (bb.mono B_5.out.size))
    obtain ⟨nk, hnk⟩ : ∃ nk, nk = (num4 n).length := ⟨_, rfl⟩
    rw [← hnk] at K_6 ⊢
    clear kk bb hnk O_5 X_5 B_5
    obtain ⟨go, no, co, v7, hrun, hbs, hf⟩ := bs_app2 O_6.out K_6.out (by simp [num4]) (by first | omega | (simp [atomB_len, num4_len]; done) | (simp [atomB_len, num4_len]; omega)) B_6.out.size
    have HRN := Lib.hid hrun
    have O_7 := Lib.hid hbs
    have X_7 := Lib.hid (hf.blk X_6.out (by decide))
    have B_7 := Lib.hid (B_6.out.trans hf.below)
    clear hrun hbs hf O_6 K_6 X_6 B_6
    go_wp2_with (at_builtin; refine wpList_append_run rfl _ _ 48 48 rfl rfl rfl HRN.out ?_)
    clear HRN
    go_wp2_with fail
    go_ret
    rw [HC2.out]
    exact BR.of O_7.out (by simp [codeL, num4, u8, atomB]) (by simp [num4, atomB]) B_7.out
   ·
    -- not 3
    by_cases q4 : k = 4
    ·
     subst q4
     have har := (show 0 ≤ ar ∧ ar ≤ 16 by
      have h := HOK.out
      have h2 : (inB n 0 999 && (inB g 1 2147483647 && (nameF nm && (inB ar 0 16 && decide (its.length ≤ 200))))) = true := h
      simp only [Bool.and_eq_true, inB, decide_eq_true_eq] at h2
      exact h2.2.2.2.1)
     have hll : len ≤ 200 := by
      have h2 : (inB n 0 999 && (inB g 1 2147483647 && (nameF nm && (inB ar 0 16 && decide (its.length ≤ 200))))) = true := HOK.out
      simp only [Bool.and_eq_true, decide_eq_true_eq] at h2
      rw [HLE.out]
      exact h2.2.2.2.2
     have HC2 : Hid (CT = (112 :: u8 ar :: (num2 n ++ (u8 (len : Int) :: (atomB nm ++ num4 g)))) ++ codeL its) := Lib.hid (by rw [HCT.out, HLE.out]; rfl)
     clear HCT
     have X_0 := Lib.hid (Blk.new w 24 #[.int .i64 4, .int .i64 n, .int .i64 g, .string nm, .string fn, .int .i64 ar, .slice sa len cap, .string bs, .int .i64 bt])
     have B_0 := Lib.hid ((Below.refl w.heap.size w).alloc (Nat.le_refl _) (.cells #[.int .i64 4, .int .i64 n, .int .i64 g, .string nm, .string fn, .int .i64 ar, .slice sa len cap, .string bs, .int .i64 bt] 24))
     go_enter Tryz.func66, Tryz.ntmps66
     go_upto_region 2 with fail
     generalize w.alloc (.cells #[.int .i64 4, .int .i64 n, .int .i64 g, .string nm, .string fn, .int .i64 ar, .slice sa len cap, .string bs, .int .i64 bt] 24) = v0 at X_0 B_0 ⊢
     have xk : v0.cell? ⟨w.heap.size, 0, none⟩ = some (.int .i64 4) := X_0.out.cell 0
     have e8 : IntKind.u8.wrap ar = ar := by rw [IntKind.wrap_u8]; omega
     go_upto_region 33 with fail
     clear xk
     go_cut [3] (fun s3 wx => ∃ go no co : Nat, s3 = .slice (some ⟨go, 0, none⟩) no co ∧ Hid (BS wx w.heap.size s3 ([112, u8 ar] ++ num2 n)) ∧ Hid (Blk wx w.heap.size 24 #[.int .i64 4, .int .i64 n, .int .i64 g, .string nm, .string fn, .int .i64 ar, .slice sa len cap, .string bs, .int .i64 bt]) ∧ Hid (Below w.heap.size w wx))
     case first =>
      have HS0 : Hid (∀ W, Blk W w.heap.size 24 #[.int .i64 4, .int .i64 n, .int .i64 g, .string nm, .string fn, .int .i64 ar, .slice sa len cap, .string bs, .int .i64 bt] → (W.cell? ⟨w.heap.size, 5, none⟩ = some (.int .i64 ar) ∧ W.cell? ⟨w.heap.size, 1, none⟩ = some (.int .i64 n))) := Lib.hid (fun W h => ⟨h.cell 5, h.cell 1⟩)
      refine wp_region_held_drew (S := (fun w' => w'.cell? ⟨w.heap.size, 5, none⟩ = some (.int .i64 ar) ∧ w'.cell? ⟨w.heap.size, 1, none⟩ = some (.int .i64 n))) (by kernel_rfl) (HS0.out _ X_0.out.drew) (fun hS => ?_)
      have XD := Lib.hid (X_0.out.drew)
      have BD := Lib.hid (B_0.out.trans (show Below w.heap.size v0 v0.drew from (Below.refl _ _).drew))
      clear X_0 B_0
      generalize v0.drew = vd at *
      refine wpAnyH_take (i := 0) (v := ?_) rfl (by kernel_rfl) (by kernel_rfl) (by kernel_rfl) (fun _ _ _ h => h) (Or.inl ⟨by rfl, ?_⟩) (by assumption) ?_
      rotate_left
      ·
       intro w hSw
       go_simp
       with_reducible rfl
      change wpAnyH _ _ _ _ _ _ _ (Act.put _ (some 121) _) _
      simp only [Act.put, List.setIfInBounds_toArray, List.set_cons_zero, List.set_cons_succ]
      refine wpAnyH_take (i := 1) (v := ?_) rfl (by kernel_rfl) (by kernel_rfl) (by kernel_rfl) (fun _ _ _ h => h) (Or.inl ⟨by rfl, ?_⟩) (by assumption) ?_
      rotate_left
      ·
       intro w hSw
       go_simp
       with_reducible rfl
      change wpAnyH _ _ _ _ _ _ _ (Act.put _ (some 122) _) _
      simp only [Act.put, List.setIfInBounds_toArray, List.set_cons_zero, List.set_cons_succ]
      refine wpAnyH_take (i := 2) (v := ?_) rfl (by kernel_rfl) (by kernel_rfl) (by kernel_rfl) (fun _ _ _ h => h) (Or.inl ⟨by rfl, ?_⟩) (by assumption) ?_
      rotate_left
      ·
       intro w hSw
       go_simp
       with_reducible rfl
      change wpAnyH _ _ _ _ _ _ _ (Act.put _ (some 123) _) _
      simp only [Act.put, List.setIfInBounds_toArray, List.set_cons_zero, List.set_cons_succ]
      refine wpAnyH_take (i := 4) (v := ?_) rfl (by kernel_rfl) (by kernel_rfl) (by kernel_rfl) (fun _ _ _ h => h) (Or.inl ⟨by rfl, ?_⟩) (by assumption) ?_
      rotate_left
      ·
       intro w hSw
       go_simp
       with_reducible rfl
      change wpAnyH _ _ _ _ _ _ _ (Act.put _ (some 125) _) _
      simp only [Act.put, List.setIfInBounds_toArray, List.set_cons_zero, List.set_cons_succ]
      refine wpAnyH_take (i := 5) (v := ?_) rfl (by kernel_rfl) (by kernel_rfl) (by kernel_rfl) (fun _ _ _ h => h) (Or.inl ⟨by rfl, ?_⟩) (by assumption) ?_
      rotate_left
      ·
       intro w hSw
       go_simp
       with_reducible rfl
      change wpAnyH _ _ _ _ _ _ _ (Act.put _ (some 126) _) _
      simp only [Act.put, List.setIfInBounds_toArray, List.set_cons_zero, List.set_cons_succ]
      refine wpAnyH_ready (rs := [3, 6]) (by kernel_rfl) (by simp) ?_
      refine AllReadyH.cons rfl (fun K hK => ?_) (AllReadyH.cons rfl (fun K hK => ?_) AllReadyH.nil)
      ·
       go_simp
       have L1 := Sl.mono (lit_bs vd #[.int .u8 112, .int .u8 ar] [112, u8 ar] 2 rfl (by simp [Lib.byteCells, u8_toNat]; omega) (by unfold maxLen; simp)) BD.out.size
       have XA := Lib.hid (XD.out.alloc (.cells #[.int .u8 112, .int .u8 ar] 5))
       have BA := Lib.hid (BD.out.alloc BD.out.size (.cells #[.int .u8 112, .int .u8 ar] 5))
       have OA := Lib.hid L1
       clear L1
       refine hK.out _ _ (HS0.out _ XA.out) (fun hS => ?_)
       clear hK K
       try simp only [Act.put, List.setIfInBounds_toArray, List.set_cons_zero, List.set_cons_succ]
       refine wpAnyH_ready (rs := [6]) (by kernel_rfl) (by simp) ?_
       refine AllReadyH.cons rfl (fun K hK => ?_) AllReadyH.nil
       go_simp
       refine (rnum2 n _).mono ?_
       rintro e v2 ⟨gk, ck, rfl, kk, bb⟩
       have X2 := Lib.hid (XA.out.below bb XA.out.lt)
       have B2 := Lib.hid (BA.out.trans (bb.mono BA.out.size))
       have O2 := Lib.hid (Sl.below OA.out bb (fun g hg => (Sl.lt OA.out g hg).2))
       have K2 := Lib.hid kk
       rw [show (num2 n).length = 2 from rfl] at K2 ⊢
       clear kk bb
       go_wp2_with fail
       refine hK.out _ _ (HS0.out _ X2.out) (fun hS => ?_)
       clear hK K
       try simp only [Act.put, List.setIfInBounds_toArray, List.set_cons_zero, List.set_cons_succ]
       refine wpAnyH_ready (rs := [7]) (by kernel_rfl) (by simp) ?_
       refine AllReadyH.cons rfl (fun K hK => ?_) AllReadyH.nil
       obtain ⟨go, no, co, v9, hrun, hbs, hf⟩ := bs_app2 O2.out K2.out (by simp [num2]) (by simp [num2]) B2.out.size
       have HRN := Lib.hid hrun
       have O9 := Lib.hid hbs
       have X9 := Lib.hid (hf.blk X2.out (by decide))
       have B9 := Lib.hid (B2.out.trans hf.below)
       clear hrun hbs hf
       refine step_append_run rfl _ _ 48 48 rfl rfl rfl HRN.out ?_
       change K (Act.put _ (some 128) _) _
       refine hK.out _ _ (HS0.out _ X9.out) (fun hS => ?_)
       clear hK K
       try simp only [Act.put, List.setIfInBounds_toArray, List.set_cons_zero, List.set_cons_succ]
       refine wpAnyH_take (i := 8) (v := ?_) rfl (by kernel_rfl) (by kernel_rfl) (by kernel_rfl) (fun _ _ _ h => h) (Or.inl ⟨by rfl, ?_⟩) (by assumption) ?_
       rotate_left
       ·
        intro w hSw
        go_simp
        with_reducible rfl
       change wpAnyH _ _ _ _ _ _ _ (Act.put _ (some 3) _) _
       simp only [Act.put, List.setIfInBounds_toArray, List.set_cons_zero, List.set_cons_succ]
       refine wpAnyH_done (by kernel_rfl) ?_ _
       go_wp2_with fail
       go_meet
       exact ⟨go, no, co, rfl, O9, X9, B9⟩
      ·
       go_simp
       refine (rnum2 n _).mono ?_
       rintro e v2 ⟨gk, ck, rfl, kk, bb⟩
       have X2 := Lib.hid (XD.out.below bb XD.out.lt)
       have B2 := Lib.hid (BD.out.trans (bb.mono BD.out.size))
       have K2 := Lib.hid kk
       rw [show (num2 n).length = 2 from rfl] at K2 ⊢
       clear kk bb
       go_wp2_with fail
       refine hK.out _ _ (HS0.out _ X2.out) (fun hS => ?_)
       clear hK K
       try simp only [Act.put, List.setIfInBounds_toArray, List.set_cons_zero, List.set_cons_succ]
       refine wpAnyH_ready (rs := [3]) (by kernel_rfl) (by simp) ?_
       refine AllReadyH.cons rfl (fun K hK => ?_) AllReadyH.nil
       go_simp
       have L1 := Sl.mono (lit_bs v2 #[.int .u8 112, .int .u8 ar] [112, u8 ar] 2 rfl (by simp [Lib.byteCells, u8_toNat]; omega) (by unfold maxLen; simp)) B2.out.size
       have XA := Lib.hid (X2.out.alloc (.cells #[.int .u8 112, .int .u8 ar] 5))
       have BA := Lib.hid (B2.out.alloc B2.out.size (.cells #[.int .u8 112, .int .u8 ar] 5))
       have OA := Lib.hid L1
       have KA := Lib.hid (Sl.below K2.out ((Below.refl v2.heap.size v2).alloc (Nat.le_refl _) (.cells #[.int .u8 112, .int .u8 ar] 5)) (fun g hg => (Sl.lt K2.out g hg).2))
       clear L1
       refine hK.out _ _ (HS0.out _ XA.out) (fun hS => ?_)
       clear hK K
       try simp only [Act.put, List.setIfInBounds_toArray, List.set_cons_zero, List.set_cons_succ]
       refine wpAnyH_ready (rs := [7]) (by kernel_rfl) (by simp) ?_
       refine AllReadyH.cons rfl (fun K hK => ?_) AllReadyH.nil
       obtain ⟨go, no, co, v9, hrun, hbs, hf⟩ := bs_app2 OA.out KA.out (by simp [num2]) (by simp [num2]) BA.out.size
       have HRN := Lib.hid hrun
       have O9 := Lib.hid hbs
       have X9 := Lib.hid (hf.blk XA.out (by decide))
       have B9 := Lib.hid (BA.out.trans hf.below)
       clear hrun hbs hf
       refine step_append_run rfl _ _ 48 48 rfl rfl rfl HRN.out ?_
       change K (Act.put _ (some 128) _) _
       refine hK.out _ _ (HS0.out _ X9.out) (fun hS => ?_)
       clear hK K
       try simp only [Act.put, List.setIfInBounds_toArray, List.set_cons_zero, List.set_cons_succ]
       refine wpAnyH_take (i := 8) (v := ?_) rfl (by kernel_rfl) (by kernel_rfl) (by kernel_rfl) (fun _ _ _ h => h) (Or.inl ⟨by rfl, ?_⟩) (by assumption) ?_
       rotate_left
       ·
        intro w hSw
        go_simp
        with_reducible rfl
       change wpAnyH _ _ _ _ _ _ _ (Act.put _ (some 3) _) _
       simp only [Act.put, List.setIfInBounds_toArray, List.set_cons_zero, List.set_cons_succ]
       refine wpAnyH_done (by kernel_rfl) ?_ _
       go_wp2_with fail
       go_meet
       exact ⟨go, no, co, rfl, O9, X9, B9⟩
     case rest =>
      obtain ⟨go, no, co, rfl, O_1, X_1, B_1⟩ := hcut
      clear X_0 B_0 e8
      obtain ⟨v1, hv1⟩ : ∃ v, v = wc := ⟨_, rfl⟩
      rw [← hv1] at O_1 X_1 B_1 ⊢
      clear hv1
      go_upto_region 34 with fail
      have xit : v1.cell? ⟨w.heap.size, 6, none⟩ = some (.slice sa len cap) := X_1.out.cell 6
      have K_2 := Lib.hid (Sl.mono (lit_bs v1 #[.int .u8 (len : Int)] [YtemlogadbopffaaGreat.u8 (len : Int)] 1 rfl (by simp [Lib.byteCells, u8_toNat] <;> omega) (by unfold maxLen; simp)) B_1.out.size)
      have O_2 := Lib.hid (Sl.below O_1.out ((Below.refl v1.heap.size v1).alloc (Nat.le_refl _) (.cells #[.int .u8 (len : Int)] 5)) (fun g hg => (Sl.lt O_1.out g hg).2))
      have X_2 := Lib.hid (X_1.out.alloc (.cells #[.int .u8 (len : Int)] 5))
      have B_2 := Lib.hid (B_1.out.alloc B_1.out.size (.cells #[.int .u8 (len : Int)] 5))
      clear X_1 B_1 O_1
      obtain ⟨go, no, co, v3, hrun, hbs, hf⟩ := bs_app2 O_2.out K_2.out (by simp []) (by first | omega | (simp [num2_len]; done) | (simp [atomB_len, num4_len, num2_len]; omega)) B_2.out.size
      have HRN := Lib.hid hrun
      have O_3 := Lib.hid hbs
      have X_3 := Lib.hid (hf.blk X_2.out (by decide))
      have B_3 := Lib.hid (B_2.out.trans hf.below)
      clear hrun hbs hf O_2 K_2 X_2 B_2
      go_upto_region 35 with (at_builtin; refine wpList_append_run rfl _ _ 48 48 rfl rfl rfl HRN.out ?_)
      clear HRN
      clear xit
      have xnm : v3.cell? ⟨w.heap.size, 3, none⟩ = some (.string nm) := X_3.out.cell 3
      go_wp2_with fail
      clear xnm
      refine (ratom_any nm hz1 _).mono ?_
      rintro e v4 ⟨gk, ck, rfl, kk, bb⟩
      have K_4 := Lib.hid kk
      have O_4 := Lib.hid (Sl.below O_3.out bb (fun g hg => (Sl.lt O_3.out g hg).2))
      have X_4 := Lib.hid (X_3.out.below bb X_3.out.lt)
      have B_4 := Lib.hid (B_3.out.trans (bb.mono B_3.out.size))
      obtain ⟨nk, hnk⟩ : ∃ nk, nk = (atomB nm).length := ⟨_, rfl⟩
      rw [← hnk] at K_4 ⊢
      clear kk bb hnk O_3 X_3 B_3
      obtain ⟨go, no, co, v5, hrun, hbs, hf⟩ := bs_app2 O_4.out K_4.out (by simp [atomB]) (by first | omega | (simp [atomB_len, num2_len]; done) | (simp [atomB_len, num2_len]; omega)) B_4.out.size
      have HRN := Lib.hid hrun
      have O_5 := Lib.hid hbs
      have X_5 := Lib.hid (hf.blk X_4.out (by decide))
      have B_5 := Lib.hid (B_4.out.trans hf.below)
      clear hrun hbs hf O_4 K_4 X_4 B_4
      go_upto_region 36 with (at_builtin; refine wpList_append_run rfl _ _ 48 48 rfl rfl rfl HRN.out ?_)
      clear HRN
      have xg : v5.cell? ⟨w.heap.size, 2, none⟩ = some (.int .i64 g) := X_5.out.cell 2
      go_wp2_with fail
      clear xg
      refine (rnum4 g _).mono ?_
      rintro e v6 ⟨gk, ck, rfl, kk, bb⟩
      have K_6 := Lib.hid kk
      have O_6 := Lib.hid (Sl.below O_5.out bb (fun g hg => (Sl.lt O_5.out g hg).2))
      have X_6 := Lib.hid (X_5.out.below bb X_5.out.lt)
      have B_6 := Lib.hid (B_5.out.trans (bb.mono B_5.out.size))
      obtain ⟨nk, hnk⟩ : ∃ nk, nk = (num4 g).length := ⟨_, rfl⟩
      rw [← hnk] at K_6 ⊢
      clear kk bb hnk O_5 X_5 B_5
      obtain ⟨go, no, co, v7, hrun, hbs, hf⟩ := bs_app2 O_6.out K_6.out (by simp [num4]) (by first | omega | (simp [atomB_len, num4_len, num2_len]; done) | (simp [atomB_len, num4_len, num2_len]; omega)) B_6.out.size
      have HRN := Lib.hid hrun
      have O_7 := Lib.hid hbs
      have X_7 := Lib.hid (hf.blk X_6.out (by decide))
      have B_7 := Lib.hid (B_6.out.trans hf.below)
      clear hrun hbs hf O_6 K_6 X_6 B_6
      go_wp2_with (at_builtin; refine wpList_append_run rfl _ _ 48 48 rfl rfl rfl HRN.out ?_)
      clear HRN
      have HP : Hid (CT = (112 :: YtemlogadbopffaaGreat.u8 ar :: (num2 n ++ (YtemlogadbopffaaGreat.u8 (len : Int) :: (atomB nm ++ num4 g)))) ++ codeL its) := Lib.hid HC2.out
      obtain ⟨LP, hLP⟩ : ∃ LP, LP = (112 :: YtemlogadbopffaaGreat.u8 ar :: (num2 n ++ (YtemlogadbopffaaGreat.u8 (len : Int) :: (atomB nm ++ num4 g)))) := ⟨_, rfl⟩
      have OL : Hid (BS v7 w.heap.size (.slice (some ⟨go, 0, none⟩) no co) LP) := Lib.hid (by have := O_7.out; rw [hLP]; simpa [num4, num2, atomB] using this)
      rw [← hLP] at HP
      have HLL : Hid (LP.length + (codeL its).length ≤ 1000000) := Lib.hid (by
       have h1 := HLN.out
       have h2 := congrArg List.length HP.out
       rw [List.length_append] at h2
       omega)
      have HLNE : Hid (LP ≠ []) := Lib.hid (by rw [hLP]; simp)
      clear hLP HC2 HLN O_7 HUL HOK
      have xit : v7.cell? ⟨w.heap.size, 6, none⟩ = some (.slice sa len cap) := X_7.out.cell 6
      go_wp2_with fail
      clear xit
      go_loopw [3, 4] (fun s3 i wr => ∃ c go no co : Nat, c ≤ len ∧ i = .int .i64 c ∧ s3 = .slice (some ⟨go, 0, none⟩) no co ∧ Hid (BS wr w.heap.size s3 (LP ++ codeL (its.take c))) ∧ Hid (Blk wr w.heap.size 24 #[.int .i64 4, .int .i64 n, .int .i64 g, .string nm, .string fn, .int .i64 ar, .slice sa len cap, .string bs, .int .i64 bt]) ∧ Hid (Below w.heap.size w wr)) (fun _ i _ => len - (intOf i).toNat)
      case atStart => exact ⟨0, go, no, co, Nat.zero_le _, rfl, rfl, Lib.hid (by simpa [codeL] using OL.out), X_7, B_7⟩
      case round =>
       clear OL X_7 B_7
       obtain ⟨c, go, no, co, hc, rfl, rfl, OR, XR, BR'⟩ := hrel
       have xit : wr.cell? ⟨w.heap.size, 6, none⟩ = some (.slice sa len cap) := XR.out.cell 6
       by_cases hlt : c < len
       ·
        have hlt2 : c < its.length := by rw [← HLE.out]; exact hlt
        obtain ⟨d, o, rfl, hb, hsb, hcc⟩ := HI.out.get (by omega)
        obtain ⟨x, hx, hcx⟩ := hcc c hlt2
        obtain ⟨_, sx, cx, vx⟩ := hx.its.2.form
        obtain ⟨xf, xv⟩ := x
        dsimp only at vx
        subst vx
        obtain ⟨p0, p1, p2, p3, p4, p5, p6, p7, p8⟩ := cells9 (W := wr) (b := d) (p := o + c * 9) (x := ⟨xf, .slice sx its[c].l.length cx⟩) (fun j hj => by rw [← hcx j hj]; exact BR'.out.cell (p := ⟨d, _, none⟩) hb)
        have IK := Lib.hid (IH.out its[c] (List.getElem_mem hlt2) S ⟨xf, .slice sx its[c].l.length cx⟩ wr (fun b hb => Nat.lt_of_lt_of_le (HS.out b hb) BR'.out.size) (hx.below BR'.out (fun b hb _ => HS.out b hb)))
        have hlc : (LP ++ codeL (its.take c)).length + (codeT its[c]).length ≤ 3000000000 := by
         have h1 := codeL_take_le its (c + 1)
         rw [codeL_take its c hlt2, List.length_append] at h1
         have h2 := HLL.out
         rw [List.length_append]
         omega
        have HLC := Lib.hid hlc
        generalize hlx : its[c].l.length = lx at p6 IK
        clear hcc hcx hx hlc hlx
        unfold ftV at IK
        dsimp only at IK
        go_wp2_with fail
        clear p0 p1 p2 p3 p4 p5 p6 p7 p8 xit
        refine IK.out.mono ?_
        rintro e w4 ⟨gk, ck, rfl, kk, bb⟩
        have hne := code_ne (formedL_mem its HFL.out its[c] (List.getElem_mem hlt2))
        obtain ⟨go2, no2, co2, w5, hrun, hbs, hf⟩ := bs_app2 (Sl.below OR.out bb (fun g hg => (Sl.lt OR.out g hg).2)) kk hne HLC.out (Nat.le_trans BR'.out.size bb.size)
        have HRN := Lib.hid hrun
        have O5 : Hid (BS w5 w.heap.size (.slice (some ⟨go2, 0, none⟩) no2 co2) (LP ++ codeL (its.take (c + 1)))) := Lib.hid (by rw [codeL_take its c hlt2, ← List.append_assoc]; exact hbs)
        have X5 := Lib.hid (hf.blk (XR.out.below bb XR.out.lt) (by decide))
        have B5 := Lib.hid ((BR'.out.trans (bb.mono BR'.out.size)).trans hf.below)
        generalize (codeT its[c]).length = nk at HRN ⊢
        clear hrun hbs hf bb kk hne IK OR XR BR'
        go_wp2_with (at_builtin; refine wpList_append_run rfl _ _ 48 48 rfl rfl rfl HRN.out ?_)
        go_wp2_with fail
        go_roundw
        case rel => exact ⟨c + 1, go2, no2, co2, by omega, by go_num, rfl, O5, X5, B5⟩
        case measure => simp [intOf]; omega
       ·
        have hcl : c = its.length := by have := HLE.out; omega
        go_wp2_with fail
        go_ret
        rw [HP.out]
        have h1 := OR.out
        rw [hcl, List.take_length] at h1
        exact BR.of h1 rfl (fun e => HLNE.out (List.append_eq_nil_iff.1 e).1) BR'.out
    ·
     -- not 4
     by_cases q5 : k = 5
     ·
      subst q5
      obtain rfl : its = [] := by
       have := HUL.out
       simpa [usesL] using this
      obtain rfl : len = 0 := HLE.out
      have HC2 : Hid (CT = (113 :: (atomB nm ++ (atomB fn ++ intB ar))) ++ codeL []) := Lib.hid (by rw [HCT.out]; rfl)
      clear HCT
      have X_0 := Lib.hid (Blk.new w 24 #[.int .i64 5, .int .i64 n, .int .i64 g, .string nm, .string fn, .int .i64 ar, .slice sa 0 cap, .string bs, .int .i64 bt])
      have B_0 := Lib.hid ((Below.refl w.heap.size w).alloc (Nat.le_refl _) (.cells #[.int .i64 5, .int .i64 n, .int .i64 g, .string nm, .string fn, .int .i64 ar, .slice sa 0 cap, .string bs, .int .i64 bt] 24))
      go_enter Tryz.func66, Tryz.ntmps66
      go_upto_region 2 with fail
      generalize w.alloc (.cells #[.int .i64 5, .int .i64 n, .int .i64 g, .string nm, .string fn, .int .i64 ar, .slice sa 0 cap, .string bs, .int .i64 bt] 24) = v0 at X_0 B_0 ⊢
      have xk : v0.cell? ⟨w.heap.size, 0, none⟩ = some (.int .i64 5) := X_0.out.cell 0
      have xnm : (v0.alloc (.cells #[.int .u8 113] 5)).cell? ⟨w.heap.size, 3, none⟩ = some (.string nm) := (X_0.out.alloc _).cell 3
      have O_1 := Lib.hid (Sl.mono (lit_bs v0 #[.int .u8 113] [113] 1 rfl (by simp [Lib.byteCells] <;> omega) (by unfold maxLen; simp)) B_0.out.size)
      have X_1 := Lib.hid (X_0.out.alloc (.cells #[.int .u8 113] 5))
      have B_1 := Lib.hid (B_0.out.alloc B_0.out.size (.cells #[.int .u8 113] 5))
      clear X_0 B_0
      go_wp2_with fail
      clear xnm
      generalize v0.alloc (.cells #[.int .u8 113] 5) = v1 at *
      generalize v0.heap.size = gl at *
      clear xk
      refine (ratom_any nm hz1 _).mono ?_
      rintro e v2 ⟨gk, ck, rfl, kk, bb⟩
      have K_2 := Lib.hid kk
      have O_2 := Lib.hid (Sl.below O_1.out bb (fun g hg => (Sl.lt O_1.out g hg).2))
      have X_2 := Lib.hid (X_1.out.below bb X_1.out.lt)
      have B_2 := Lib.hid (B_1.out.trans (bb.mono B_1.out.size))
      obtain ⟨nk, hnk⟩ : ∃ nk, nk = (atomB nm).length := ⟨_, rfl⟩
      rw [← hnk] at K_2 ⊢
      clear kk bb hnk O_1 X_1 B_1
      obtain ⟨go, no, co, v3, hrun, hbs, hf⟩ := bs_app2 O_2.out K_2.out (by simp [atomB]) (by first | omega | (simp [atomB_len]; done) | (simp [atomB_len]; omega)) B_2.out.size
      have HRN := Lib.hid hrun
      have O_3 := Lib.hid hbs
      have X_3 := Lib.hid (hf.blk X_2.out (by decide))
      have B_3 := Lib.hid (B_2.out.trans hf.below)
      clear hrun hbs hf O_2 K_2 X_2 B_2
      go_upto_region 30 with (at_builtin; refine wpList_append_run rfl _ _ 48 48 rfl rfl rfl HRN.out ?_)
      clear HRN
      have xfn : v3.cell? ⟨w.heap.size, 4, none⟩ = some (.string fn) := X_3.out.cell 4
      go_wp2_with fail
      clear xfn
      refine (ratom_any fn hz2 _).mono ?_
      rintro e v4 ⟨gk, ck, rfl, kk, bb⟩
      have K_4 := Lib.hid kk
      have O_4 := Lib.hid (Sl.below O_3.out bb (fun g hg => (Sl.lt O_3.out g hg).2))
      have X_4 := Lib.hid (X_3.out.below bb X_3.out.lt)
      have B_4 := Lib.hid (B_3.out.trans (bb.mono B_3.out.size))
      obtain ⟨nk, hnk⟩ : ∃ nk, nk = (atomB fn).length := ⟨_, rfl⟩
      rw [← hnk] at K_4 ⊢
      clear kk bb hnk O_3 X_3 B_3
      obtain ⟨go, no, co, v5, hrun, hbs, hf⟩ := bs_app2 O_4.out K_4.out (by simp [atomB]) (by first | omega | (simp [atomB_len]; done) | (simp [atomB_len]; omega)) B_4.out.size
      have HRN := Lib.hid hrun
      have O_5 := Lib.hid hbs
      have X_5 := Lib.hid (hf.blk X_4.out (by decide))
      have B_5 := Lib.hid (B_4.out.trans hf.below)
      clear hrun hbs hf O_4 K_4 X_4 B_4
      go_upto_region 31 with (at_builtin; refine wpList_append_run rfl _ _ 48 48 rfl rfl rfl HRN.out ?_)
      clear HRN
      have hil := intB_len ar har1
      have hin : intB ar ≠ [] := by unfold intB; split <;> (try split) <;> simp
      have HIN := Lib.hid hin
      clear hin
      have xar : v5.cell? ⟨w.heap.size, 5, none⟩ = some (.int .i64 ar) := X_5.out.cell 5
      go_wp2_with fail
      clear xar
      refine (rint_any ar har1 _).mono ?_
      rintro e v6 ⟨gk, ck, rfl, kk, bb⟩
      have K_6 := Lib.hid kk
      have O_6 := Lib.hid (Sl.below O_5.out bb (fun g hg => (Sl.lt O_5.out g hg).2))
      have X_6 := Lib.hid (X_5.out.below bb X_5.out.lt)
      have B_6 := Lib.hid (B_5.out.trans (bb.mono B_5.out.size))
      obtain ⟨nk, hnk⟩ : ∃ nk, nk = (intB ar).length := ⟨_, rfl⟩
      rw [← hnk] at K_6 ⊢
      clear kk bb hnk O_5 X_5 B_5
      obtain ⟨go, no, co, v7, hrun, hbs, hf⟩ := bs_app2 O_6.out K_6.out (HIN.out) (by first | omega | (simp [atomB_len]; done) | (simp [atomB_len]; omega)) B_6.out.size
      have HRN := Lib.hid hrun
      have O_7 := Lib.hid hbs
      have X_7 := Lib.hid (hf.blk X_6.out (by decide))
      have B_7 := Lib.hid (B_6.out.trans hf.below)
      clear hrun hbs hf O_6 K_6 X_6 B_6
      go_wp2_with (at_builtin; refine wpList_append_run rfl _ _ 48 48 rfl rfl rfl HRN.out ?_)
      clear HRN
      go_wp2_with fail
      go_ret
      rw [HC2.out]
      exact BR.of O_7.out (by simp [codeL, u8, atomB]) (by simp [atomB]) B_7.out
     ·
      -- not 5
      by_cases q6 : k = 6
      ·
       subst q6
       obtain rfl : its = [] := by
        have := HUL.out
        simpa [usesL] using this
       obtain rfl : len = 0 := HLE.out
       have HC2 : Hid (CT = (88 :: (atomB nm ++ (num4 n ++ (num4 0 ++ num4 g)))) ++ codeL []) := Lib.hid (by rw [HCT.out]; rfl)
       clear HCT
       have X_0 := Lib.hid (Blk.new w 24 #[.int .i64 6, .int .i64 n, .int .i64 g, .string nm, .string fn, .int .i64 ar, .slice sa 0 cap, .string bs, .int .i64 bt])
       have B_0 := Lib.hid ((Below.refl w.heap.size w).alloc (Nat.le_refl _) (.cells #[.int .i64 6, .int .i64 n, .int .i64 g, .string nm, .string fn, .int .i64 ar, .slice sa 0 cap, .string bs, .int .i64 bt] 24))
       go_enter Tryz.func66, Tryz.ntmps66
       go_upto_region 2 with fail
       generalize w.alloc (.cells #[.int .i64 6, .int .i64 n, .int .i64 g, .string nm, .string fn, .int .i64 ar, .slice sa 0 cap, .string bs, .int .i64 bt] 24) = v0 at X_0 B_0 ⊢
       have xk : v0.cell? ⟨w.heap.size, 0, none⟩ = some (.int .i64 6) := X_0.out.cell 0
       have xnm : (v0.alloc (.cells #[.int .u8 88] 5)).cell? ⟨w.heap.size, 3, none⟩ = some (.string nm) := (X_0.out.alloc _).cell 3
       have O_1 := Lib.hid (Sl.mono (lit_bs v0 #[.int .u8 88] [88] 1 rfl (by simp [Lib.byteCells] <;> omega) (by unfold maxLen; simp)) B_0.out.size)
       have X_1 := Lib.hid (X_0.out.alloc (.cells #[.int .u8 88] 5))
       have B_1 := Lib.hid (B_0.out.alloc B_0.out.size (.cells #[.int .u8 88] 5))
       clear X_0 B_0
       go_wp2_with fail
       clear xnm
       generalize v0.alloc (.cells #[.int .u8 88] 5) = v1 at *
       generalize v0.heap.size = gl at *
       clear xk
       refine (ratom_any nm hz1 _).mono ?_
       rintro e v2 ⟨gk, ck, rfl, kk, bb⟩
       have K_2 := Lib.hid kk
       have O_2 := Lib.hid (Sl.below O_1.out bb (fun g hg => (Sl.lt O_1.out g hg).2))
       have X_2 := Lib.hid (X_1.out.below bb X_1.out.lt)
       have B_2 := Lib.hid (B_1.out.trans (bb.mono B_1.out.size))
       obtain ⟨nk, hnk⟩ : ∃ nk, nk = (atomB nm).length := ⟨_, rfl⟩
       rw [← hnk] at K_2 ⊢
       clear kk bb hnk O_1 X_1 B_1
       obtain ⟨go, no, co, v3, hrun, hbs, hf⟩ := bs_app2 O_2.out K_2.out (by simp [atomB]) (by first | omega | (simp [atomB_len]; done) | (simp [atomB_len]; omega)) B_2.out.size
       have HRN := Lib.hid hrun
       have O_3 := Lib.hid hbs
       have X_3 := Lib.hid (hf.blk X_2.out (by decide))
       have B_3 := Lib.hid (B_2.out.trans hf.below)
       clear hrun hbs hf O_2 K_2 X_2 B_2
       go_upto_region 21 with (at_builtin; refine wpList_append_run rfl _ _ 48 48 rfl rfl rfl HRN.out ?_)
       clear HRN
       have xn : v3.cell? ⟨w.heap.size, 1, none⟩ = some (.int .i64 n) := X_3.out.cell 1
       go_wp2_with fail
       clear xn
       refine (rnum4 n _).mono ?_
       rintro e v4 ⟨gk, ck, rfl, kk, bb⟩
       have K_4 := Lib.hid kk
       have O_4 := Lib.hid (Sl.below O_3.out bb (fun g hg => (Sl.lt O_3.out g hg).2))
       have X_4 := Lib.hid (X_3.out.below bb X_3.out.lt)
       have B_4 := Lib.hid (B_3.out.trans (bb.mono B_3.out.size))
       obtain ⟨nk, hnk⟩ : ∃ nk, nk = (num4 n).length := ⟨_, rfl⟩
       rw [← hnk] at K_4 ⊢
       clear kk bb hnk O_3 X_3 B_3
       obtain ⟨go, no, co, v5, hrun, hbs, hf⟩ := bs_app2 O_4.out K_4.out (by simp [num4]) (by first | omega | (simp [atomB_len, num4_len]; done) | (simp [atomB_len, num4_len]; omega)) B_4.out.size
       have HRN := Lib.hid hrun
       have O_5 := Lib.hid hbs
       have X_5 := Lib.hid (hf.blk X_4.out (by decide))
       have B_5 := Lib.hid (B_4.out.trans hf.below)
       clear hrun hbs hf O_4 K_4 X_4 B_4
       go_upto_region 22 with (at_builtin; refine wpList_append_run rfl _ _ 48 48 rfl rfl rfl HRN.out ?_)
       clear HRN
       have K_6 := Lib.hid (Sl.mono (lit_bs v5 #[.int .u8 0, .int .u8 0, .int .u8 0, .int .u8 0] [0, 0, 0, 0] 4 rfl (by simp [Lib.byteCells] <;> omega) (by unfold maxLen; simp)) B_5.out.size)
       have O_6 := Lib.hid (Sl.below O_5.out ((Below.refl v5.heap.size v5).alloc (Nat.le_refl _) (.cells #[.int .u8 0, .int .u8 0, .int .u8 0, .int .u8 0] 5)) (fun g hg => (Sl.lt O_5.out g hg).2))
       have X_6 := Lib.hid (X_5.out.alloc (.cells #[.int .u8 0, .int .u8 0, .int .u8 0, .int .u8 0] 5))
       have B_6 := Lib.hid (B_5.out.alloc B_5.out.size (.cells #[.int .u8 0, .int .u8 0, .int .u8 0, .int .u8 0] 5))
       clear X_5 B_5 O_5
       obtain ⟨go, no, co, v7, hrun, hbs, hf⟩ := bs_app2 O_6.out K_6.out (by simp []) (by first | omega | (simp [atomB_len, num4_len]; done) | (simp [atomB_len, num4_len]; omega)) B_6.out.size
       have HRN := Lib.hid hrun
       have O_7 := Lib.hid hbs
       have X_7 := Lib.hid (hf.blk X_6.out (by decide))
       have B_7 := Lib.hid (B_6.out.trans hf.below)
       clear hrun hbs hf O_6 K_6 X_6 B_6
       go_upto_region 23 with (at_builtin; refine wpList_append_run rfl _ _ 48 48 rfl rfl rfl HRN.out ?_)
       clear HRN
       have xg : v7.cell? ⟨w.heap.size, 2, none⟩ = some (.int .i64 g) := X_7.out.cell 2
       go_wp2_with fail
       clear xg
       refine (rnum4 g _).mono ?_
       rintro e v8 ⟨gk, ck, rfl, kk, bb⟩
       have K_8 := Lib.hid kk
       have O_8 := Lib.hid (Sl.below O_7.out bb (fun g hg => (Sl.lt O_7.out g hg).2))
       have X_8 := Lib.hid (X_7.out.below bb X_7.out.lt)
       have B_8 := Lib.hid (B_7.out.trans (bb.mono B_7.out.size))
       obtain ⟨nk, hnk⟩ : ∃ nk, nk = (num4 g).length := ⟨_, rfl⟩
       rw [← hnk] at K_8 ⊢
       clear kk bb hnk O_7 X_7 B_7
       obtain ⟨go, no, co, v9, hrun, hbs, hf⟩ := bs_app2 O_8.out K_8.out (by simp [num4]) (by first | omega | (simp [atomB_len, num4_len]; done) | (simp [atomB_len, num4_len]; omega)) B_8.out.size
       have HRN := Lib.hid hrun
       have O_9 := Lib.hid hbs
       have X_9 := Lib.hid (hf.blk X_8.out (by decide))
       have B_9 := Lib.hid (B_8.out.trans hf.below)
       clear hrun hbs hf O_8 K_8 X_8 B_8
       go_wp2_with (at_builtin; refine wpList_append_run rfl _ _ 48 48 rfl rfl rfl HRN.out ?_)
       clear HRN
       go_wp2_with fail
       go_ret
       rw [HC2.out]
       exact BR.of O_9.out (by simp [codeL, num4, u8, atomB]) (by simp [num4, atomB]) B_9.out
      ·
       -- not 6
       by_cases q7 : k = 7
       ·
        subst q7
        have hll : len ≤ 255 := by
         have h2 : decide (its.length ≤ 255) = true := HOK.out
         rw [decide_eq_true_eq] at h2
         rw [HLE.out]
         exact h2
        have HC2 : Hid (CT = ([104, u8 (len : Int)]) ++ codeL its) := Lib.hid (by rw [HCT.out, HLE.out]; rfl)
        clear HCT
        have X_0 := Lib.hid (Blk.new w 24 #[.int .i64 7, .int .i64 n, .int .i64 g, .string nm, .string fn, .int .i64 ar, .slice sa len cap, .string bs, .int .i64 bt])
        have B_0 := Lib.hid ((Below.refl w.heap.size w).alloc (Nat.le_refl _) (.cells #[.int .i64 7, .int .i64 n, .int .i64 g, .string nm, .string fn, .int .i64 ar, .slice sa len cap, .string bs, .int .i64 bt] 24))
        go_enter Tryz.func66, Tryz.ntmps66
        go_upto_region 2 with fail
        generalize w.alloc (.cells #[.int .i64 7, .int .i64 n, .int .i64 g, .string nm, .string fn, .int .i64 ar, .slice sa len cap, .string bs, .int .i64 bt] 24) = v0 at X_0 B_0 ⊢
        have xk : v0.cell? ⟨w.heap.size, 0, none⟩ = some (.int .i64 7) := X_0.out.cell 0
        have xit : v0.cell? ⟨w.heap.size, 6, none⟩ = some (.slice sa len cap) := X_0.out.cell 6
        have O_1 := Lib.hid (Sl.mono (lit_bs v0 #[.int .u8 104, .int .u8 (len : Int)] [104, u8 (len : Int)] 2 rfl (by simp [Lib.byteCells, u8_toNat] <;> omega) (by unfold maxLen; simp)) B_0.out.size)
        have X_1 := Lib.hid (X_0.out.alloc (.cells #[.int .u8 104, .int .u8 (len : Int)] 5))
        have B_1 := Lib.hid (B_0.out.alloc B_0.out.size (.cells #[.int .u8 104, .int .u8 (len : Int)] 5))
        clear X_0 B_0
        go_wp2_with fail
        clear xit
        generalize v0.alloc (.cells #[.int .u8 104, .int .u8 (len : Int)] 5) = v1 at *
        generalize v0.heap.size = gl at *
        try clear xk
        have HP : Hid (CT = ([104, u8 (len : Int)]) ++ codeL its) := Lib.hid HC2.out
        obtain ⟨LP, hLP⟩ : ∃ LP, LP = ([104, u8 (len : Int)]) := ⟨_, rfl⟩
        have OL : Hid (BS v1 w.heap.size (.slice (some ⟨gl, 0, none⟩) 2 2) LP) := Lib.hid (by have := O_1.out; rw [hLP]; simpa [num4, num2, atomB] using this)
        rw [← hLP] at HP
        have HLL : Hid (LP.length + (codeL its).length ≤ 1000000) := Lib.hid (by
         have h1 := HLN.out
         have h2 := congrArg List.length HP.out
         rw [List.length_append] at h2
         omega)
        have HLNE : Hid (LP ≠ []) := Lib.hid (by rw [hLP]; simp)
        clear hLP HC2 HLN O_1 HUL HOK
        have xit : v1.cell? ⟨w.heap.size, 6, none⟩ = some (.slice sa len cap) := X_1.out.cell 6
        go_wp2_with fail
        clear xit
        go_loopw [3, 4] (fun s3 i wr => ∃ c go no co : Nat, c ≤ len ∧ i = .int .i64 c ∧ s3 = .slice (some ⟨go, 0, none⟩) no co ∧ Hid (BS wr w.heap.size s3 (LP ++ codeL (its.take c))) ∧ Hid (Blk wr w.heap.size 24 #[.int .i64 7, .int .i64 n, .int .i64 g, .string nm, .string fn, .int .i64 ar, .slice sa len cap, .string bs, .int .i64 bt]) ∧ Hid (Below w.heap.size w wr)) (fun _ i _ => len - (intOf i).toNat)
        case atStart => exact ⟨0, gl, 2, 2, Nat.zero_le _, rfl, rfl, Lib.hid (by simpa [codeL] using OL.out), X_1, B_1⟩
        case round =>
         clear OL X_1 B_1
         obtain ⟨c, go, no, co, hc, rfl, rfl, OR, XR, BR'⟩ := hrel
         have xit : wr.cell? ⟨w.heap.size, 6, none⟩ = some (.slice sa len cap) := XR.out.cell 6
         by_cases hlt : c < len
         ·
          have hlt2 : c < its.length := by rw [← HLE.out]; exact hlt
          obtain ⟨d, o, rfl, hb, hsb, hcc⟩ := HI.out.get (by omega)
          obtain ⟨x, hx, hcx⟩ := hcc c hlt2
          obtain ⟨_, sx, cx, vx⟩ := hx.its.2.form
          obtain ⟨xf, xv⟩ := x
          dsimp only at vx
          subst vx
          obtain ⟨p0, p1, p2, p3, p4, p5, p6, p7, p8⟩ := cells9 (W := wr) (b := d) (p := o + c * 9) (x := ⟨xf, .slice sx its[c].l.length cx⟩) (fun j hj => by rw [← hcx j hj]; exact BR'.out.cell (p := ⟨d, _, none⟩) hb)
          have IK := Lib.hid (IH.out its[c] (List.getElem_mem hlt2) S ⟨xf, .slice sx its[c].l.length cx⟩ wr (fun b hb => Nat.lt_of_lt_of_le (HS.out b hb) BR'.out.size) (hx.below BR'.out (fun b hb _ => HS.out b hb)))
          have hlc : (LP ++ codeL (its.take c)).length + (codeT its[c]).length ≤ 3000000000 := by
           have h1 := codeL_take_le its (c + 1)
           rw [codeL_take its c hlt2, List.length_append] at h1
           have h2 := HLL.out
           rw [List.length_append]
           omega
          have HLC := Lib.hid hlc
          generalize hlx : its[c].l.length = lx at p6 IK
          clear hcc hcx hx hlc hlx
          unfold ftV at IK
          dsimp only at IK
          go_wp2_with fail
          clear p0 p1 p2 p3 p4 p5 p6 p7 p8 xit
          refine IK.out.mono ?_
          rintro e w4 ⟨gk, ck, rfl, kk, bb⟩
          have hne := code_ne (formedL_mem its HFL.out its[c] (List.getElem_mem hlt2))
          obtain ⟨go2, no2, co2, w5, hrun, hbs, hf⟩ := bs_app2 (Sl.below OR.out bb (fun g hg => (Sl.lt OR.out g hg).2)) kk hne HLC.out (Nat.le_trans BR'.out.size bb.size)
          have HRN := Lib.hid hrun
          have O5 : Hid (BS w5 w.heap.size (.slice (some ⟨go2, 0, none⟩) no2 co2) (LP ++ codeL (its.take (c + 1)))) := Lib.hid (by rw [codeL_take its c hlt2, ← List.append_assoc]; exact hbs)
          have X5 := Lib.hid (hf.blk (XR.out.below bb XR.out.lt) (by decide))
          have B5 := Lib.hid ((BR'.out.trans (bb.mono BR'.out.size)).trans hf.below)
          generalize (codeT its[c]).length = nk at HRN ⊢
          clear hrun hbs hf bb kk hne IK OR XR BR'
          go_wp2_with (at_builtin; refine wpList_append_run rfl _ _ 48 48 rfl rfl rfl HRN.out ?_)
          go_wp2_with fail
          go_roundw
          case rel => exact ⟨c + 1, go2, no2, co2, by omega, by go_num, rfl, O5, X5, B5⟩
          case measure => simp [intOf]; omega
         ·
          have hcl : c = its.length := by have := HLE.out; omega
          go_wp2_with fail
          go_ret
          rw [HP.out]
          have h1 := OR.out
          rw [hcl, List.take_length] at h1
          exact BR.of h1 rfl (fun e => HLNE.out (List.append_eq_nil_iff.1 e).1) BR'.out
       ·
        -- not 7
        by_cases q8 : k = 8
        ·
         subst q8
         obtain rfl : its = [] := by
          have := HUL.out
          simpa [usesL] using this
         obtain rfl : len = 0 := HLE.out
         have HC2 : Hid (CT = ([106]) ++ codeL []) := Lib.hid (by rw [HCT.out]; rfl)
         clear HCT
         have X_0 := Lib.hid (Blk.new w 24 #[.int .i64 8, .int .i64 n, .int .i64 g, .string nm, .string fn, .int .i64 ar, .slice sa 0 cap, .string bs, .int .i64 bt])
         have B_0 := Lib.hid ((Below.refl w.heap.size w).alloc (Nat.le_refl _) (.cells #[.int .i64 8, .int .i64 n, .int .i64 g, .string nm, .string fn, .int .i64 ar, .slice sa 0 cap, .string bs, .int .i64 bt] 24))
         go_enter Tryz.func66, Tryz.ntmps66
         go_upto_region 2 with fail
         generalize w.alloc (.cells #[.int .i64 8, .int .i64 n, .int .i64 g, .string nm, .string fn, .int .i64 ar, .slice sa 0 cap, .string bs, .int .i64 bt] 24) = v0 at X_0 B_0 ⊢
         have xk : v0.cell? ⟨w.heap.size, 0, none⟩ = some (.int .i64 8) := X_0.out.cell 0
         have O_1 := Lib.hid (Sl.mono (lit_bs v0 #[.int .u8 106] [106] 1 rfl (by simp [Lib.byteCells] <;> omega) (by unfold maxLen; simp)) B_0.out.size)
         have X_1 := Lib.hid (X_0.out.alloc (.cells #[.int .u8 106] 5))
         have B_1 := Lib.hid (B_0.out.alloc B_0.out.size (.cells #[.int .u8 106] 5))
         clear X_0 B_0
         go_wp2_with fail
         generalize v0.alloc (.cells #[.int .u8 106] 5) = v1 at *
         generalize v0.heap.size = gl at *
         try clear xk
         go_ret
         rw [HC2.out]
         exact BR.of O_1.out (by simp [codeL]) (by simp) B_1.out
        ·
         -- not 8
         by_cases q9 : k = 9
         ·
          subst q9
          have hll : 2 ≤ len := by rw [HLE.out]; exact okF_nine HOK.out rfl
          have hw9 : IntKind.i64.wrap ((len : Int) - 1) = (len : Int) - 1 := by rw [IntKind.wrap_i64]; omega
          have HC2 : Hid (CT = (108 :: num4 ((len : Int) - 1)) ++ codeL its) := Lib.hid (by rw [HCT.out, HLE.out]; rfl)
          clear HCT
          have X_0 := Lib.hid (Blk.new w 24 #[.int .i64 9, .int .i64 n, .int .i64 g, .string nm, .string fn, .int .i64 ar, .slice sa len cap, .string bs, .int .i64 bt])
          have B_0 := Lib.hid ((Below.refl w.heap.size w).alloc (Nat.le_refl _) (.cells #[.int .i64 9, .int .i64 n, .int .i64 g, .string nm, .string fn, .int .i64 ar, .slice sa len cap, .string bs, .int .i64 bt] 24))
          go_enter Tryz.func66, Tryz.ntmps66
          go_upto_region 2 with fail
          generalize w.alloc (.cells #[.int .i64 9, .int .i64 n, .int .i64 g, .string nm, .string fn, .int .i64 ar, .slice sa len cap, .string bs, .int .i64 bt] 24) = v0 at X_0 B_0 ⊢
          have xk : v0.cell? ⟨w.heap.size, 0, none⟩ = some (.int .i64 9) := X_0.out.cell 0
          have xit : (v0.alloc (.cells #[.int .u8 108] 5)).cell? ⟨w.heap.size, 6, none⟩ = some (.slice sa len cap) := (X_0.out.alloc _).cell 6
          have O_1 := Lib.hid (Sl.mono (lit_bs v0 #[.int .u8 108] [108] 1 rfl (by simp [Lib.byteCells] <;> omega) (by unfold maxLen; simp)) B_0.out.size)
          have X_1 := Lib.hid (X_0.out.alloc (.cells #[.int .u8 108] 5))
          have B_1 := Lib.hid (B_0.out.alloc B_0.out.size (.cells #[.int .u8 108] 5))
          clear X_0 B_0
          go_wp2_with fail
          clear xit
          generalize v0.alloc (.cells #[.int .u8 108] 5) = v1 at *
          generalize v0.heap.size = gl at *
          clear xk
          refine (rnum4 ((len : Int) - 1) _).mono ?_
          rintro e v2 ⟨gk, ck, rfl, kk, bb⟩
          have K_2 := Lib.hid kk
          have O_2 := Lib.hid (Sl.below O_1.out bb (fun g hg => (Sl.lt O_1.out g hg).2))
          have X_2 := Lib.hid (X_1.out.below bb X_1.out.lt)
          have B_2 := Lib.hid (B_1.out.trans (bb.mono B_1.out.size))
          obtain ⟨nk, hnk⟩ : ∃ nk, nk = (num4 ((len : Int) - 1)).length := ⟨_, rfl⟩
          rw [← hnk] at K_2 ⊢
          clear kk bb hnk O_1 X_1 B_1
          obtain ⟨go, no, co, v3, hrun, hbs, hf⟩ := bs_app2 O_2.out K_2.out (by simp [num4]) (by first | omega | (simp [num4_len]; done) | (simp [atomB_len, num4_len, num2_len]; omega)) B_2.out.size
          have HRN := Lib.hid hrun
          have O_3 := Lib.hid hbs
          have X_3 := Lib.hid (hf.blk X_2.out (by decide))
          have B_3 := Lib.hid (B_2.out.trans hf.below)
          clear hrun hbs hf O_2 K_2 X_2 B_2
          go_wp2_with (at_builtin; refine wpList_append_run rfl _ _ 48 48 rfl rfl rfl HRN.out ?_)
          clear HRN
          have HP : Hid (CT = (108 :: num4 ((len : Int) - 1)) ++ codeL its) := Lib.hid HC2.out
          obtain ⟨LP, hLP⟩ : ∃ LP, LP = (108 :: num4 ((len : Int) - 1)) := ⟨_, rfl⟩
          have OL : Hid (BS v3 w.heap.size (.slice (some ⟨go, 0, none⟩) no co) LP) := Lib.hid (by have := O_3.out; rw [hLP]; simpa [num4, num2, atomB] using this)
          rw [← hLP] at HP
          have HLL : Hid (LP.length + (codeL its).length ≤ 1000000) := Lib.hid (by
           have h1 := HLN.out
           have h2 := congrArg List.length HP.out
           rw [List.length_append] at h2
           omega)
          have HLNE : Hid (LP ≠ []) := Lib.hid (by rw [hLP]; simp)
          clear hLP HC2 HLN O_3 HUL HOK
          have xit : v3.cell? ⟨w.heap.size, 6, none⟩ = some (.slice sa len cap) := X_3.out.cell 6
          go_wp2_with fail
          clear xit
          go_loopw [3, 4] (fun s3 i wr => ∃ c go no co : Nat, c ≤ len ∧ i = .int .i64 c ∧ s3 = .slice (some ⟨go, 0, none⟩) no co ∧ Hid (BS wr w.heap.size s3 (LP ++ codeL (its.take c))) ∧ Hid (Blk wr w.heap.size 24 #[.int .i64 9, .int .i64 n, .int .i64 g, .string nm, .string fn, .int .i64 ar, .slice sa len cap, .string bs, .int .i64 bt]) ∧ Hid (Below w.heap.size w wr)) (fun _ i _ => len - (intOf i).toNat)
          case atStart => exact ⟨0, go, no, co, Nat.zero_le _, rfl, rfl, Lib.hid (by simpa [codeL] using OL.out), X_3, B_3⟩
          case round =>
           clear OL X_3 B_3
           obtain ⟨c, go, no, co, hc, rfl, rfl, OR, XR, BR'⟩ := hrel
           have xit : wr.cell? ⟨w.heap.size, 6, none⟩ = some (.slice sa len cap) := XR.out.cell 6
           by_cases hlt : c < len
           ·
            have hlt2 : c < its.length := by rw [← HLE.out]; exact hlt
            obtain ⟨d, o, rfl, hb, hsb, hcc⟩ := HI.out.get (by omega)
            obtain ⟨x, hx, hcx⟩ := hcc c hlt2
            obtain ⟨_, sx, cx, vx⟩ := hx.its.2.form
            obtain ⟨xf, xv⟩ := x
            dsimp only at vx
            subst vx
            obtain ⟨p0, p1, p2, p3, p4, p5, p6, p7, p8⟩ := cells9 (W := wr) (b := d) (p := o + c * 9) (x := ⟨xf, .slice sx its[c].l.length cx⟩) (fun j hj => by rw [← hcx j hj]; exact BR'.out.cell (p := ⟨d, _, none⟩) hb)
            have IK := Lib.hid (IH.out its[c] (List.getElem_mem hlt2) S ⟨xf, .slice sx its[c].l.length cx⟩ wr (fun b hb => Nat.lt_of_lt_of_le (HS.out b hb) BR'.out.size) (hx.below BR'.out (fun b hb _ => HS.out b hb)))
            have hlc : (LP ++ codeL (its.take c)).length + (codeT its[c]).length ≤ 3000000000 := by
             have h1 := codeL_take_le its (c + 1)
             rw [codeL_take its c hlt2, List.length_append] at h1
             have h2 := HLL.out
             rw [List.length_append]
             omega
            have HLC := Lib.hid hlc
            generalize hlx : its[c].l.length = lx at p6 IK
            clear hcc hcx hx hlc hlx
            unfold ftV at IK
            dsimp only at IK
            go_wp2_with fail
            clear p0 p1 p2 p3 p4 p5 p6 p7 p8 xit
            refine IK.out.mono ?_
            rintro e w4 ⟨gk, ck, rfl, kk, bb⟩
            have hne := code_ne (formedL_mem its HFL.out its[c] (List.getElem_mem hlt2))
            obtain ⟨go2, no2, co2, w5, hrun, hbs, hf⟩ := bs_app2 (Sl.below OR.out bb (fun g hg => (Sl.lt OR.out g hg).2)) kk hne HLC.out (Nat.le_trans BR'.out.size bb.size)
            have HRN := Lib.hid hrun
            have O5 : Hid (BS w5 w.heap.size (.slice (some ⟨go2, 0, none⟩) no2 co2) (LP ++ codeL (its.take (c + 1)))) := Lib.hid (by rw [codeL_take its c hlt2, ← List.append_assoc]; exact hbs)
            have X5 := Lib.hid (hf.blk (XR.out.below bb XR.out.lt) (by decide))
            have B5 := Lib.hid ((BR'.out.trans (bb.mono BR'.out.size)).trans hf.below)
            generalize (codeT its[c]).length = nk at HRN ⊢
            clear hrun hbs hf bb kk hne IK OR XR BR'
            go_wp2_with (at_builtin; refine wpList_append_run rfl _ _ 48 48 rfl rfl rfl HRN.out ?_)
            go_wp2_with fail
            go_roundw
            case rel => exact ⟨c + 1, go2, no2, co2, by omega, by go_num, rfl, O5, X5, B5⟩
            case measure => simp [intOf]; omega
           ·
            have hcl : c = its.length := by have := HLE.out; omega
            go_wp2_with fail
            go_ret
            rw [HP.out]
            have h1 := OR.out
            rw [hcl, List.take_length] at h1
            exact BR.of h1 rfl (fun e => HLNE.out (List.append_eq_nil_iff.1 e).1) BR'.out
         ·
          -- not 9
          obtain rfl : k = 10 := by
           have h := HOK.out
           unfold okF at h
           simp only [q1, q2, q3, q4, q5, q6, q7, q8, q9, if_false] at h
           split at h
           ·
            assumption
           ·
            cases h
          have hbt := okF_ten HOK.out rfl
          dsimp only at hbt
          obtain ⟨m, rfl⟩ := Int.eq_ofNat_of_zero_le hbt.1
          have hm : m ≤ 16384 := by omega
          clear hbt q1 q2 q3 q4 q5 q6 q7 q8 q9
          by_cases h8 : m % 8 = 0
          ·
           have hj : ((m : Int) % 8 == 0) = true := by simpa using (by omega : (m : Int) % 8 = 0)
           have hq : (m : Int) % 8 = 0 := by omega
           obtain rfl : its = [] := by
            have := HUL.out
            simpa [usesL] using this
           obtain rfl : len = 0 := HLE.out
           have HC2 : Hid (CT = (109 :: num4 (bs.size : Int) ++ bs.data.toList) ++ codeL []) := Lib.hid (by rw [HCT.out]; unfold headB; dsimp only; rw [if_neg (by decide), if_neg (by decide), if_neg (by decide), if_neg (by decide), if_neg (by decide), if_pos rfl, if_pos hq])
           clear HCT
           have X_0 := Lib.hid (Blk.new w 24 #[.int .i64 10, .int .i64 n, .int .i64 g, .string nm, .string fn, .int .i64 ar, .slice sa 0 cap, .string bs, .int .i64 (m : Int)])
           have B_0 := Lib.hid ((Below.refl w.heap.size w).alloc (Nat.le_refl _) (.cells #[.int .i64 10, .int .i64 n, .int .i64 g, .string nm, .string fn, .int .i64 ar, .slice sa 0 cap, .string bs, .int .i64 (m : Int)] 24))
           go_enter Tryz.func66, Tryz.ntmps66
           go_upto_region 2 with fail
           generalize w.alloc (.cells #[.int .i64 10, .int .i64 n, .int .i64 g, .string nm, .string fn, .int .i64 ar, .slice sa 0 cap, .string bs, .int .i64 (m : Int)] 24) = v0 at X_0 B_0 ⊢
           have xk : v0.cell? ⟨w.heap.size, 0, none⟩ = some (.int .i64 10) := X_0.out.cell 0
           have xbt : v0.cell? ⟨w.heap.size, 8, none⟩ = some (.int .i64 (m : Int)) := X_0.out.cell 8
           have xbs : (v0.alloc (.cells #[.int .u8 109] 5)).cell? ⟨w.heap.size, 7, none⟩ = some (.string bs) := (X_0.out.alloc _).cell 7
           have O_1 := Lib.hid (Sl.mono (lit_bs v0 #[.int .u8 109] [109] 1 rfl (by simp [Lib.byteCells] <;> omega) (by unfold maxLen; simp)) B_0.out.size)
           have X_1 := Lib.hid (X_0.out.alloc (.cells #[.int .u8 109] 5))
           have B_1 := Lib.hid (B_0.out.alloc B_0.out.size (.cells #[.int .u8 109] 5))
           clear X_0 B_0
           go_wp2_with fail
           clear xbt xbs
           generalize v0.alloc (.cells #[.int .u8 109] 5) = v1 at *
           generalize v0.heap.size = gl at *
           clear xk
           refine (rnum4 (bs.size : Int) _).mono ?_
           rintro e v2 ⟨gk, ck, rfl, kk, bb⟩
           have K_2 := Lib.hid kk
           have O_2 := Lib.hid (Sl.below O_1.out bb (fun g hg => (Sl.lt O_1.out g hg).2))
           have X_2 := Lib.hid (X_1.out.below bb X_1.out.lt)
           have B_2 := Lib.hid (B_1.out.trans (bb.mono B_1.out.size))
           obtain ⟨nk, hnk⟩ : ∃ nk, nk = (num4 (bs.size : Int)).length := ⟨_, rfl⟩
           rw [← hnk] at K_2 ⊢
           clear kk bb hnk O_1 X_1 B_1
           obtain ⟨go, no, co, v3, hrun, hbs, hf⟩ := bs_app2 O_2.out K_2.out (by simp [num4]) (by first | omega | (simp [num4_len]; done) | (simp [atomB_len, num4_len, num2_len]; omega)) B_2.out.size
           have HRN := Lib.hid hrun
           have O_3 := Lib.hid hbs
           have X_3 := Lib.hid (hf.blk X_2.out (by decide))
           have B_3 := Lib.hid (B_2.out.trans hf.below)
           clear hrun hbs hf O_2 K_2 X_2 B_2
           go_upto_region 18 with (at_builtin; refine wpList_append_run rfl _ _ 48 48 rfl rfl rfl HRN.out ?_)
           clear HRN
           have xbs : v3.cell? ⟨w.heap.size, 7, none⟩ = some (.string bs) := X_3.out.cell 7
           obtain ⟨go, no, co, v4, hrun, hbs, hf⟩ := bs_str2 O_3.out bs (by simp [num4]) (by first | omega | (simp [num4_len]; done) | (simp [num4_len]; omega)) B_3.out.size
           have HRN := Lib.hid hrun
           have O_4 := Lib.hid hbs
           have X_4 := Lib.hid (hf.blk X_3.out (by decide))
           have B_4 := Lib.hid (B_3.out.trans hf.below)
           clear hrun hbs hf O_3 X_3 B_3
           go_wp2_with (at_builtin; refine wpList_append_run rfl _ _ 48 9 rfl rfl rfl HRN.out ?_)
           clear HRN
           clear xbs
           go_wp2_with fail
           go_ret
           rw [HC2.out]
           exact BR.of O_4.out (by simp [codeL, num4, u8]) (by simp [num4]) B_4.out
          ·
           obtain ⟨j, hj, hj8⟩ : ∃ j : Nat, (m : Int) % 8 = (j : Int) ∧ j < 8 := ⟨m % 8, by omega, by omega⟩
           have hj0 : j ≠ 0 := by omega
           have hJ : ((j : Int) == 0) = false := by simpa using hj0
           obtain rfl : its = [] := by
            have := HUL.out
            simpa [usesL] using this
           obtain rfl : len = 0 := HLE.out
           have HC2 : Hid (CT = (77 :: (num4 (bs.size : Int) ++ [u8 (j : Int)]) ++ bs.data.toList) ++ codeL []) := Lib.hid (by rw [HCT.out]; unfold headB; dsimp only; rw [if_neg (by decide), if_neg (by decide), if_neg (by decide), if_neg (by decide), if_neg (by decide), if_pos rfl, if_neg (by omega), hj])
           clear HCT
           have X_0 := Lib.hid (Blk.new w 24 #[.int .i64 10, .int .i64 n, .int .i64 g, .string nm, .string fn, .int .i64 ar, .slice sa 0 cap, .string bs, .int .i64 (m : Int)])
           have B_0 := Lib.hid ((Below.refl w.heap.size w).alloc (Nat.le_refl _) (.cells #[.int .i64 10, .int .i64 n, .int .i64 g, .string nm, .string fn, .int .i64 ar, .slice sa 0 cap, .string bs, .int .i64 (m : Int)] 24))
           go_enter Tryz.func66, Tryz.ntmps66
           go_upto_region 2 with fail
           generalize w.alloc (.cells #[.int .i64 10, .int .i64 n, .int .i64 g, .string nm, .string fn, .int .i64 ar, .slice sa 0 cap, .string bs, .int .i64 (m : Int)] 24) = v0 at X_0 B_0 ⊢
           have xk : v0.cell? ⟨w.heap.size, 0, none⟩ = some (.int .i64 10) := X_0.out.cell 0
           have xbt : v0.cell? ⟨w.heap.size, 8, none⟩ = some (.int .i64 (m : Int)) := X_0.out.cell 8
           have xbs : (v0.alloc (.cells #[.int .u8 77] 5)).cell? ⟨w.heap.size, 7, none⟩ = some (.string bs) := (X_0.out.alloc _).cell 7
           have O_1 := Lib.hid (Sl.mono (lit_bs v0 #[.int .u8 77] [77] 1 rfl (by simp [Lib.byteCells] <;> omega) (by unfold maxLen; simp)) B_0.out.size)
           have X_1 := Lib.hid (X_0.out.alloc (.cells #[.int .u8 77] 5))
           have B_1 := Lib.hid (B_0.out.alloc B_0.out.size (.cells #[.int .u8 77] 5))
           clear X_0 B_0
           go_wp2_with fail
           clear xbt xbs
           generalize v0.alloc (.cells #[.int .u8 77] 5) = v1 at *
           generalize v0.heap.size = gl at *
           clear xk
           refine (rnum4 (bs.size : Int) _).mono ?_
           rintro e v2 ⟨gk, ck, rfl, kk, bb⟩
           have K_2 := Lib.hid kk
           have O_2 := Lib.hid (Sl.below O_1.out bb (fun g hg => (Sl.lt O_1.out g hg).2))
           have X_2 := Lib.hid (X_1.out.below bb X_1.out.lt)
           have B_2 := Lib.hid (B_1.out.trans (bb.mono B_1.out.size))
           obtain ⟨nk, hnk⟩ : ∃ nk, nk = (num4 (bs.size : Int)).length := ⟨_, rfl⟩
           rw [← hnk] at K_2 ⊢
           clear kk bb hnk O_1 X_1 B_1
           obtain ⟨go, no, co, v3, hrun, hbs, hf⟩ := bs_app2 O_2.out K_2.out (by simp [num4]) (by first | omega | (simp [num4_len]; done) | (simp [atomB_len, num4_len, num2_len]; omega)) B_2.out.size
           have HRN := Lib.hid hrun
           have O_3 := Lib.hid hbs
           have X_3 := Lib.hid (hf.blk X_2.out (by decide))
           have B_3 := Lib.hid (B_2.out.trans hf.below)
           clear hrun hbs hf O_2 K_2 X_2 B_2
           go_upto_region 17 with (at_builtin; refine wpList_append_run rfl _ _ 48 48 rfl rfl rfl HRN.out ?_)
           clear HRN
           have xbt : v3.cell? ⟨w.heap.size, 8, none⟩ = some (.int .i64 (m : Int)) := X_3.out.cell 8
           have K_4 := Lib.hid (Sl.mono (lit_bs v3 #[.int .u8 (j : Int)] [u8 (j : Int)] 1 rfl (by simp [Lib.byteCells, u8_toNat] <;> omega) (by unfold maxLen; simp)) B_3.out.size)
           have O_4 := Lib.hid (Sl.below O_3.out ((Below.refl v3.heap.size v3).alloc (Nat.le_refl _) (.cells #[.int .u8 (j : Int)] 5)) (fun g hg => (Sl.lt O_3.out g hg).2))
           have X_4 := Lib.hid (X_3.out.alloc (.cells #[.int .u8 (j : Int)] 5))
           have B_4 := Lib.hid (B_3.out.alloc B_3.out.size (.cells #[.int .u8 (j : Int)] 5))
           clear X_3 B_3 O_3
           obtain ⟨go, no, co, v5, hrun, hbs, hf⟩ := bs_app2 O_4.out K_4.out (by simp []) (by first | omega | (simp [num4_len]; done) | (simp [atomB_len, num4_len, num2_len]; omega)) B_4.out.size
           have HRN := Lib.hid hrun
           have O_5 := Lib.hid hbs
           have X_5 := Lib.hid (hf.blk X_4.out (by decide))
           have B_5 := Lib.hid (B_4.out.trans hf.below)
           clear hrun hbs hf O_4 K_4 X_4 B_4
           go_upto_region 18 with (at_builtin; refine wpList_append_run rfl _ _ 48 48 rfl rfl rfl HRN.out ?_)
           clear HRN
           clear xbt
           have xbs : v5.cell? ⟨w.heap.size, 7, none⟩ = some (.string bs) := X_5.out.cell 7
           obtain ⟨go, no, co, v6, hrun, hbs, hf⟩ := bs_str2 O_5.out bs (by simp [num4]) (by first | omega | (simp [num4_len]; done) | (simp [num4_len]; omega)) B_5.out.size
           have HRN := Lib.hid hrun
           have O_6 := Lib.hid hbs
           have X_6 := Lib.hid (hf.blk X_5.out (by decide))
           have B_6 := Lib.hid (B_5.out.trans hf.below)
           clear hrun hbs hf O_5 X_5 B_5
           go_wp2_with (at_builtin; refine wpList_append_run rfl _ _ 48 9 rfl rfl rfl HRN.out ?_)
           clear HRN
           clear xbs
           go_wp2_with fail
           go_ret
           rw [HC2.out]
           exact BR.of O_6.out (by simp [codeL, num4, u8]) (by simp [num4]) B_6.out
theorem rcode_any : ∀ t : Tm, fitT t → formed t = true → (codeT t).length ≤ 1000000 → RcC t := by
 intro t
 induction t using Tm.ind with
 | h f its ih =>
  intro hfit hf hlen S x W hS hx
  obtain ⟨e1, i1⟩ := hx.its
  obtain ⟨_, sa, cap, v1⟩ := i1.form
  obtain ⟨xf, xv⟩ := x
  dsimp only [Tm.f, Tm.l] at e1 v1 i1
  subst e1 v1
  rw [fitT] at hfit
  rw [formed, Bool.and_eq_true] at hf
  obtain ⟨k, n, g, nm, fn, ar, bs, bt⟩ := xf
  exact rcode_core S k n g nm fn ar bs bt its sa cap W hS i1 hfit.1 hf.1 hf.2 hlen (fun t ht => ih t ht (fitL_mem its hfit.2 t ht) (formedL_mem its hf.2 t ht) (by
   have h1 : (codeT t).length ≤ (codeL its).length := code_mem its t ht
   rw [codeT, List.length_append] at hlen
   omega))
end Go.Proofs.YtemlogadbopffaaGreat
