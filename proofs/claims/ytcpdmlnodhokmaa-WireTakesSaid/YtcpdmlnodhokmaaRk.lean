/- stagehandref07.Take. -/
import Derived.Test.YtcpdmlnodhokmaaRf
import Derived.Test.YtcpdmlnodhokmaaRt
namespace Go.Proofs.Ytcpdmlnodhokmaa
open Go.RowKit Go.Rt Go.Rw

theorem step_conv_run {P : Program} {ops : Array Oper} {o : Oper} {a : Act} {w w' : World} {K : Act → World → Prop} {Q : Exit → Act → World → Prop} {E : Prop} {v v' : Value}
    (hw : Region.wanted o (yielded ops a.tmps) = true) (src dst : TypeId) (x : Operand) (ho : o.op = .convert src dst x) (hx : a.eval x = v) (hrun : (convert src dst v).run P w = .ok v' w') (hK : K (a.put o.dst v') w') :
    if Region.wanted o (yielded ops a.tmps) = true then Oper.wp P o a w K Q else E := by
  rw [if_pos hw]
  unfold Oper.wp execOp
  simp only [ho, hx, Sem.run_bind, Sem.run_pure, Result.andThen_ok, hrun, Oper.upon]
  exact hK
theorem results_ctt {P : Program} {fn : Func} {a b c : Tmp} {ty t : TypeId} (h : fn.results = #[.cell a ty, .tmp b, .tmp c]) (tmps : Array Value) (w : World) (g : Nat) (cs : Array Value) (d : TypeDesc) (u v : Value) (hx : tmps.getD a undef = .pointer (some ⟨g, 0, none⟩)) (hb : tmps.getD b undef = u) (hv : tmps.getD c undef = v)
    (hc : Blk w g t cs) (hu : P.underlying ty = some d) (hd : d.isRow = true) (hi : (P.info? ty).map (·.size) = some cs.size) : (results fn tmps).run P w = .ok (.tuple #[.agg cs, u, v]) w := by
  have := run_loadVar_mid (P := P) w g 0 ty cs.toList d hc.range hu hd (by simpa using hi)
  rw [Array.getD_eq_getD_getElem?] at hx hb hv
  simp only [Array.toArray_toList] at this
  simp [results, h, hx, asAddr, this, hb, hv]
set_option maxRecDepth 100000 in
set_option maxHeartbeats 2000000 in
theorem rtk_any (s : ByteArray) (hs : s.size ≤ 200000) (w : World) : Calls Try.prog 16 #[.string s] w (TakeR (rtakeF s) w) := by
  obtain ⟨F, hF⟩ : ∃ F, F = rtakeF s := ⟨_, rfl⟩
  rw [← hF]
  unfold rtakeF at hF
  have hsl := size_list s
  have hfit0 := term_fit 2001 ⟨s.data.toList, 2000, false⟩ rfl (by show (0 : Int) ≤ 2000; omega) (by show (2000 : Int) < 2001; omega) (by rw [← hsl]; exact hs)
  have X_0 := Lib.hid ((Blk.new w 25 #[.int .i64 0, .int .i64 0, .int .i64 0, .string ⟨#[]⟩, .string ⟨#[]⟩, .int .i64 0, .slice none 0 0, .string ⟨#[]⟩, .int .i64 0]).alloc (.cells #[.string s, .int .i64 0, .int .i64 2000, .bool false] 52))
  have rb0 := Blk.new (w.alloc (.cells #[.int .i64 0, .int .i64 0, .int .i64 0, .string ⟨#[]⟩, .string ⟨#[]⟩, .int .i64 0, .slice none 0 0, .string ⟨#[]⟩, .int .i64 0] 25)) 52 #[.string s, .int .i64 0, .int .i64 2000, .bool false]
  have B_0 := Lib.hid (((Below.refl w.heap.size w).alloc (Nat.le_refl _) (.cells #[.int .i64 0, .int .i64 0, .int .i64 0, .string ⟨#[]⟩, .string ⟨#[]⟩, .int .i64 0, .slice none 0 0, .string ⟨#[]⟩, .int .i64 0] 25)).alloc (by simp) (.cells #[.string s, .int .i64 0, .int .i64 2000, .bool false] 52))
  simp only [World.size_alloc] at rb0
  have R_0 : Hid (RS s (w.heap.size + 1) ⟨s.data.toList, 2000, false⟩ ((w.alloc (.cells #[.int .i64 0, .int .i64 0, .int .i64 0, .string ⟨#[]⟩, .string ⟨#[]⟩, .int .i64 0, .slice none 0 0, .string ⟨#[]⟩, .int .i64 0] 25)).alloc (.cells #[.string s, .int .i64 0, .int .i64 2000, .bool false] 52))) := Lib.hid ⟨0, by show 0 + s.data.toList.length = s.size; rw [← hsl]; omega, by show s.data.toList.drop 0 = _; rfl, rb0⟩
  clear rb0
  go_enter Try.func16, Try.ntmps16
  go_upto_region 2 with fail
  have HC := rrterm_any hs 2001 ⟨s.data.toList, 2000, false⟩ _ R_0.out rfl (by show (0 : Int) ≤ 2000; omega) (by show (2000 : Int) < 2001; omega) (by show (2000 : Int) ≤ 2000; omega)
  obtain ⟨q, hq⟩ : ∃ q, q = termS 2001 ⟨s.data.toList, 2000, false⟩ := ⟨_, rfl⟩
  rw [← hq] at HC hF hfit0
  clear hq
  obtain ⟨t, st⟩ := q
  obtain ⟨r, left, bad⟩ := st
  dsimp only at hF hfit0
  have HF := Lib.hid hF
  obtain ⟨hfit, _, hcnt, _⟩ := hfit0
  have HC' := Lib.hid HC
  clear HC
  have HFIT := Lib.hid hfit
  have HCNT := Lib.hid hcnt
  clear hF hfit hcnt hsl
  go_wp2_with fail
  generalize (w.alloc (.cells #[.int .i64 0, .int .i64 0, .int .i64 0, .string ⟨#[]⟩, .string ⟨#[]⟩, .int .i64 0, .slice none 0 0, .string ⟨#[]⟩, .int .i64 0] 25)).alloc (.cells #[.string s, .int .i64 0, .int .i64 2000, .bool false] 52) = v0 at X_0 B_0 R_0 HC' ⊢
  refine HC'.out.mono ?_
  rintro e v1 ⟨ox, x, rfl, tx, rx, hl1, hl2, hl3⟩
  dsimp only at tx rx hl2 hl1
  have HLB : Hid (bulk t ≤ 4611686018427387904) := Lib.hid (by have h1 := bulk_cnt t; have h2 := HCNT.out; omega)
  obtain ⟨_, sx, cx, vx⟩ := tx.its.2.form
  obtain ⟨xf, xv⟩ := x
  dsimp only at vx
  subst vx
  obtain ⟨li, hli⟩ : ∃ l, l = t.l.length := ⟨_, rfl⟩
  rw [← hli] at tx ⊢
  have hx0 := X_0.out.lt
  have X_1 := Lib.hid ((X_0.out.only ox (by simp)).alloc (.cells #[.int .i64 xf.k, .int .i64 xf.n, .int .i64 xf.g, .string xf.nm, .string xf.fn, .int .i64 xf.ar, .slice sx li cx, .string xf.bs, .int .i64 xf.bt] 25))
  have B_1 := Lib.hid ((B_0.out.trans (ox.below (by simp) B_0.out.size)).alloc (by have := B_0.out.size; have := ox.size; omega) (.cells #[.int .i64 xf.k, .int .i64 xf.n, .int .i64 xf.g, .string xf.nm, .string xf.fn, .int .i64 xf.ar, .slice sx li cx, .string xf.bs, .int .i64 xf.bt] 25))
  have T_1 := Lib.hid (Blk.new v1 25 #[.int .i64 xf.k, .int .i64 xf.n, .int .i64 xf.g, .string xf.nm, .string xf.fn, .int .i64 xf.ar, .slice sx li cx, .string xf.bs, .int .i64 xf.bt])
  have TX_1 := Lib.hid ((tx.below ((Below.refl v1.heap.size v1).alloc (Nat.le_refl _) (.cells #[.int .i64 xf.k, .int .i64 xf.n, .int .i64 xf.g, .string xf.nm, .string xf.fn, .int .i64 xf.ar, .slice sx li cx, .string xf.bs, .int .i64 xf.bt] 25)) (fun _ _ h => h)).mono (S' := fun c => w.heap.size + 1 ≤ c) (fun b hb _ => by have := R_0.out.lt; omega))
  have HG : Hid (w.heap.size + 1 < v1.heap.size) := Lib.hid rx.lt
  obtain ⟨at', h1, h2, h3⟩ := rx.below ((Below.refl v1.heap.size v1).alloc (Nat.le_refl _) (.cells #[.int .i64 xf.k, .int .i64 xf.n, .int .i64 xf.g, .string xf.nm, .string xf.fn, .int .i64 xf.ar, .slice sx li cx, .string xf.bs, .int .i64 xf.bt] 25))
  dsimp only at h1 h2 h3
  have HA1 := Lib.hid h1
  have HA2 := Lib.hid h2
  have RB_1 := Lib.hid h3
  clear ox tx rx hli hl1 hl2 hl3 HC' HCNT X_0 B_0 R_0 h1 h2 h3 hx0
  unfold ftV
  dsimp only
  go_upto_region 3 with fail
  generalize v1.alloc (.cells #[.int .i64 xf.k, .int .i64 xf.n, .int .i64 xf.g, .string xf.nm, .string xf.fn, .int .i64 xf.ar, .slice sx li cx, .string xf.bs, .int .i64 xf.bt] 25) = v2 at X_1 B_1 T_1 TX_1 RB_1 ⊢
  generalize v1.heap.size = g6 at T_1 HG ⊢
  cases bad with
  | true =>
    obtain rfl : F = (zeroT, 0, 6) := by rw [HF.out, if_pos (.inl rfl)]
    clear HF
    have HS0 : Hid (∀ W, Blk W g6 25 #[.int .i64 xf.k, .int .i64 xf.n, .int .i64 xf.g, .string xf.nm, .string xf.fn, .int .i64 xf.ar, .slice sx li cx, .string xf.bs, .int .i64 xf.bt] → Blk W (w.heap.size + 1) 52 #[.string s, .int .i64 (at' : Int), .int .i64 left, .bool true] → (W.cell? ⟨g6, 0, none⟩ = some (.int .i64 xf.k) ∧ W.cell? ⟨g6, 1, none⟩ = some (.int .i64 xf.n) ∧ W.cell? ⟨g6, 2, none⟩ = some (.int .i64 xf.g) ∧ W.cell? ⟨g6, 3, none⟩ = some (.string xf.nm) ∧ W.cell? ⟨g6, 4, none⟩ = some (.string xf.fn) ∧ W.cell? ⟨g6, 5, none⟩ = some (.int .i64 xf.ar) ∧ W.cell? ⟨g6, 6, none⟩ = some (.slice sx li cx) ∧ W.cell? ⟨g6, 7, none⟩ = some (.string xf.bs) ∧ W.cell? ⟨g6, 8, none⟩ = some (.int .i64 xf.bt) ∧ W.cell? ⟨w.heap.size + 1, 1, none⟩ = some (.int .i64 (at' : Int)) ∧ W.cell? ⟨w.heap.size + 1, 3, none⟩ = some (.bool true))) := Lib.hid (fun W h g => ⟨h.cell 0, h.cell 1, h.cell 2, h.cell 3, h.cell 4, h.cell 5, h.cell 6, h.cell 7, h.cell 8, g.cell 1, g.cell 3⟩)
    refine wp_region_held_drew (S := (fun w' => w'.cell? ⟨g6, 0, none⟩ = some (.int .i64 xf.k) ∧ w'.cell? ⟨g6, 1, none⟩ = some (.int .i64 xf.n) ∧ w'.cell? ⟨g6, 2, none⟩ = some (.int .i64 xf.g) ∧ w'.cell? ⟨g6, 3, none⟩ = some (.string xf.nm) ∧ w'.cell? ⟨g6, 4, none⟩ = some (.string xf.fn) ∧ w'.cell? ⟨g6, 5, none⟩ = some (.int .i64 xf.ar) ∧ w'.cell? ⟨g6, 6, none⟩ = some (.slice sx li cx) ∧ w'.cell? ⟨g6, 7, none⟩ = some (.string xf.bs) ∧ w'.cell? ⟨g6, 8, none⟩ = some (.int .i64 xf.bt) ∧ w'.cell? ⟨w.heap.size + 1, 1, none⟩ = some (.int .i64 (at' : Int)) ∧ w'.cell? ⟨w.heap.size + 1, 3, none⟩ = some (.bool true))) (by kernel_rfl) (HS0.out _ T_1.out.drew RB_1.out.drew) (fun hS => ?_)
    have X_2 := Lib.hid X_1.out.drew
    have B_2 := Lib.hid (B_1.out.trans (show Below w.heap.size v2 v2.drew from (Below.refl _ _).drew))
    have T_2 := Lib.hid T_1.out.drew
    have RB_2 := Lib.hid RB_1.out.drew
    have TX_2 := Lib.hid (TX_1.out.below (show Below v2.heap.size v2 v2.drew from (Below.refl _ _).drew) (fun _ _ h => h))
    clear X_1 B_1 T_1 RB_1 TX_1
    generalize v2.drew = w2 at *
    refine wpAnyH_take (i := 0) (v := ?_) rfl (by kernel_rfl) (by kernel_rfl) (by kernel_rfl) (fun _ _ _ h => h) (Or.inl ⟨by rfl, ?_⟩) (by assumption) ?_
    rotate_left
    · intro w hSw
      go_simp
      with_reducible rfl
    change wpAnyH _ _ _ _ _ _ _ (Act.put _ (some 12) _) _
    simp only [Act.put, List.setIfInBounds_toArray, List.set_cons_zero, List.set_cons_succ]
    refine wpAnyH_take (i := 1) (v := ?_) rfl (by kernel_rfl) (by kernel_rfl) (by kernel_rfl) (fun _ _ _ h => h) (Or.inl ⟨by rfl, ?_⟩) (by assumption) ?_
    rotate_left
    · intro w hSw
      go_simp
      with_reducible rfl
    change wpAnyH _ _ _ _ _ _ _ (Act.put _ (some 13) _) _
    simp only [Act.put, List.setIfInBounds_toArray, List.set_cons_zero, List.set_cons_succ]
    refine wpAnyH_take (i := 2) (v := ?_) rfl (by kernel_rfl) (by kernel_rfl) (by kernel_rfl) (fun _ _ _ h => h) (Or.inl ⟨by rfl, ?_⟩) (by assumption) ?_
    rotate_left
    · intro w hSw
      go_simp
      with_reducible rfl
    change wpAnyH _ _ _ _ _ _ _ (Act.put _ (some 14) _) _
    simp only [Act.put, List.setIfInBounds_toArray, List.set_cons_zero, List.set_cons_succ]
    refine wpAnyH_take (i := 3) (v := ?_) rfl (by kernel_rfl) (by kernel_rfl) (by kernel_rfl) (fun _ _ _ h => h) (Or.inl ⟨by rfl, ?_⟩) (by assumption) ?_
    rotate_left
    · intro w hSw
      go_simp
      with_reducible rfl
    change wpAnyH _ _ _ _ _ _ _ (Act.put _ (some 15) _) _
    simp only [Act.put, List.setIfInBounds_toArray, List.set_cons_zero, List.set_cons_succ]
    refine wpAnyH_take (i := 4) (v := ?_) rfl (by kernel_rfl) (by kernel_rfl) (by kernel_rfl) (fun _ _ _ h => h) (Or.inl ⟨by rfl, ?_⟩) (by assumption) ?_
    rotate_left
    · intro w hSw
      go_simp
      with_reducible rfl
    change wpAnyH _ _ _ _ _ _ _ (Act.put _ (some 16) _) _
    simp only [Act.put, List.setIfInBounds_toArray, List.set_cons_zero, List.set_cons_succ]
    refine wpAnyH_take (i := 5) (v := undef) rfl (by kernel_rfl) (by kernel_rfl) (by kernel_rfl) (fun _ _ _ h => h) (Or.inr ⟨by rfl, rfl⟩) (by assumption) ?_
    change wpAnyH _ _ _ _ _ _ _ (Act.put _ (some 17) _) _
    simp only [Act.put, List.setIfInBounds_toArray, List.set_cons_zero, List.set_cons_succ]
    refine wpAnyH_take (i := 6) (v := undef) rfl (by kernel_rfl) (by kernel_rfl) (by kernel_rfl) (fun _ _ _ h => h) (Or.inr ⟨by rfl, rfl⟩) (by assumption) ?_
    change wpAnyH _ _ _ _ _ _ _ (Act.put _ (some 18) _) _
    simp only [Act.put, List.setIfInBounds_toArray, List.set_cons_zero, List.set_cons_succ]
    refine wpAnyH_take (i := 7) (v := undef) rfl (by kernel_rfl) (by kernel_rfl) (by kernel_rfl) (fun _ _ _ h => h) (Or.inr ⟨by rfl, rfl⟩) (by assumption) ?_
    change wpAnyH _ _ _ _ _ _ _ (Act.put _ (some 19) _) _
    simp only [Act.put, List.setIfInBounds_toArray, List.set_cons_zero, List.set_cons_succ]
    refine wpAnyH_take (i := 8) (v := ?_) rfl (by kernel_rfl) (by kernel_rfl) (by kernel_rfl) (fun _ _ _ h => h) (Or.inl ⟨by rfl, ?_⟩) (by assumption) ?_
    rotate_left
    · intro w hSw
      go_simp
      with_reducible rfl
    change wpAnyH _ _ _ _ _ _ _ (Act.put _ (some 20) _) _
    simp only [Act.put, List.setIfInBounds_toArray, List.set_cons_zero, List.set_cons_succ]
    refine wpAnyH_take (i := 9) (v := ?_) rfl (by kernel_rfl) (by kernel_rfl) (by kernel_rfl) (fun _ _ _ h => h) (Or.inl ⟨by rfl, ?_⟩) (by assumption) ?_
    rotate_left
    · intro w hSw
      go_simp
      with_reducible rfl
    change wpAnyH _ _ _ _ _ _ _ (Act.put _ (some 21) _) _
    simp only [Act.put, List.setIfInBounds_toArray, List.set_cons_zero, List.set_cons_succ]
    refine wpAnyH_take (i := 10) (v := undef) rfl (by kernel_rfl) (by kernel_rfl) (by kernel_rfl) (fun _ _ _ h => h) (Or.inr ⟨by rfl, rfl⟩) (by assumption) ?_
    change wpAnyH _ _ _ _ _ _ _ (Act.put _ (some 22) _) _
    simp only [Act.put, List.setIfInBounds_toArray, List.set_cons_zero, List.set_cons_succ]
    refine wpAnyH_take (i := 11) (v := undef) rfl (by kernel_rfl) (by kernel_rfl) (by kernel_rfl) (fun _ _ _ h => h) (Or.inr ⟨by rfl, rfl⟩) (by assumption) ?_
    change wpAnyH _ _ _ _ _ _ _ (Act.put _ (some 23) _) _
    simp only [Act.put, List.setIfInBounds_toArray, List.set_cons_zero, List.set_cons_succ]
    refine wpAnyH_take (i := 12) (v := undef) rfl (by kernel_rfl) (by kernel_rfl) (by kernel_rfl) (fun _ _ _ h => h) (Or.inr ⟨by rfl, rfl⟩) (by assumption) ?_
    change wpAnyH _ _ _ _ _ _ _ (Act.put _ (some 24) _) _
    simp only [Act.put, List.setIfInBounds_toArray, List.set_cons_zero, List.set_cons_succ]
    refine wpAnyH_take (i := 13) (v := undef) rfl (by kernel_rfl) (by kernel_rfl) (by kernel_rfl) (fun _ _ _ h => h) (Or.inr ⟨by rfl, rfl⟩) (by assumption) ?_
    change wpAnyH _ _ _ _ _ _ _ (Act.put _ (some 25) _) _
    simp only [Act.put, List.setIfInBounds_toArray, List.set_cons_zero, List.set_cons_succ]
    refine wpAnyH_take (i := 14) (v := undef) rfl (by kernel_rfl) (by kernel_rfl) (by kernel_rfl) (fun _ _ _ h => h) (Or.inr ⟨by rfl, rfl⟩) (by assumption) ?_
    change wpAnyH _ _ _ _ _ _ _ (Act.put _ (some 26) _) _
    simp only [Act.put, List.setIfInBounds_toArray, List.set_cons_zero, List.set_cons_succ]
    refine wpAnyH_take (i := 15) (v := undef) rfl (by kernel_rfl) (by kernel_rfl) (by kernel_rfl) (fun _ _ _ h => h) (Or.inr ⟨by rfl, rfl⟩) (by assumption) ?_
    change wpAnyH _ _ _ _ _ _ _ (Act.put _ (some 27) _) _
    simp only [Act.put, List.setIfInBounds_toArray, List.set_cons_zero, List.set_cons_succ]
    refine wpAnyH_take (i := 16) (v := undef) rfl (by kernel_rfl) (by kernel_rfl) (by kernel_rfl) (fun _ _ _ h => h) (Or.inr ⟨by rfl, rfl⟩) (by assumption) ?_
    change wpAnyH _ _ _ _ _ _ _ (Act.put _ (some 28) _) _
    simp only [Act.put, List.setIfInBounds_toArray, List.set_cons_zero, List.set_cons_succ]
    refine wpAnyH_take (i := 17) (v := undef) rfl (by kernel_rfl) (by kernel_rfl) (by kernel_rfl) (fun _ _ _ h => h) (Or.inr ⟨by rfl, rfl⟩) (by assumption) ?_
    change wpAnyH _ _ _ _ _ _ _ (Act.put _ (some 29) _) _
    simp only [Act.put, List.setIfInBounds_toArray, List.set_cons_zero, List.set_cons_succ]
    refine wpAnyH_take (i := 18) (v := undef) rfl (by kernel_rfl) (by kernel_rfl) (by kernel_rfl) (fun _ _ _ h => h) (Or.inr ⟨by rfl, rfl⟩) (by assumption) ?_
    change wpAnyH _ _ _ _ _ _ _ (Act.put _ (some 30) _) _
    simp only [Act.put, List.setIfInBounds_toArray, List.set_cons_zero, List.set_cons_succ]
    refine wpAnyH_take (i := 19) (v := undef) rfl (by kernel_rfl) (by kernel_rfl) (by kernel_rfl) (fun _ _ _ h => h) (Or.inr ⟨by rfl, rfl⟩) (by assumption) ?_
    change wpAnyH _ _ _ _ _ _ _ (Act.put _ (some 31) _) _
    simp only [Act.put, List.setIfInBounds_toArray, List.set_cons_zero, List.set_cons_succ]
    refine wpAnyH_take (i := 20) (v := ?_) rfl (by kernel_rfl) (by kernel_rfl) (by kernel_rfl) (fun _ _ _ h => h) (Or.inl ⟨by rfl, ?_⟩) (by assumption) ?_
    rotate_left
    · intro w hSw
      go_simp
      with_reducible rfl
    change wpAnyH _ _ _ _ _ _ _ (Act.put _ (some 32) _) _
    simp only [Act.put, List.setIfInBounds_toArray, List.set_cons_zero, List.set_cons_succ]
    refine wpAnyH_done (by kernel_rfl) ?_ _
    go_wp2_with (refine wpList_store_blk rfl 25 _ _ rfl rfl w.heap.size zeroC _ 25 rfl rfl X_2.out rfl info25 (by simp [zeroC, Value.oneCell']) ?_; intro vF bF oF)
    exact bodyPost_ret (results_ctt (a := 2) (b := 3) (c := 4) rfl _ _ w.heap.size _ _ (.int .i64 0) (.int .i64 6) rfl rfl rfl bF Try.underlying25 rfl info25) rfl (takeR_zero (B_2.out.trans (oF.below (by simp) B_2.out.size)))
  | false =>
    obtain ⟨V, hv⟩ : ∃ V, V = validB t := ⟨_, rfl⟩
    rw [← hv] at HF
    have HV := Lib.hid hv.symm
    have HS0 : Hid (∀ W, Blk W g6 25 #[.int .i64 xf.k, .int .i64 xf.n, .int .i64 xf.g, .string xf.nm, .string xf.fn, .int .i64 xf.ar, .slice sx li cx, .string xf.bs, .int .i64 xf.bt] → Blk W (w.heap.size + 1) 52 #[.string s, .int .i64 (at' : Int), .int .i64 left, .bool false] → (W.cell? ⟨g6, 0, none⟩ = some (.int .i64 xf.k) ∧ W.cell? ⟨g6, 1, none⟩ = some (.int .i64 xf.n) ∧ W.cell? ⟨g6, 2, none⟩ = some (.int .i64 xf.g) ∧ W.cell? ⟨g6, 3, none⟩ = some (.string xf.nm) ∧ W.cell? ⟨g6, 4, none⟩ = some (.string xf.fn) ∧ W.cell? ⟨g6, 5, none⟩ = some (.int .i64 xf.ar) ∧ W.cell? ⟨g6, 6, none⟩ = some (.slice sx li cx) ∧ W.cell? ⟨g6, 7, none⟩ = some (.string xf.bs) ∧ W.cell? ⟨g6, 8, none⟩ = some (.int .i64 xf.bt) ∧ W.cell? ⟨w.heap.size + 1, 1, none⟩ = some (.int .i64 (at' : Int)) ∧ W.cell? ⟨w.heap.size + 1, 3, none⟩ = some (.bool false))) := Lib.hid (fun W h g => ⟨h.cell 0, h.cell 1, h.cell 2, h.cell 3, h.cell 4, h.cell 5, h.cell 6, h.cell 7, h.cell 8, g.cell 1, g.cell 3⟩)
    refine wp_region_held_drew (S := (fun w' => w'.cell? ⟨g6, 0, none⟩ = some (.int .i64 xf.k) ∧ w'.cell? ⟨g6, 1, none⟩ = some (.int .i64 xf.n) ∧ w'.cell? ⟨g6, 2, none⟩ = some (.int .i64 xf.g) ∧ w'.cell? ⟨g6, 3, none⟩ = some (.string xf.nm) ∧ w'.cell? ⟨g6, 4, none⟩ = some (.string xf.fn) ∧ w'.cell? ⟨g6, 5, none⟩ = some (.int .i64 xf.ar) ∧ w'.cell? ⟨g6, 6, none⟩ = some (.slice sx li cx) ∧ w'.cell? ⟨g6, 7, none⟩ = some (.string xf.bs) ∧ w'.cell? ⟨g6, 8, none⟩ = some (.int .i64 xf.bt) ∧ w'.cell? ⟨w.heap.size + 1, 1, none⟩ = some (.int .i64 (at' : Int)) ∧ w'.cell? ⟨w.heap.size + 1, 3, none⟩ = some (.bool false))) (by kernel_rfl) (HS0.out _ T_1.out.drew RB_1.out.drew) (fun hS => ?_)
    have X_2 := Lib.hid X_1.out.drew
    have B_2 := Lib.hid (B_1.out.trans (show Below w.heap.size v2 v2.drew from (Below.refl _ _).drew))
    have T_2 := Lib.hid T_1.out.drew
    have RB_2 := Lib.hid RB_1.out.drew
    have TX_2 := Lib.hid (TX_1.out.below (show Below v2.heap.size v2 v2.drew from (Below.refl _ _).drew) (fun _ _ h => h))
    clear X_1 B_1 T_1 RB_1 TX_1
    generalize v2.drew = w2 at *
    refine wpAnyH_take (i := 0) (v := ?_) rfl (by kernel_rfl) (by kernel_rfl) (by kernel_rfl) (fun _ _ _ h => h) (Or.inl ⟨by rfl, ?_⟩) (by assumption) ?_
    rotate_left
    · intro w hSw
      go_simp
      with_reducible rfl
    change wpAnyH _ _ _ _ _ _ _ (Act.put _ (some 12) _) _
    simp only [Act.put, List.setIfInBounds_toArray, List.set_cons_zero, List.set_cons_succ]
    refine wpAnyH_take (i := 1) (v := ?_) rfl (by kernel_rfl) (by kernel_rfl) (by kernel_rfl) (fun _ _ _ h => h) (Or.inl ⟨by rfl, ?_⟩) (by assumption) ?_
    rotate_left
    · intro w hSw
      go_simp
      with_reducible rfl
    change wpAnyH _ _ _ _ _ _ _ (Act.put _ (some 13) _) _
    simp only [Act.put, List.setIfInBounds_toArray, List.set_cons_zero, List.set_cons_succ]
    refine wpAnyH_take (i := 2) (v := ?_) rfl (by kernel_rfl) (by kernel_rfl) (by kernel_rfl) (fun _ _ _ h => h) (Or.inl ⟨by rfl, ?_⟩) (by assumption) ?_
    rotate_left
    · intro w hSw
      go_simp
      with_reducible rfl
    change wpAnyH _ _ _ _ _ _ _ (Act.put _ (some 14) _) _
    simp only [Act.put, List.setIfInBounds_toArray, List.set_cons_zero, List.set_cons_succ]
    refine wpAnyH_take (i := 3) (v := ?_) rfl (by kernel_rfl) (by kernel_rfl) (by kernel_rfl) (fun _ _ _ h => h) (Or.inl ⟨by rfl, ?_⟩) (by assumption) ?_
    rotate_left
    · intro w hSw
      go_simp
      with_reducible rfl
    change wpAnyH _ _ _ _ _ _ _ (Act.put _ (some 15) _) _
    simp only [Act.put, List.setIfInBounds_toArray, List.set_cons_zero, List.set_cons_succ]
    refine wpAnyH_take (i := 4) (v := ?_) rfl (by kernel_rfl) (by kernel_rfl) (by kernel_rfl) (fun _ _ _ h => h) (Or.inl ⟨by rfl, ?_⟩) (by assumption) ?_
    rotate_left
    · intro w hSw
      go_simp
      with_reducible rfl
    change wpAnyH _ _ _ _ _ _ _ (Act.put _ (some 16) _) _
    simp only [Act.put, List.setIfInBounds_toArray, List.set_cons_zero, List.set_cons_succ]
    refine wpAnyH_take (i := 5) (v := ?_) rfl (by kernel_rfl) (by kernel_rfl) (by kernel_rfl) (fun _ _ _ h => h) (Or.inl ⟨by rfl, ?_⟩) (by assumption) ?_
    rotate_left
    · intro w hSw
      go_simp
      with_reducible rfl
    change wpAnyH _ _ _ _ _ _ _ (Act.put _ (some 17) _) _
    simp only [Act.put, List.setIfInBounds_toArray, List.set_cons_zero, List.set_cons_succ]
    have CV := rvalid_any _ t ⟨xf, .slice sx li cx⟩ w2 TX_2.out HFIT.out HLB.out
    rw [← hv] at CV
    unfold ftV at CV
    try dsimp only at CV
    have CV := Lib.hid CV
    clear hv
    refine wpAnyH_ready (rs := [6]) (by kernel_rfl) (by simp) ?_
    refine AllReadyH.cons rfl (fun K hK => ?_) AllReadyH.nil
    go_simp
    refine CV.out.mono ?_
    rintro e v3 ⟨rfl, b3⟩
    have X_3 := Lib.hid (X_2.out.below b3 X_2.out.lt)
    have T_3 := Lib.hid (T_2.out.below b3 T_2.out.lt)
    have RB_3 := Lib.hid (RB_2.out.below b3 RB_2.out.lt)
    have TX_3 := Lib.hid (TX_2.out.below b3 (fun _ _ h => h))
    have B_3 := Lib.hid (B_2.out.trans (b3.mono B_2.out.size))
    clear X_2 T_2 RB_2 TX_2 B_2
    clear b3 CV
    go_wp2_with fail
    refine hK.out _ _ (HS0.out _ T_3.out RB_3.out) (fun hS => ?_)
    clear hK K
    try simp only [Act.put, List.setIfInBounds_toArray, List.set_cons_zero, List.set_cons_succ]
    cases V with
    | false =>
      obtain rfl : F = (zeroT, 0, 6) := by rw [HF.out, if_pos (.inr (.inl rfl))]
      clear HF HV
      refine wpAnyH_take (i := 7) (v := ?_) rfl (by kernel_rfl) (by kernel_rfl) (by kernel_rfl) (fun _ _ _ h => h) (Or.inl ⟨by rfl, ?_⟩) (by assumption) ?_
      rotate_left
      · intro w hSw
        go_simp
        with_reducible rfl
      change wpAnyH _ _ _ _ _ _ _ (Act.put _ (some 19) _) _
      simp only [Act.put, List.setIfInBounds_toArray, List.set_cons_zero, List.set_cons_succ]
      refine wpAnyH_take (i := 8) (v := ?_) rfl (by kernel_rfl) (by kernel_rfl) (by kernel_rfl) (fun _ _ _ h => h) (Or.inl ⟨by rfl, ?_⟩) (by assumption) ?_
      rotate_left
      · intro w hSw
        go_simp
        with_reducible rfl
      change wpAnyH _ _ _ _ _ _ _ (Act.put _ (some 20) _) _
      simp only [Act.put, List.setIfInBounds_toArray, List.set_cons_zero, List.set_cons_succ]
      refine wpAnyH_take (i := 9) (v := ?_) rfl (by kernel_rfl) (by kernel_rfl) (by kernel_rfl) (fun _ _ _ h => h) (Or.inl ⟨by rfl, ?_⟩) (by assumption) ?_
      rotate_left
      · intro w hSw
        go_simp
        with_reducible rfl
      change wpAnyH _ _ _ _ _ _ _ (Act.put _ (some 21) _) _
      simp only [Act.put, List.setIfInBounds_toArray, List.set_cons_zero, List.set_cons_succ]
      refine wpAnyH_take (i := 10) (v := undef) rfl (by kernel_rfl) (by kernel_rfl) (by kernel_rfl) (fun _ _ _ h => h) (Or.inr ⟨by rfl, rfl⟩) (by assumption) ?_
      change wpAnyH _ _ _ _ _ _ _ (Act.put _ (some 22) _) _
      simp only [Act.put, List.setIfInBounds_toArray, List.set_cons_zero, List.set_cons_succ]
      refine wpAnyH_take (i := 11) (v := undef) rfl (by kernel_rfl) (by kernel_rfl) (by kernel_rfl) (fun _ _ _ h => h) (Or.inr ⟨by rfl, rfl⟩) (by assumption) ?_
      change wpAnyH _ _ _ _ _ _ _ (Act.put _ (some 23) _) _
      simp only [Act.put, List.setIfInBounds_toArray, List.set_cons_zero, List.set_cons_succ]
      refine wpAnyH_take (i := 12) (v := undef) rfl (by kernel_rfl) (by kernel_rfl) (by kernel_rfl) (fun _ _ _ h => h) (Or.inr ⟨by rfl, rfl⟩) (by assumption) ?_
      change wpAnyH _ _ _ _ _ _ _ (Act.put _ (some 24) _) _
      simp only [Act.put, List.setIfInBounds_toArray, List.set_cons_zero, List.set_cons_succ]
      refine wpAnyH_take (i := 13) (v := undef) rfl (by kernel_rfl) (by kernel_rfl) (by kernel_rfl) (fun _ _ _ h => h) (Or.inr ⟨by rfl, rfl⟩) (by assumption) ?_
      change wpAnyH _ _ _ _ _ _ _ (Act.put _ (some 25) _) _
      simp only [Act.put, List.setIfInBounds_toArray, List.set_cons_zero, List.set_cons_succ]
      refine wpAnyH_take (i := 14) (v := undef) rfl (by kernel_rfl) (by kernel_rfl) (by kernel_rfl) (fun _ _ _ h => h) (Or.inr ⟨by rfl, rfl⟩) (by assumption) ?_
      change wpAnyH _ _ _ _ _ _ _ (Act.put _ (some 26) _) _
      simp only [Act.put, List.setIfInBounds_toArray, List.set_cons_zero, List.set_cons_succ]
      refine wpAnyH_take (i := 15) (v := undef) rfl (by kernel_rfl) (by kernel_rfl) (by kernel_rfl) (fun _ _ _ h => h) (Or.inr ⟨by rfl, rfl⟩) (by assumption) ?_
      change wpAnyH _ _ _ _ _ _ _ (Act.put _ (some 27) _) _
      simp only [Act.put, List.setIfInBounds_toArray, List.set_cons_zero, List.set_cons_succ]
      refine wpAnyH_take (i := 16) (v := undef) rfl (by kernel_rfl) (by kernel_rfl) (by kernel_rfl) (fun _ _ _ h => h) (Or.inr ⟨by rfl, rfl⟩) (by assumption) ?_
      change wpAnyH _ _ _ _ _ _ _ (Act.put _ (some 28) _) _
      simp only [Act.put, List.setIfInBounds_toArray, List.set_cons_zero, List.set_cons_succ]
      refine wpAnyH_take (i := 17) (v := undef) rfl (by kernel_rfl) (by kernel_rfl) (by kernel_rfl) (fun _ _ _ h => h) (Or.inr ⟨by rfl, rfl⟩) (by assumption) ?_
      change wpAnyH _ _ _ _ _ _ _ (Act.put _ (some 29) _) _
      simp only [Act.put, List.setIfInBounds_toArray, List.set_cons_zero, List.set_cons_succ]
      refine wpAnyH_take (i := 18) (v := undef) rfl (by kernel_rfl) (by kernel_rfl) (by kernel_rfl) (fun _ _ _ h => h) (Or.inr ⟨by rfl, rfl⟩) (by assumption) ?_
      change wpAnyH _ _ _ _ _ _ _ (Act.put _ (some 30) _) _
      simp only [Act.put, List.setIfInBounds_toArray, List.set_cons_zero, List.set_cons_succ]
      refine wpAnyH_take (i := 19) (v := undef) rfl (by kernel_rfl) (by kernel_rfl) (by kernel_rfl) (fun _ _ _ h => h) (Or.inr ⟨by rfl, rfl⟩) (by assumption) ?_
      change wpAnyH _ _ _ _ _ _ _ (Act.put _ (some 31) _) _
      simp only [Act.put, List.setIfInBounds_toArray, List.set_cons_zero, List.set_cons_succ]
      refine wpAnyH_take (i := 20) (v := ?_) rfl (by kernel_rfl) (by kernel_rfl) (by kernel_rfl) (fun _ _ _ h => h) (Or.inl ⟨by rfl, ?_⟩) (by assumption) ?_
      rotate_left
      · intro w hSw
        go_simp
        with_reducible rfl
      change wpAnyH _ _ _ _ _ _ _ (Act.put _ (some 32) _) _
      simp only [Act.put, List.setIfInBounds_toArray, List.set_cons_zero, List.set_cons_succ]
      refine wpAnyH_done (by kernel_rfl) ?_ _
      go_wp2_with (refine wpList_store_blk rfl 25 _ _ rfl rfl w.heap.size zeroC _ 25 rfl rfl X_3.out rfl info25 (by simp [zeroC, Value.oneCell']) ?_; intro vF bF oF)
      exact bodyPost_ret (results_ctt (a := 2) (b := 3) (c := 4) rfl _ _ w.heap.size _ _ (.int .i64 0) (.int .i64 6) rfl rfl rfl bF Try.underlying25 rfl info25) rfl (takeR_zero (B_3.out.trans (oF.below (by simp) B_3.out.size)))
    | true =>
      have hv := HV.out
      have hcl : (codeT t).length ≤ 1000000 := by have := putS_short hv HFIT.out; omega
      have CC := Lib.hid (rcode_any t HFIT.out (validB_iff hv).1 hcl _ ⟨xf, .slice sx li cx⟩ v3 (fun b hb => hb) TX_3.out.old)
      have hat : s.size - r.length = at' := by have := HA1.out; omega
      rw [hat] at HF
      obtain ⟨D, hD⟩ : ∃ D, D = (⟨(codeT t).toArray⟩ : ByteArray) := ⟨_, rfl⟩
      have hle : at' ≤ s.size := by have := HA1.out; omega
      have hDA : (D.toList != (s.extract 0 at').toList) = decide (codeT t ≠ s.data.toList.take at') := by
        have e1 : (s.extract 0 at').data.toList = s.data.toList.take at' := by rw [ByteArray.data_extract, Array.toList_extract]; simp [List.extract]
        have e2 : D.data.toList = codeT t := by rw [hD]
        by_cases h : D = s.extract 0 at'
        · rw [decide_eq_false (by simp only [ne_eq, Classical.not_not]; rw [← e1, ← e2, h]), h]
          exact bne_self_eq_false _
        · rw [decide_eq_true (by intro q; exact h (bytes_list (by rw [e1, e2]; exact q))), bne_iff_ne]
          exact fun e => h (bytes_ext e)
      have hsl : ∀ W, (Instr.slice 9 (.string s) none (some (.int .i64 (at' : Int))) none).run Try.prog W = .ok (.string (s.extract 0 at')) W := fun W => by rw [run_slice_string_to_if W 9 s .i64 at' Try.underlying9, if_pos (by omega)]; rfl
      have HD := Lib.hid hD
      unfold ftV at CC
      try dsimp only at CC
      have HF2 : Hid (F = if codeT t ≠ s.data.toList.take at' then (zeroT, 0, 6) else (t, at', 0)) := Lib.hid (by
        rw [HF.out]
        by_cases h : codeT t ≠ s.data.toList.take at'
        · rw [if_pos (.inr (.inr h)), if_pos h]
        · rw [if_neg (by simp only [Bool.false_eq_true, Bool.true_eq_false, false_or]; exact h), if_neg h])
      clear hv hcl hat HF HV hle hD
      generalize s.extract 0 at' = AA at hDA hsl
      refine wpAnyH_take (i := 7) (v := ?_) rfl (by kernel_rfl) (by kernel_rfl) (by kernel_rfl) (fun _ _ _ h => h) (Or.inl ⟨by rfl, ?_⟩) (by assumption) ?_
      rotate_left
      · intro w hSw
        go_simp
        with_reducible rfl
      change wpAnyH _ _ _ _ _ _ _ (Act.put _ (some 19) _) _
      simp only [Act.put, List.setIfInBounds_toArray, List.set_cons_zero, List.set_cons_succ]
      refine wpAnyH_take (i := 8) (v := ?_) rfl (by kernel_rfl) (by kernel_rfl) (by kernel_rfl) (fun _ _ _ h => h) (Or.inl ⟨by rfl, ?_⟩) (by assumption) ?_
      rotate_left
      · intro w hSw
        go_simp
        with_reducible rfl
      change wpAnyH _ _ _ _ _ _ _ (Act.put _ (some 20) _) _
      simp only [Act.put, List.setIfInBounds_toArray, List.set_cons_zero, List.set_cons_succ]
      refine wpAnyH_take (i := 9) (v := ?_) rfl (by kernel_rfl) (by kernel_rfl) (by kernel_rfl) (fun _ _ _ h => h) (Or.inl ⟨by rfl, ?_⟩) (by assumption) ?_
      rotate_left
      · intro w hSw
        go_simp
        with_reducible rfl
      change wpAnyH _ _ _ _ _ _ _ (Act.put _ (some 21) _) _
      simp only [Act.put, List.setIfInBounds_toArray, List.set_cons_zero, List.set_cons_succ]
      refine wpAnyH_take (i := 10) (v := ?_) rfl (by kernel_rfl) (by kernel_rfl) (by kernel_rfl) (fun _ _ _ h => h) (Or.inl ⟨by rfl, ?_⟩) (by assumption) ?_
      rotate_left
      · intro w hSw
        go_simp
        with_reducible rfl
      change wpAnyH _ _ _ _ _ _ _ (Act.put _ (some 22) _) _
      simp only [Act.put, List.setIfInBounds_toArray, List.set_cons_zero, List.set_cons_succ]
      refine wpAnyH_take (i := 13) (v := ?_) rfl (by kernel_rfl) (by kernel_rfl) (by kernel_rfl) (fun _ _ _ h => h) (Or.inl ⟨by rfl, ?_⟩) (by assumption) ?_
      rotate_left
      · intro w hSw
        go_simp
        with_reducible rfl
      change wpAnyH _ _ _ _ _ _ _ (Act.put _ (some 25) _) _
      simp only [Act.put, List.setIfInBounds_toArray, List.set_cons_zero, List.set_cons_succ]
      refine wpAnyH_take (i := 14) (v := ?_) rfl (by kernel_rfl) (by kernel_rfl) (by kernel_rfl) (fun _ _ _ h => h) (Or.inl ⟨by rfl, ?_⟩) (by assumption) ?_
      rotate_left
      · intro w hSw
        go_simp
        with_reducible rfl
      change wpAnyH _ _ _ _ _ _ _ (Act.put _ (some 26) _) _
      simp only [Act.put, List.setIfInBounds_toArray, List.set_cons_zero, List.set_cons_succ]
      refine wpAnyH_take (i := 15) (v := ?_) rfl (by kernel_rfl) (by kernel_rfl) (by kernel_rfl) (fun _ _ _ h => h) (Or.inl ⟨by rfl, ?_⟩) (by assumption) ?_
      rotate_left
      · intro w hSw
        go_simp
        with_reducible rfl
      change wpAnyH _ _ _ _ _ _ _ (Act.put _ (some 27) _) _
      simp only [Act.put, List.setIfInBounds_toArray, List.set_cons_zero, List.set_cons_succ]
      refine wpAnyH_take (i := 16) (v := ?_) rfl (by kernel_rfl) (by kernel_rfl) (by kernel_rfl) (fun _ _ _ h => h) (Or.inl ⟨by rfl, ?_⟩) (by assumption) ?_
      rotate_left
      · intro w hSw
        go_simp
        with_reducible rfl
      change wpAnyH _ _ _ _ _ _ _ (Act.put _ (some 28) _) _
      simp only [Act.put, List.setIfInBounds_toArray, List.set_cons_zero, List.set_cons_succ]
      refine wpAnyH_take (i := 17) (v := ?_) rfl (by kernel_rfl) (by kernel_rfl) (by kernel_rfl) (fun _ _ _ h => h) (Or.inl ⟨by rfl, ?_⟩) (by assumption) ?_
      rotate_left
      · intro w hSw
        go_simp
        with_reducible rfl
      change wpAnyH _ _ _ _ _ _ _ (Act.put _ (some 29) _) _
      simp only [Act.put, List.setIfInBounds_toArray, List.set_cons_zero, List.set_cons_succ]
      refine wpAnyH_take (i := 18) (v := ?_) rfl (by kernel_rfl) (by kernel_rfl) (by kernel_rfl) (fun _ _ _ h => h) (Or.inl ⟨by rfl, ?_⟩) (by assumption) ?_
      rotate_left
      · intro w hSw
        go_simp
        with_reducible rfl
      change wpAnyH _ _ _ _ _ _ _ (Act.put _ (some 30) _) _
      simp only [Act.put, List.setIfInBounds_toArray, List.set_cons_zero, List.set_cons_succ]
      refine wpAnyH_ready (rs := [11]) (by kernel_rfl) (by simp) ?_
      refine AllReadyH.cons rfl (fun K hK => ?_) AllReadyH.nil
      go_simp
      refine CC.out.mono ?_
      rintro e v4 ⟨gk, ck, rfl, kk, b4⟩
      have X_4 := Lib.hid (X_3.out.below b4 X_3.out.lt)
      have T_4 := Lib.hid (T_3.out.below b4 T_3.out.lt)
      have RB_4 := Lib.hid (RB_3.out.below b4 RB_3.out.lt)
      have TX_4 := Lib.hid (TX_3.out.below b4 (fun _ _ h => h))
      have B_4 := Lib.hid (B_3.out.trans (b4.mono B_3.out.size))
      clear X_3 T_3 RB_3 TX_3 B_3
      have HCV := bs_string kk
      rw [← HD.out] at HCV
      have HCV := Lib.hid HCV
      generalize (codeT t).length = nk at HCV ⊢
      clear b4 kk CC HD
      go_wp2_with fail
      refine hK.out _ _ (HS0.out _ T_4.out RB_4.out) (fun hS => ?_)
      clear hK K
      try simp only [Act.put, List.setIfInBounds_toArray, List.set_cons_zero, List.set_cons_succ]
      refine wpAnyH_ready (rs := [12]) (by kernel_rfl) (by simp) ?_
      refine AllReadyH.cons rfl (fun K hK => ?_) AllReadyH.nil
      refine step_conv_run rfl 53 9 _ rfl rfl HCV.out ?_
      change K (Act.put _ (some 24) _) _
      refine hK.out _ _ (HS0.out _ T_4.out RB_4.out) (fun hS => ?_)
      clear hK K
      try simp only [Act.put, List.setIfInBounds_toArray, List.set_cons_zero, List.set_cons_succ]
      clear HCV
      by_cases hE : codeT t ≠ s.data.toList.take at'
      · rw [decide_eq_true hE] at hDA
        replace hDA : (D.toList == AA.toList) = false := by unfold bne at hDA; generalize (D.toList == AA.toList) = q at hDA; cases q; rfl; cases hDA
        obtain rfl : F = (zeroT, 0, 6) := by rw [HF2.out, if_pos hE]
        clear HF2 hE
        refine wpAnyH_take (i := 19) (v := ?_) rfl (by kernel_rfl) (by kernel_rfl) (by kernel_rfl) (fun _ _ _ h => h) (Or.inl ⟨by rfl, ?_⟩) (by assumption) ?_
        rotate_left
        · intro w hSw
          go_simp
          with_reducible rfl
        change wpAnyH _ _ _ _ _ _ _ (Act.put _ (some 31) _) _
        simp only [Act.put, List.setIfInBounds_toArray, List.set_cons_zero, List.set_cons_succ]
        refine wpAnyH_take (i := 20) (v := ?_) rfl (by kernel_rfl) (by kernel_rfl) (by kernel_rfl) (fun _ _ _ h => h) (Or.inl ⟨by rfl, ?_⟩) (by assumption) ?_
        rotate_left
        · intro w hSw
          go_simp
          with_reducible rfl
        change wpAnyH _ _ _ _ _ _ _ (Act.put _ (some 32) _) _
        simp only [Act.put, List.setIfInBounds_toArray, List.set_cons_zero, List.set_cons_succ]
        refine wpAnyH_done (by kernel_rfl) ?_ _
        go_wp2_with (refine wpList_store_blk rfl 25 _ _ rfl rfl w.heap.size zeroC _ 25 rfl rfl X_4.out rfl info25 (by simp [zeroC, Value.oneCell']) ?_; intro vF bF oF)
        exact bodyPost_ret (results_ctt (a := 2) (b := 3) (c := 4) rfl _ _ w.heap.size _ _ (.int .i64 0) (.int .i64 6) rfl rfl rfl bF Try.underlying25 rfl info25) rfl (takeR_zero (B_4.out.trans (oF.below (by simp) B_4.out.size)))
      · rw [decide_eq_false hE] at hDA
        replace hDA : (D.toList == AA.toList) = true := by unfold bne at hDA; generalize (D.toList == AA.toList) = q at hDA; cases q; cases hDA; rfl
        obtain rfl : F = (t, at', 0) := by rw [HF2.out, if_neg hE]
        clear HF2 hE
        refine wpAnyH_take (i := 19) (v := ?_) rfl (by kernel_rfl) (by kernel_rfl) (by kernel_rfl) (fun _ _ _ h => h) (Or.inl ⟨by rfl, ?_⟩) (by assumption) ?_
        rotate_left
        · intro w hSw
          go_simp
          with_reducible rfl
        change wpAnyH _ _ _ _ _ _ _ (Act.put _ (some 31) _) _
        simp only [Act.put, List.setIfInBounds_toArray, List.set_cons_zero, List.set_cons_succ]
        refine wpAnyH_take (i := 20) (v := ?_) rfl (by kernel_rfl) (by kernel_rfl) (by kernel_rfl) (fun _ _ _ h => h) (Or.inl ⟨by rfl, ?_⟩) (by assumption) ?_
        rotate_left
        · intro w hSw
          go_simp
          with_reducible rfl
        change wpAnyH _ _ _ _ _ _ _ (Act.put _ (some 32) _) _
        simp only [Act.put, List.setIfInBounds_toArray, List.set_cons_zero, List.set_cons_succ]
        refine wpAnyH_done (by kernel_rfl) ?_ _
        go_upto_region 5 with fail
        refine wp_region_held_drew (S := (fun w' => w'.cell? ⟨g6, 0, none⟩ = some (.int .i64 xf.k) ∧ w'.cell? ⟨g6, 1, none⟩ = some (.int .i64 xf.n) ∧ w'.cell? ⟨g6, 2, none⟩ = some (.int .i64 xf.g) ∧ w'.cell? ⟨g6, 3, none⟩ = some (.string xf.nm) ∧ w'.cell? ⟨g6, 4, none⟩ = some (.string xf.fn) ∧ w'.cell? ⟨g6, 5, none⟩ = some (.int .i64 xf.ar) ∧ w'.cell? ⟨g6, 6, none⟩ = some (.slice sx li cx) ∧ w'.cell? ⟨g6, 7, none⟩ = some (.string xf.bs) ∧ w'.cell? ⟨g6, 8, none⟩ = some (.int .i64 xf.bt) ∧ w'.cell? ⟨w.heap.size + 1, 1, none⟩ = some (.int .i64 (at' : Int)) ∧ w'.cell? ⟨w.heap.size + 1, 3, none⟩ = some (.bool false))) (by kernel_rfl) (HS0.out _ T_4.out.drew RB_4.out.drew) (fun hS => ?_)
        have X_5 := Lib.hid X_4.out.drew
        have B_5 := Lib.hid (B_4.out.trans (show Below w.heap.size v4 v4.drew from (Below.refl _ _).drew))
        have T_5 := Lib.hid T_4.out.drew
        have RB_5 := Lib.hid RB_4.out.drew
        have TX_5 := Lib.hid (TX_4.out.below (show Below v4.heap.size v4 v4.drew from (Below.refl _ _).drew) (fun _ _ h => h))
        clear X_4 B_4 T_4 RB_4 TX_4 hDA hsl
        generalize v4.drew = v5 at *
        refine wpAnyH_take (i := 0) (v := ?_) rfl (by kernel_rfl) (by kernel_rfl) (by kernel_rfl) (fun _ _ _ h => h) (Or.inl ⟨by rfl, ?_⟩) (by assumption) ?_
        rotate_left
        · intro w hSw
          go_simp
          with_reducible rfl
        change wpAnyH _ _ _ _ _ _ _ (Act.put _ (some 34) _) _
        simp only [Act.put, List.setIfInBounds_toArray, List.set_cons_zero, List.set_cons_succ]
        refine wpAnyH_take (i := 1) (v := ?_) rfl (by kernel_rfl) (by kernel_rfl) (by kernel_rfl) (fun _ _ _ h => h) (Or.inl ⟨by rfl, ?_⟩) (by assumption) ?_
        rotate_left
        · intro w hSw
          go_simp
          with_reducible rfl
        change wpAnyH _ _ _ _ _ _ _ (Act.put _ (some 35) _) _
        simp only [Act.put, List.setIfInBounds_toArray, List.set_cons_zero, List.set_cons_succ]
        refine wpAnyH_take (i := 2) (v := ?_) rfl (by kernel_rfl) (by kernel_rfl) (by kernel_rfl) (fun _ _ _ h => h) (Or.inl ⟨by rfl, ?_⟩) (by assumption) ?_
        rotate_left
        · intro w hSw
          go_simp
          with_reducible rfl
        change wpAnyH _ _ _ _ _ _ _ (Act.put _ (some 36) _) _
        simp only [Act.put, List.setIfInBounds_toArray, List.set_cons_zero, List.set_cons_succ]
        refine wpAnyH_take (i := 3) (v := ?_) rfl (by kernel_rfl) (by kernel_rfl) (by kernel_rfl) (fun _ _ _ h => h) (Or.inl ⟨by rfl, ?_⟩) (by assumption) ?_
        rotate_left
        · intro w hSw
          go_simp
          with_reducible rfl
        change wpAnyH _ _ _ _ _ _ _ (Act.put _ (some 37) _) _
        simp only [Act.put, List.setIfInBounds_toArray, List.set_cons_zero, List.set_cons_succ]
        refine wpAnyH_take (i := 4) (v := ?_) rfl (by kernel_rfl) (by kernel_rfl) (by kernel_rfl) (fun _ _ _ h => h) (Or.inl ⟨by rfl, ?_⟩) (by assumption) ?_
        rotate_left
        · intro w hSw
          go_simp
          with_reducible rfl
        change wpAnyH _ _ _ _ _ _ _ (Act.put _ (some 38) _) _
        simp only [Act.put, List.setIfInBounds_toArray, List.set_cons_zero, List.set_cons_succ]
        refine wpAnyH_ready (rs := [5]) (by kernel_rfl) (by simp) ?_
        refine AllReadyH.cons rfl (fun K hK => ?_) AllReadyH.nil
        refine step_store_blk rfl 25 _ _ rfl rfl w.heap.size #[.int .i64 xf.k, .int .i64 xf.n, .int .i64 xf.g, .string xf.nm, .string xf.fn, .int .i64 xf.ar, .slice sx li cx, .string xf.bs, .int .i64 xf.bt] #[.int .i64 0, .int .i64 0, .int .i64 0, .string ⟨#[]⟩, .string ⟨#[]⟩, .int .i64 0, .slice none 0 0, .string ⟨#[]⟩, .int .i64 0] 25 rfl rfl X_5.out rfl (by kernel_rfl) (by simp [Value.oneCell']) ?_
        intro v6 bF oF
        have T_6 := Lib.hid (T_5.out.only oF (by have := HG.out; simp; omega))
        have RB_6 := Lib.hid (RB_5.out.only oF (by simp))
        refine hK.out _ _ (HS0.out _ T_6.out RB_6.out) (fun hS => ?_)
        clear hK K
        try simp only [Act.put, List.setIfInBounds_toArray, List.set_cons_zero, List.set_cons_succ]
        refine wpAnyH_take (i := 6) (v := ?_) rfl (by kernel_rfl) (by kernel_rfl) (by kernel_rfl) (fun _ _ _ h => h) (Or.inl ⟨by rfl, ?_⟩) (by assumption) ?_
        rotate_left
        · intro w hSw
          go_simp
          with_reducible rfl
        change wpAnyH _ _ _ _ _ _ _ (Act.put _ (some 3) _) _
        simp only [Act.put, List.setIfInBounds_toArray, List.set_cons_zero, List.set_cons_succ]
        refine wpAnyH_take (i := 7) (v := ?_) rfl (by kernel_rfl) (by kernel_rfl) (by kernel_rfl) (fun _ _ _ h => h) (Or.inl ⟨by rfl, ?_⟩) (by assumption) ?_
        rotate_left
        · intro w hSw
          go_simp
          with_reducible rfl
        change wpAnyH _ _ _ _ _ _ _ (Act.put _ (some 4) _) _
        simp only [Act.put, List.setIfInBounds_toArray, List.set_cons_zero, List.set_cons_succ]
        refine wpAnyH_done (by kernel_rfl) ?_ _
        go_wp2_with fail
        refine bodyPost_ret (results_ctt (a := 2) (b := 3) (c := 4) rfl _ _ w.heap.size _ _ (.int .i64 (at' : Int)) (.int .i64 0) rfl rfl rfl bF Try.underlying25 rfl info25) rfl ?_
        exact ⟨B_5.out.trans (oF.below (by simp) B_5.out.size), ⟨xf, .slice sx li cx⟩, rfl, (TX_5.out.only oF (fun b hb _ => by simp; omega)).mono (fun b hb _ => by show w.heap.size ≤ b; omega)⟩
end Go.Proofs.Ytcpdmlnodhokmaa
