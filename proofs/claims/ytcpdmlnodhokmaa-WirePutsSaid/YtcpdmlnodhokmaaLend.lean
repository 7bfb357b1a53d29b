/- kit.mark, kit.Lend, kit.LendList. -/
import Derived.Test.YtcpdmlnodhokmaaPair
import Derived.Test.YtcpdmlnodhokmaaItems
import Derived.Test.YtcpdmlnodhokmaaLawB
namespace Go.Proofs.Ytcpdmlnodhokmaa
open Go.RowKit Go.Rt Go.Rw

set_option maxRecDepth 100000 in
set_option maxHeartbeats 2000000 in
theorem mark_any (w : World) : Calls Try.prog 66 #[] w fun e w' => e = .returned (ftV mkFt) ∧ Below w.heap.size w w' := by
  have X_0 := Lib.hid (Blk.new w 25 #[.int .i64 0, .int .i64 0, .int .i64 0, .string ⟨#[]⟩, .string ⟨#[]⟩, .int .i64 0, .slice none 0 0, .string ⟨#[]⟩, .int .i64 0])
  have B_0 := Lib.hid ((Below.refl w.heap.size w).alloc (Nat.le_refl _) (.cells #[.int .i64 0, .int .i64 0, .int .i64 0, .string ⟨#[]⟩, .string ⟨#[]⟩, .int .i64 0, .slice none 0 0, .string ⟨#[]⟩, .int .i64 0] 25))
  go_enter Try.func66, Try.ntmps66
  go_upto_region 1 with fail
  generalize w.alloc (.cells #[.int .i64 0, .int .i64 0, .int .i64 0, .string ⟨#[]⟩, .string ⟨#[]⟩, .int .i64 0, .slice none 0 0, .string ⟨#[]⟩, .int .i64 0] 25) = v0 at X_0 B_0 ⊢
  go_wp2_with (refine wpList_store_blk rfl 25 _ _ rfl rfl w.heap.size #[.int .i64 (-7), .int .i64 4711, .int .i64 0, .string ⟨#[115, 112, 97, 114, 101]⟩, .string ⟨#[]⟩, .int .i64 0, .slice none 0 0, .string ⟨#[]⟩, .int .i64 0] _ 25 rfl rfl X_0.out rfl info25 (by simp [Value.oneCell']) ?_; intro v1 b1 o1)
  exact bodyPost_ret (results_blk rfl _ _ w.heap.size _ _ rfl b1 Try.underlying25 rfl info25) rfl ⟨rfl, B_0.out.trans (o1.below (by simp) B_0.out.size)⟩
set_option maxRecDepth 100000 in
set_option maxHeartbeats 2000000 in
theorem lend_flat (B : Nat) (t : Tm) (x : Ft) (w : World) (hx : x.f = t.f) (sx : Option Addr) (cx : Nat) (hv : x.v = .slice sx t.l.length cx) (hB : B ≤ w.heap.size)
    (CL : Hid (∀ W, Below w.heap.size w W → Calls Try.prog 38 #[x.v] W (LendLR B t.l x.v W))) : Calls Try.prog 22 #[ftV x] w (LendR B t x w) := by
  obtain ⟨xf, xv⟩ := x
  dsimp only at hx hv CL
  subst hv
  obtain ⟨lx, hlx⟩ : ∃ l, l = t.l.length := ⟨_, rfl⟩
  have HX := Lib.hid hx
  have HLX := Lib.hid hlx
  have HB := Lib.hid hB
  rw [← hlx] at CL ⊢
  clear hx hlx hB
  have X_0 := Lib.hid ((Blk.new w 25 #[.int .i64 xf.k, .int .i64 xf.n, .int .i64 xf.g, .string xf.nm, .string xf.fn, .int .i64 xf.ar, .slice sx lx cx, .string xf.bs, .int .i64 xf.bt]).alloc (.cells #[.int .i64 0, .int .i64 0, .int .i64 0, .string ⟨#[]⟩, .string ⟨#[]⟩, .int .i64 0, .slice none 0 0, .string ⟨#[]⟩, .int .i64 0] 25))
  have z0 := Blk.new (w.alloc (.cells #[.int .i64 xf.k, .int .i64 xf.n, .int .i64 xf.g, .string xf.nm, .string xf.fn, .int .i64 xf.ar, .slice sx lx cx, .string xf.bs, .int .i64 xf.bt] 25)) 25 #[.int .i64 0, .int .i64 0, .int .i64 0, .string ⟨#[]⟩, .string ⟨#[]⟩, .int .i64 0, .slice none 0 0, .string ⟨#[]⟩, .int .i64 0]
  have B_0 := Lib.hid (((Below.refl w.heap.size w).alloc (Nat.le_refl _) (.cells #[.int .i64 xf.k, .int .i64 xf.n, .int .i64 xf.g, .string xf.nm, .string xf.fn, .int .i64 xf.ar, .slice sx lx cx, .string xf.bs, .int .i64 xf.bt] 25)).alloc (by simp) (.cells #[.int .i64 0, .int .i64 0, .int .i64 0, .string ⟨#[]⟩, .string ⟨#[]⟩, .int .i64 0, .slice none 0 0, .string ⟨#[]⟩, .int .i64 0] 25))
  simp only [World.size_alloc] at z0
  have Z_0 := Lib.hid z0
  clear z0
  unfold ftV
  go_enter Try.func22, Try.ntmps22
  go_upto_region 1 with fail
  generalize (w.alloc (.cells #[.int .i64 xf.k, .int .i64 xf.n, .int .i64 xf.g, .string xf.nm, .string xf.fn, .int .i64 xf.ar, .slice sx lx cx, .string xf.bs, .int .i64 xf.bt] 25)).alloc (.cells #[.int .i64 0, .int .i64 0, .int .i64 0, .string ⟨#[]⟩, .string ⟨#[]⟩, .int .i64 0, .slice none 0 0, .string ⟨#[]⟩, .int .i64 0] 25) = v0 at X_0 Z_0 B_0 ⊢
  have HG : Hid (w.heap.size + 1 < v0.heap.size) := Lib.hid Z_0.out.lt
  have c6 : v0.cell? ⟨w.heap.size, 6, none⟩ = some (.slice sx lx cx) := X_0.out.cell 6
  go_wp2_with fail
  refine (CL.out v0 B_0.out).mono ?_
  rintro e v1 ⟨b1, yv, rfl, pv⟩
  obtain ⟨⟨sy, cy, vy⟩, _⟩ := pv.form
  subst vy
  rw [← HLX.out] at pv ⊢
  have X_1 := Lib.hid (X_0.out.below b1 X_0.out.lt)
  have Z_1 := Lib.hid (Z_0.out.below b1 Z_0.out.lt)
  have B_1 := Lib.hid (B_0.out.trans (b1.mono B_0.out.size))
  have P_1 := Lib.hid pv
  clear c6 b1 pv X_0 Z_0 B_0 CL
  go_wp2_with (refine wpList_store_fld rfl 23 _ _ rfl rfl w.heap.size 6 _ 25 (.slice sy lx cy) rfl rfl X_1.out (Nat.le_of_ble_eq_true rfl) (by kernel_rfl) rfl ?_)
  intro v2 ev
  have X_2 := Lib.hid (show Blk v2 w.heap.size 25 #[.int .i64 xf.k, .int .i64 xf.n, .int .i64 xf.g, .string xf.nm, .string xf.fn, .int .i64 xf.ar, .slice sy lx cy, .string xf.bs, .int .i64 xf.bt] by rw [ev]; exact X_1.out.set_ 6 _)
  have Z_2 := Lib.hid (show Blk v2 (w.heap.size + 1) 25 #[.int .i64 0, .int .i64 0, .int .i64 0, .string ⟨#[]⟩, .string ⟨#[]⟩, .int .i64 0, .slice none 0 0, .string ⟨#[]⟩, .int .i64 0] by rw [ev]; exact Z_1.out.far (by simp) _)
  have ox : Only [w.heap.size] v1 v2 := by rw [ev]; exact Only.setCell v1 ⟨w.heap.size, 6, none⟩ _ (by simp)
  have B_2 := Lib.hid (B_1.out.trans (ox.below (by simp) B_1.out.size))
  have P_2 := Lib.hid (P_1.out.map ox.size (fun b hb hl => ox.block b hl (by have := HG.out; have := HB.out; simp; omega)) (fun _ h _ => h))
  clear ev ox X_1 Z_1 B_1 P_1
  go_wp2_with (first
    | (refine wpList_load_blk rfl 25 _ rfl w.heap.size rfl _ 25 _ X_2.out Try.underlying25 rfl info25 ?_)
    | (refine wpList_store_blk rfl 25 _ _ rfl rfl (w.heap.size + 1) #[.int .i64 xf.k, .int .i64 xf.n, .int .i64 xf.g, .string xf.nm, .string xf.fn, .int .i64 xf.ar, .slice sy lx cy, .string xf.bs, .int .i64 xf.bt] _ 25 rfl rfl Z_2.out rfl info25 (by simp [Value.oneCell']) ?_; intro v3 b3 o3))
  refine bodyPost_ret (results_blk rfl _ _ (w.heap.size + 1) _ _ rfl b3 Try.underlying25 rfl info25) rfl ?_
  refine ⟨B_2.out.trans (o3.below (by simp) B_2.out.size), ⟨xf, .slice sy lx cy⟩, rfl, ?_⟩
  have p3 := P_2.out.map (S' := fun b => b < B ∨ w.heap.size ≤ b) o3.size (fun b hb hl => o3.block b hl (by have := HG.out; have := HB.out; simp; omega)) (fun b h _ => by have := HG.out; omega)
  exact PairAt.of HX.out HX.out p3
theorem cnt_mem : ∀ (l : List Tm) (t : Tm), t ∈ l → cnt t ≤ cntL l
  | [], t, h => by cases h
  | u :: r, t, h => by
    rw [cntL]
    rcases List.mem_cons.1 h with rfl | h
    · omega
    · have := cnt_mem r t h
      omega
theorem slice_to (W : World) (g n cap k : Nat) (h1 : k ≤ n) (h2 : n ≤ cap) : (Instr.slice 23 (.slice (some ⟨g, 0, none⟩) n cap) none (some (.int .i64 (k : Int))) none).run Try.prog W = .ok (.slice (some ⟨g, 0, none⟩) k cap) W := by
  rw [run_slice_h (P := Try.prog) W 23 (some ⟨g, 0, none⟩) n cap Try.underlying23 .i64 k (by omega) (by omega)]
  simp [go_sem, sliced, Result.andThen]
theorem sl_push_marks {W : World} {B : Nat} {v : Value} {Fs : List Ft} (h : Sl W B 25 9 ftC v Fs) (b : Nat) (hb : Blk W b 25 ([mkFt, mkFt].flatMap ftC).toArray) (hl : Fs.length + 2 ≤ 1000000) (hbase : B ≤ W.heap.size) :
    ∃ g cap W2, (Builtin.append_ #[23, 23] 23 #[v, .slice (some ⟨b, 0, none⟩) 2 2]).run Try.prog W = .ok (.slice (some ⟨g, 0, none⟩) (Fs.length + 2) cap) W2 ∧ Sl W2 B 25 9 ftC (.slice (some ⟨g, 0, none⟩) (Fs.length + 2) cap) (Fs ++ [mkFt, mkFt]) ∧ W.grownBy W2 v.ownBlock ∧ (v.ownBlock = some g ∨ g = W.heap.size) := by
  obtain ⟨i0, hi0, hz0, hz1, hz2⟩ := info_parts infoT
  obtain ⟨v', W2, hrun, hown, hgrow, _, hwh⟩ := run_append_own_at (P := Try.prog) W B 23 23 25 i0 _ 9 112 Try.underlying23 hi0 hz0 hz1 hz2 (by rfl) (by decide) v Fs.length (Fs.flatMap ftC) h ⟨b, 0, none⟩ 2 2 ([mkFt, mkFt].flatMap ftC) rfl
    (fun j u hj => by rw [add_none, Nat.zero_add, hb.cell j]; simpa using hj) (fun u hu => by obtain ⟨a, ha, hu2⟩ := List.mem_flatMap.1 hu; refine ftC_one a ?_ u hu2; simp at ha; subst ha; rfl) (by unfold maxLen; omega) (by omega) hbase
  have hs : Sl W2 B 25 9 ftC v' (Fs ++ [mkFt, mkFt]) := by
    unfold Sl
    rw [List.flatMap_append, List.length_append]
    exact hown
  rcases hs.form with ⟨_, h0⟩ | ⟨g, cap, hv, _⟩
  · simp at h0
  · rw [List.length_append] at hv
    subst hv
    refine ⟨g, cap, W2, hrun, hs, hgrow, ?_⟩
    rcases hwh with q | q
    · exact .inl (by rw [← q]; rfl)
    · exact .inr (by simpa [Value.ownBlock] using q)
theorem cntL_length : ∀ l : List Tm, l.length ≤ cntL l
  | [] => Nat.zero_le _
  | t :: r => by
    rw [cntL, List.length_cons]
    have := cntL_length r
    have := cnt_pos t
    omega
set_option maxRecDepth 100000 in
set_option maxHeartbeats 2000000 in
theorem lendl_core (B : Nat) (l : List Tm) (v : Value) (w : World) (hl : ItsAt (fun b => b < B) w l v) (hB : B ≤ w.heap.size) (hc : l.length ≤ 4000)
    (ih : ∀ t ∈ l, ∀ (x : Ft) (W : World), TmAt (fun b => b < B) W t x → B ≤ W.heap.size → Calls Try.prog 22 #[ftV x] W (LendR B t x W)) :
    Calls Try.prog 38 #[v] w (LendLR B l v w) := by
  obtain ⟨hm1, sa, cap, rfl⟩ := hl.form
  cases sa with
  | none =>
    have h0 : l = [] := by
      rcases l with _ | ⟨t, r⟩
      · rfl
      · obtain ⟨b, o, h, _⟩ := hl.get (by simp)
        cases h
    subst h0
    clear ih
    have he : ∀ W : World, (binOp .eql 23 (.slice none 0 cap) (.slice none 0 0)).run Try.prog W = .ok (.bool true) W := fun _ => rfl
    go_enter Try.func38, Try.ntmps38
    go_wp2_with fail
    go_ret
    exact ⟨Below.refl _ _, _, rfl, .inl ⟨rfl, ⟨_, rfl⟩, rfl⟩⟩
  | some a =>
    obtain ⟨Xs, hs1, hs2, hs3⟩ := hl
    have hxl := hs3.length
    have HS1 := Lib.hid hs1
    have HS2 := Lib.hid hs2
    have HS3 := Lib.hid hs3
    have HXL := Lib.hid hxl
    have HB := Lib.hid hB
    have IH := Lib.hid ih
    obtain ⟨n, hn⟩ : ∃ n, n = l.length := ⟨_, rfl⟩
    have HN := Lib.hid hn
    rw [← hn] at HS1 HS2 hm1 ⊢ hc
    clear hs1 hs2 hs3 hxl hB ih hn
    have hw2 : IntKind.i64.wrap ((n : Int) + 2) = ((n + 2 : Nat) : Int) := by rw [IntKind.wrap_i64]; omega
    obtain ⟨i0, hi0, hz0, hz1, hz2⟩ := info_parts infoT
    obtain ⟨v0, hmk, hown, hgr⟩ := run_make_own (P := Try.prog) w w.heap.size 23 25 i0 _ 9 Try.underlying23 hi0 hz0 hz1 .i64 .i64 (n + 2) (by rw [hz2]; omega) (by unfold maxLen; omega) (Nat.le_refl _)
    have SL_0 : Hid (Sl v0 w.heap.size 25 9 ftC (.slice (some ⟨w.heap.size, 0, none⟩) 0 (n + 2)) []) := Lib.hid hown
    have B_0 : Hid (Below w.heap.size w v0) := Lib.hid ⟨hgr.os, hgr.tape, hgr.output, hgr.size, fun j hj => hgr.block j hj (by simp)⟩
    clear hown hgr hi0 hz0 hz1 hz2
    rw [show ((n + 2 : Nat) : Int) = (n : Int) + 2 by omega] at hmk
    have he : ∀ W : World, (binOp .eql 23 (.slice (some a) n cap) (.slice none 0 0)).run Try.prog W = .ok (.bool false) W := fun _ => rfl
    go_enter Try.func38, Try.ntmps38
    go_wp2_with fail
    clear hmk he
    go_loopw [3, 4] (fun v i wr => ∃ (k : Nat) (vv : Value) (Ys : List Ft), k ≤ n ∧ i = .int .i64 k ∧ vv = v ∧ Hid (Ys.length = k) ∧ Hid (Below w.heap.size w wr) ∧ Hid (Sl wr w.heap.size 25 9 ftC vv Ys) ∧ Hid (PairsAt (fun c => (c < B ∨ w.heap.size ≤ c) ∧ vv.ownBlock ≠ some c) wr (l.take k) Ys (Xs.take k))) (fun _ i _ => n - (intOf i).toNat)
    case atStart => exact ⟨0, _, [], Nat.zero_le _, rfl, rfl, Lib.hid rfl, B_0, SL_0, Lib.hid (by rw [List.take_zero, List.take_zero]; unfold PairsAt; exact ⟨rfl, rfl⟩)⟩
    case round =>
      obtain ⟨k, vv, Ys, hk, rfl, rfl, HY, HO, HSL, HTS⟩ := hrel
      clear SL_0 B_0
      have hvform : ∃ so co, vv = .slice so k co := by
        rcases HSL.out.form with ⟨h1, h2⟩ | ⟨g, co, h1, _⟩
        · exact ⟨_, _, by rw [h1, ← HY.out, h2]; rfl⟩
        · exact ⟨_, _, by rw [h1, HY.out]⟩
      obtain ⟨so, co, rfl⟩ := hvform
      by_cases hlt : k < n
      · have hkx : k < Xs.length := by rw [HXL.out, ← HN.out]; exact hlt
        have hkl : k < l.length := by rw [← HN.out]; exact hlt
        have hs1 : SlAt w 9 ftC (.slice (some a) n cap) Xs := HS1.out
        rw [show n = Xs.length from by rw [HXL.out, ← HN.out]] at hs1
        obtain ⟨b, o, hab, hb, hcx⟩ := hs1.get (by omega)
        obtain rfl : a = ⟨b, o, none⟩ := by cases hab; rfl
        have hxat := HS3.out.get k hkl hkx
        obtain ⟨t, ht⟩ : ∃ t, t = l[k] := ⟨_, rfl⟩
        obtain ⟨x, hx⟩ : ∃ x, x = Xs[k] := ⟨_, rfl⟩
        rw [← ht, ← hx] at hxat
        have hcxk := hcx k
        obtain ⟨p0, p1, p2, p3, p4, p5, p6, p7, p8⟩ := cells9 (W := wr) (b := b) (p := o + k * 9) (x := x) (fun j hj => by rw [hx, ← hcx k j hkx hj]; exact HO.out.cell (p := ⟨b, _, none⟩) hb)
        have A1 : TmAt (fun b => b < B) wr t x := hxat.below HO.out (fun q h _ => by have := HB.out; omega)
        have C := Lib.hid (IH.out t (by rw [ht]; exact List.getElem_mem hkl) x wr A1 (by have := HB.out; have := HO.out.size; omega))
        have HTK := Lib.hid (show l.take (k + 1) = l.take k ++ [t] ∧ Xs.take (k + 1) = Xs.take k ++ [x] from ⟨by rw [ht, List.take_succ_eq_append_getElem hkl], by rw [hx, List.take_succ_eq_append_getElem hkx]⟩)
        clear hs1 hab hcx hcxk hxat ht hx A1
        unfold ftV at C
        go_wp2_with fail
        refine C.out.mono ?_
        rintro e w1 ⟨b1, y, rfl, py⟩
        clear p0 p1 p2 p3 p4 p5 p6 p7 p8 C
        obtain ⟨⟨sy, cy, vy⟩, _⟩ := py.its.2.2.form
        obtain ⟨yf, yv⟩ := y
        dsimp only at vy
        subst vy
        unfold ftV
        have hlt0 : ∀ g0, (Value.slice so k co).ownBlock = some g0 → w.heap.size ≤ g0 ∧ g0 < wr.heap.size := fun g0 hg0 => HSL.out.lt g0 hg0
        have SL1 : Sl w1 w.heap.size 25 9 ftC (.slice so k co) Ys := HSL.out.below b1 (fun g hg => (hlt0 g hg).2)
        have TS1 := HTS.out.map b1.size (fun b _ hl => b1.block b hl) (fun _ h _ => h)
        have SL2 := SL1.only (bs := []) (Only.alloc [] w1 (.cells #[.int .i64 yf.k, .int .i64 yf.n, .int .i64 yf.g, .string yf.nm, .string yf.fn, .int .i64 yf.ar, .slice sy t.l.length cy, .string yf.bs, .int .i64 yf.bt] 25)) (fun g hg hm => by cases hm)
        have BK : Blk (w1.alloc (.cells #[.int .i64 yf.k, .int .i64 yf.n, .int .i64 yf.g, .string yf.nm, .string yf.fn, .int .i64 yf.ar, .slice sy t.l.length cy, .string yf.bs, .int .i64 yf.bt] 25)) w1.heap.size 25 (ftC ⟨yf, .slice sy t.l.length cy⟩).toArray := Blk.new w1 25 _
        have hB1 := HO.out.size
        have hB2 := b1.size
        have hwsz : w.heap.size ≤ (w1.alloc (.cells #[.int .i64 yf.k, .int .i64 yf.n, .int .i64 yf.g, .string yf.nm, .string yf.fn, .int .i64 yf.ar, .slice sy t.l.length cy, .string yf.bs, .int .i64 yf.bt] 25)).heap.size := by simp; omega
        obtain ⟨g, cap2, W2, hrun, sl2, hgrow, hwh⟩ := sl_push_term SL2 ⟨yf, .slice sy t.l.length cy⟩ rfl w1.heap.size BK (by have := HY.out; omega) hwsz
        have hal : ∀ b, b < w1.heap.size → (w1.alloc (.cells #[.int .i64 yf.k, .int .i64 yf.n, .int .i64 yf.g, .string yf.nm, .string yf.fn, .int .i64 yf.ar, .slice sy t.l.length cy, .string yf.bs, .int .i64 yf.bt] 25)).heap[b]? = w1.heap[b]? := fun b hb => Below.heap_alloc _ _ _ hb
        have hasz : (w1.alloc (.cells #[.int .i64 yf.k, .int .i64 yf.n, .int .i64 yf.g, .string yf.nm, .string yf.fn, .int .i64 yf.ar, .slice sy t.l.length cy, .string yf.bs, .int .i64 yf.bt] 25)).heap.size = w1.heap.size + 1 := by simp
        have hkeep : ∀ b, b < w1.heap.size → (Value.slice so k co).ownBlock ≠ some b → W2.heap[b]? = w1.heap[b]? := fun b hb hne => (hgrow.block b (by omega) (fun e => hne e.symm)).trans (hal b hb)
        have hszW : w1.heap.size ≤ W2.heap.size := by have := hgrow.size; omega
        have hgne : ∀ b, b < w1.heap.size → (Value.slice so k co).ownBlock ≠ some b → g ≠ b := fun b hb hne e => by
          rcases hwh with q | q
          · exact hne (by rw [q, e])
          · omega
        have hpb : ∀ b, (b < B ∨ wr.heap.size ≤ b) → (Value.slice so k co).ownBlock ≠ some b := fun b h e => by
          have := hlt0 b e
          have := HB.out
          omega
        have HTS2 : Hid (PairsAt (fun c => (c < B ∨ w.heap.size ≤ c) ∧ (Value.slice (some ⟨g, 0, none⟩) (Ys.length + 1) cap2).ownBlock ≠ some c) W2 (l.take (k + 1)) (Ys ++ [⟨yf, .slice sy t.l.length cy⟩]) (Xs.take (k + 1))) := Lib.hid (by
          rw [HTK.out.1, HTK.out.2]
          refine PairsAt.snoc (TS1.map hszW (fun b hb hl => hkeep b hl hb.2) (fun b hb hl => ⟨hb.1, ?_⟩)) (py.map hszW (fun b hb hl => hkeep b hl (hpb b hb)) (fun b hb hl => ⟨by omega, ?_⟩))
          · intro e
            exact hgne b hl hb.2 (by simpa [Value.ownBlock] using e)
          · intro e
            exact hgne b hl (hpb b hb) (by simpa [Value.ownBlock] using e))
        have HSL2 := Lib.hid sl2
        have HO2 : Hid (Below w.heap.size w W2) := Lib.hid ((HO.out.trans (b1.mono hB1)).trans ⟨hgrow.os, hgrow.tape, hgrow.output, by omega, fun j hj => hkeep j (by omega) (fun e => by have := (hlt0 j e).1; omega)⟩)
        have HRN := Lib.hid hrun
        clear b1 py SL1 TS1 SL2 BK hwsz sl2 hgrow hwh hal hasz hkeep hszW hgne hrun HSL HTS HO hlt0 hB1 hB2 hpb HTK
        go_wp2_with (at_builtin; refine wpList_append_run rfl _ _ 23 23 rfl rfl rfl HRN.out ?_)
        go_wp2_with fail
        go_roundw
        case rel => exact ⟨k + 1, _, Ys ++ [⟨yf, .slice sy t.l.length cy⟩], by omega, by go_num, rfl, Lib.hid (by rw [List.length_append, HY.out]; rfl), HO2, HSL2, HTS2⟩
        case measure => simp [intOf]; omega
      · obtain rfl : k = n := by omega
        have TS : Hid (PairsAt (fun c => (c < B ∨ w.heap.size ≤ c) ∧ (Value.slice so k co).ownBlock ≠ some c) wr l Ys Xs) := Lib.hid (by
          have h := HTS.out
          rw [List.take_of_length_le (by rw [← HN.out]; exact Nat.le_refl _), List.take_of_length_le (by rw [HXL.out, ← HN.out]; exact Nat.le_refl _)] at h
          exact h)
        clear HTS hlt
        go_wp2_with fail
        refine (mark_any wr).mono ?_
        rintro e w1 ⟨rfl, b1⟩
        have SL1 := Lib.hid (HSL.out.below b1 (fun g hg => (HSL.out.lt g hg).2))
        have TS1 := Lib.hid (TS.out.map b1.size (fun b _ hl => b1.block b hl) (fun _ h _ => h))
        have HO1 := Lib.hid (HO.out.trans (b1.mono HO.out.size))
        clear b1 HSL TS HO
        go_wp2_with fail
        refine (mark_any w1).mono ?_
        rintro e w2 ⟨rfl, b1⟩
        have SL2 := SL1.out.below b1 (fun g hg => (SL1.out.lt g hg).2)
        have TS2 := TS1.out.map b1.size (fun b _ hl => b1.block b hl) (fun _ h _ => h)
        have HO2 := HO1.out.trans (b1.mono HO1.out.size)
        clear b1 SL1 TS1 HO1
        have hlt0 : ∀ g0, (Value.slice so k co).ownBlock = some g0 → w.heap.size ≤ g0 ∧ g0 < w2.heap.size := fun g0 hg0 => SL2.lt g0 hg0
        have SL3 := SL2.only (bs := []) (Only.alloc [] w2 (.cells #[.int .i64 (-7), .int .i64 4711, .int .i64 0, .string ⟨#[115, 112, 97, 114, 101]⟩, .string ⟨#[]⟩, .int .i64 0, .slice none 0 0, .string ⟨#[]⟩, .int .i64 0, .int .i64 (-7), .int .i64 4711, .int .i64 0, .string ⟨#[115, 112, 97, 114, 101]⟩, .string ⟨#[]⟩, .int .i64 0, .slice none 0 0, .string ⟨#[]⟩, .int .i64 0] 25)) (fun g hg hm => by cases hm)
        have BK : Blk (w2.alloc (.cells #[.int .i64 (-7), .int .i64 4711, .int .i64 0, .string ⟨#[115, 112, 97, 114, 101]⟩, .string ⟨#[]⟩, .int .i64 0, .slice none 0 0, .string ⟨#[]⟩, .int .i64 0, .int .i64 (-7), .int .i64 4711, .int .i64 0, .string ⟨#[115, 112, 97, 114, 101]⟩, .string ⟨#[]⟩, .int .i64 0, .slice none 0 0, .string ⟨#[]⟩, .int .i64 0] 25)) w2.heap.size 25 ([mkFt, mkFt].flatMap ftC).toArray := Blk.new w2 25 _
        have hB1 := HO2.size
        obtain ⟨g, cap2, W3, hrun, sl3, hgrow, hwh⟩ := sl_push_marks SL3 w2.heap.size BK (by have := HY.out; omega) (by simp; omega)
        have hal : ∀ b, b < w2.heap.size → (w2.alloc (.cells #[.int .i64 (-7), .int .i64 4711, .int .i64 0, .string ⟨#[115, 112, 97, 114, 101]⟩, .string ⟨#[]⟩, .int .i64 0, .slice none 0 0, .string ⟨#[]⟩, .int .i64 0, .int .i64 (-7), .int .i64 4711, .int .i64 0, .string ⟨#[115, 112, 97, 114, 101]⟩, .string ⟨#[]⟩, .int .i64 0, .slice none 0 0, .string ⟨#[]⟩, .int .i64 0] 25)).heap[b]? = w2.heap[b]? := fun b hb => Below.heap_alloc _ _ _ hb
        have hkeep : ∀ b, b < w2.heap.size → (Value.slice so k co).ownBlock ≠ some b → W3.heap[b]? = w2.heap[b]? := fun b hb hne => (hgrow.block b (by simp; omega) (fun e => hne e.symm)).trans (hal b hb)
        have hszW : w2.heap.size ≤ W3.heap.size := by have := hgrow.size; simp at this; omega
        rw [HY.out] at hrun sl3
        obtain ⟨hg1, hg2, hg3, hg4⟩ : w.heap.size ≤ g ∧ g < W3.heap.size ∧ k + 2 ≤ cap2 ∧ cap2 ≤ maxLen := by
          rcases sl3.form with ⟨_, h0⟩ | ⟨g', c2, h1, h2, h3, h4, h5, _⟩
          · simp at h0
          · rw [List.length_append, HY.out] at h1 h4
            cases h1
            exact ⟨h2, h3, h4, h5⟩
        have hsl : ∀ W, (Instr.slice 23 (.slice (some ⟨g, 0, none⟩) (k + 2) cap2) none (some (.int .i64 k)) none).run Try.prog W = .ok (.slice (some ⟨g, 0, none⟩) k cap2) W := fun W => slice_to W g (k + 2) cap2 k (by omega) (by omega)
        have HF : Hid (LendLR B l (.slice (some a) k cap) w (.returned (.slice (some ⟨g, 0, none⟩) k cap2)) W3) := Lib.hid (by
          refine ⟨HO2.trans ⟨hgrow.os, hgrow.tape, hgrow.output, by omega, fun j hj => hkeep j (by omega) (fun e => by have := (hlt0 j e).1; omega)⟩, _, rfl, .inr ⟨a, cap, g, cap2, Ys, Xs, by rw [HN.out], by rw [HN.out], by rw [← HN.out]; omega, by unfold maxLen at hg4; omega, .inr hg1, hg2, ?_, ?_, ?_, ?_⟩⟩
          · rw [← HN.out]
            exact sl3.at (fun _ => rfl)
          · exact slat_same HS1.out (by omega) (fun b o n' c' e hn => (hkeep b (by have := slat_lt HS1.out b o n' c' e hn; omega) (fun e2 => by have := (hlt0 b e2).1; have := slat_lt HS1.out b o n' c' e hn; omega)).trans (HO2.block b (slat_lt HS1.out b o n' c' e hn)))
          · exact fun b o n' c' e hn => .inl (HS2.out b o n' c' e hn)
          · exact TS2.map hszW (fun b hb hl => hkeep b hl hb.2) (fun b hb _ => hb.1))
        have HRN := Lib.hid hrun
        clear TS2 SL2 SL3 BK hB1 hrun sl3 hgrow hwh hal hkeep hszW hlt0 HO2 hg1 hg2 hg3 hg4
        go_wp2_with (at_builtin; refine wpList_append_run rfl _ _ 23 23 rfl rfl rfl HRN.out ?_)
        go_wp2_with fail
        go_ret
        exact HF.out
theorem lend_any : ∀ (t : Tm) (B : Nat) (x : Ft) (w : World), cnt t ≤ 4000 → TmAt (fun b => b < B) w t x → B ≤ w.heap.size → Calls Try.prog 22 #[ftV x] w (LendR B t x w) := by
  intro t
  induction t using Tm.ind with
  | h f l ih =>
    intro B x w hc hx hB
    obtain ⟨e1, i1⟩ := hx.its
    obtain ⟨_, sa, cap, v1⟩ := i1.form
    rw [cnt] at hc
    have hl := cntL_length l
    refine lend_flat B (.mk f l) x w e1 sa cap v1 hB (Lib.hid fun W bW => lendl_core B l x.v W (i1.below bW (fun b h _ => by omega)) (by have := bW.size; omega) (by omega) (fun t ht x W' h1 h2 => ih t ht B x W' (by have := cnt_mem l t ht; omega) h1 h2))
end Go.Proofs.Ytcpdmlnodhokmaa
