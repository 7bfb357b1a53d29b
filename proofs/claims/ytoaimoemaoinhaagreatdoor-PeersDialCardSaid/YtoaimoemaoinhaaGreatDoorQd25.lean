/- PeersX: a part of the proof. No condition beyond the premises of each theorem. -/
import Derived.Test.YtoaimoemaoinhaaGreatDoorQd24
import Derived.Defers
import Derived.Recover
namespace Go.Proofs.YtoaimoemaoinhaaGreatDoor
open Go.RowKit Go.Rt Go.Rw
def zeroC : Array Value := #[.int .i64 0, .int .i64 0, .int .i64 0, .string ⟨#[]⟩, .string ⟨#[]⟩, .int .i64 0, .slice none 0 0, .string ⟨#[]⟩, .int .i64 0]
set_option maxRecDepth 100000 in
set_option maxHeartbeats 2000000 in
theorem catch_idle (p q r : Value) (w : World) :
    CallsD Tryz.prog 122 #[p, q, r] .returning w fun e u' w' => e = .returned (.tuple #[]) ∧ u' = .returning ∧ w' = w := by
  refine callsD_of_wpS Tryz.func122 rfl fun c₀ cs hu => ?_
  apply wpS_seq
  apply wpS_region
  simp [wpOpsS, go_sem, recoverD, hu, Tryz.ntmps122, Exit.thenS]
  refine wpS_of_wp ?_
  go_wp2_with fail
  cases c₀
  simp_all [bodyPostS, results, Tryz.results122]
set_option maxRecDepth 100000 in
set_option maxHeartbeats 2000000 in
theorem catch_panicking {B bt bn be : Nat} {cs : Array Value} {n e0 : Value} {w : World} (ht : Blk w bt 48 cs) (hz : cs.size = 9) (hn : Blk w bn 3 #[n]) (he : Blk w be 35 #[e0]) (h1 : bt ≠ bn) (h2 : bt ≠ be) (h3 : bn ≠ be) (hB : B ≤ bt ∧ B ≤ bn ∧ B ≤ be) (hBw : B ≤ w.heap.size) :
    CallsD Tryz.prog 122 #[.pointer (some ⟨bt, 0, none⟩), .pointer (some ⟨bn, 0, none⟩), .pointer (some ⟨be, 0, none⟩)] (.panicking refusal) w fun e u' w' =>
      e = .returned (.tuple #[]) ∧ u' = .panicking [{ v := .iface 192 (.agg #[]), recovered := true }] ∧ Blk w' bt 48 zeroC ∧ Blk w' bn 3 #[.int .i64 0] ∧ Blk w' be 35 #[.int .i64 6] ∧ Below B w w' := by
  refine callsD_of_wpS Tryz.func122 rfl fun c₀ cs hu => ?_
  apply wpS_seq
  apply wpS_region
  simp [wpOpsS, go_sem, recoverD, hu, refusal, Tryz.ntmps122, Exit.thenS]
  refine wpS_of_wp ?_
  change Code.wp Tryz.prog _ _ { tmps := #[.pointer (some ⟨bt, 0, none⟩), .pointer (some ⟨bn, 0, none⟩), .pointer (some ⟨be, 0, none⟩), .iface 192 (.agg #[]), undef, undef, .iface 192 (.agg #[]), undef, undef, undef, undef, undef, undef, undef, undef, undef, undef, undef], defers := [] } w
  have hta : ∀ W, (Instr.typeAssert (.iface 192 (.agg #[])) 20 192 true).run Tryz.prog W = .ok (.tuple #[.agg #[], .bool true]) W := fun _ => by kernel_rfl
  have HT := Lib.hid (ht.alloc (.cells #[] 192))
  have HN := Lib.hid (hn.alloc (.cells #[] 192))
  have HE := Lib.hid (he.alloc (.cells #[] 192))
  have HBB := Lib.hid ((Below.refl B w).alloc hBw (.cells #[] 192))
  have hbt := ht.lt
  have hbn := hn.lt
  have hbe := he.lt
  clear ht hn he
  go_upto_region 5 with fail
  generalize w.alloc (.cells #[] 192) = v0 at HT HN HE HBB ⊢
  have HSZ : Hid (w.heap.size ≤ v0.heap.size) := Lib.hid HBB.out.size
  go_wp2_with (first
    | (refine wpList_store_blk rfl 48 _ _ rfl rfl bt zeroC _ 48 rfl rfl HT.out (by rw [hz]; rfl) info25 (by simp [zeroC, Value.oneCell']) ?_
       intro v1 b1 o1
       have HN1 := Lib.hid (HN.out.only o1 (by simp; omega))
       have HE1 := Lib.hid (HE.out.only o1 (by simp; omega))
       have HT1 := Lib.hid b1
       have HB1 := Lib.hid (HBB.out.trans (o1.below (by simp; omega) (by have := HSZ.out; omega)))
       clear b1 o1 HT HN HE HBB)
    | (refine wpList_store_fld rfl 3 _ _ rfl rfl bn 0 _ 3 (.int .i64 0) rfl rfl HN1.out (Nat.le_of_ble_eq_true rfl) (by kernel_rfl) rfl ?_
       intro v2 e2
       have HN2 := Lib.hid (show Blk v2 bn 3 #[.int .i64 0] by rw [e2]; exact HN1.out.set_ 0 _)
       have HT2 := Lib.hid (show Blk v2 bt 48 zeroC by rw [e2]; exact HT1.out.far h1 _)
       have HE2 := Lib.hid (show Blk v2 be 35 #[e0] by rw [e2]; exact HE1.out.far h3.symm _)
       have HB2 := Lib.hid (show Below B w v2 by rw [e2]; exact HB1.out.setCell hB.2.1 _)
       clear e2 HN1 HT1 HE1 HB1)
    | (refine wpList_store_fld rfl 35 _ _ rfl rfl be 0 _ 35 (.int .i64 6) rfl rfl HE2.out (Nat.le_of_ble_eq_true rfl) (by kernel_rfl) rfl ?_
       intro v3 e3
       have HE3 := Lib.hid (show Blk v3 be 35 #[.int .i64 6] by rw [e3]; exact HE2.out.set_ 0 _)
       have HT3 := Lib.hid (show Blk v3 bt 48 zeroC by rw [e3]; exact HT2.out.far h2 _)
       have HN3 := Lib.hid (show Blk v3 bn 3 #[.int .i64 0] by rw [e3]; exact HN2.out.far h3 _)
       have HB3 := Lib.hid (show Below B w v3 by rw [e3]; exact HB2.out.setCell hB.2.2 _)
       clear e3 HN2 HT2 HE2 HB2))
  exact ⟨rfl, _, rfl, .tuple #[], by simp [results, Tryz.results122], rfl, rfl, HT3.out, HN3.out, HE3.out, HB3.out⟩
theorem results_t3 {bt bn be : Nat} {cs : Array Value} {n e0 : Value} {w : World} (tmps : Array Value) (ht : Blk w bt 48 cs) (hz : cs.size = 9) (hn : Blk w bn 3 #[n]) (he : Blk w be 35 #[e0])
    (h2 : tmps.getD 2 undef = .pointer (some ⟨bt, 0, none⟩)) (h3 : tmps.getD 3 undef = .pointer (some ⟨bn, 0, none⟩)) (h4 : tmps.getD 4 undef = .pointer (some ⟨be, 0, none⟩)) :
    (results Tryz.f63 tmps).run Tryz.prog w = .ok (.tuple #[.agg cs, n, e0]) w := by
  have q1 := run_loadVar_mid (P := Tryz.prog) w bt 0 48 cs.toList _ ht.range Tryz.underlying48 rfl (by rw [Array.length_toList, hz]; exact info25)
  have c2 : w.cell? ⟨bn, 0, none⟩ = some n := hn.cell 0
  have c3 : w.cell? ⟨be, 0, none⟩ = some e0 := he.cell 0
  have q2 : (loadVar 3 ⟨bn, 0, none⟩).run Tryz.prog w = .ok n w := by simp [go_sem, c2]
  have q3 : (loadVar 35 ⟨be, 0, none⟩).run Tryz.prog w = .ok e0 w := by simp [go_sem, c3]
  rw [Array.getD_eq_getD_getElem?] at h2 h3 h4
  simp only [Array.toArray_toList] at q1
  simp [results, Tryz.results63, h2, h3, h4, asAddr, q1, q2, q3]
theorem door_panic {B bt bn be : Nat} {cs : Array Value} {n e0 : Value} {w : World} {R : Ending → World → Prop} (tmps : Array Value) (ht : Blk w bt 48 cs) (hz : cs.size = 9) (hn : Blk w bn 3 #[n]) (he : Blk w be 35 #[e0])
    (h1 : bt ≠ bn) (h2 : bt ≠ be) (h3 : bn ≠ be) (hB : B ≤ bt ∧ B ≤ bn ∧ B ≤ be) (hBw : B ≤ w.heap.size)
    (g2 : tmps.getD 2 undef = .pointer (some ⟨bt, 0, none⟩)) (g3 : tmps.getD 3 undef = .pointer (some ⟨bn, 0, none⟩)) (g4 : tmps.getD 4 undef = .pointer (some ⟨be, 0, none⟩))
    (hR : ∀ w', Below B w w' → R (.returned (.tuple #[.agg zeroC, .int .i64 0, .int .i64 6])) w') :
    Leaves Tryz.prog Tryz.f63 tmps R [{ target := .fn (.func 122) #[.pointer (some ⟨bt, 0, none⟩), .pointer (some ⟨bn, 0, none⟩), .pointer (some ⟨be, 0, none⟩)], args := #[] }] (.panicking refusal) w := by
  refine leaves_cons (f := 122) (args := #[.pointer (some ⟨bt, 0, none⟩), .pointer (some ⟨bn, 0, none⟩), .pointer (some ⟨be, 0, none⟩)]) (by simp) (by simp [go_sem]) ?_
  refine (catch_panicking ht hz hn he h1 h2 h3 hB hBw).mono ?_
  rintro e u' w' ⟨rfl, rfl, ht', hn', he', hb⟩
  exact ⟨_, results_t3 tmps ht' rfl hn' he' g2 g3 g4, hR w' hb⟩
theorem door_idle {bt bn be : Nat} {cs : Array Value} {n e0 : Value} {w : World} {R : Ending → World → Prop} (tmps : Array Value) (ht : Blk w bt 48 cs) (hz : cs.size = 9) (hn : Blk w bn 3 #[n]) (he : Blk w be 35 #[e0])
    (g2 : tmps.getD 2 undef = .pointer (some ⟨bt, 0, none⟩)) (g3 : tmps.getD 3 undef = .pointer (some ⟨bn, 0, none⟩)) (g4 : tmps.getD 4 undef = .pointer (some ⟨be, 0, none⟩))
    (hR : R (.returned (.tuple #[.agg cs, n, e0])) w) :
    Leaves Tryz.prog Tryz.f63 tmps R [{ target := .fn (.func 122) #[.pointer (some ⟨bt, 0, none⟩), .pointer (some ⟨bn, 0, none⟩), .pointer (some ⟨be, 0, none⟩)], args := #[] }] .returning w := by
  refine leaves_cons (f := 122) (args := #[.pointer (some ⟨bt, 0, none⟩), .pointer (some ⟨bn, 0, none⟩), .pointer (some ⟨be, 0, none⟩)]) (by simp) (by simp [go_sem]) ?_
  refine (catch_idle _ _ _ _).mono ?_
  rintro e u' w' ⟨rfl, rfl, rfl⟩
  exact ⟨_, results_t3 tmps ht hz hn he g2 g3 g4, hR⟩
def zeroT : Tm := .mk zeroFl []
def takeF (s : ByteArray) : Tm × Nat × Int := match termP 2000 0 s.data.toList with
  | none => (zeroT, 0, 6)
  | some (t, _, r) => if validB t then (t, s.size - r.length, 0) else (zeroT, 0, 6)
def TakeR (f : Tm × Nat × Int) (w : World) (e : Ending) (w' : World) : Prop :=
  Below w.heap.size w w' ∧ ∃ x, e = .returned (.tuple #[ftV x, .int .i64 (f.2.1 : Nat), .int .i64 f.2.2]) ∧ TmAt (fun c => w.heap.size ≤ c) w' f.1 x
theorem step_store_fld {P : Program} {ops : Array Oper} {o : Oper} {a : Act} {w : World} {K : Act → World → Prop} {Q : Exit → Act → World → Prop} {E : Prop}
    (hgd : o.guard = none) (ty : TypeId) (x y : Operand) (ho : o.op = .store ty x y) (hdst : o.dst = none)
    (b i : Nat) (cs : Array Value) (t : TypeId) (v : Value) (hx : a.eval x = .pointer (some ⟨b, i, none⟩)) (hy : a.eval y = v)
    (hc : Blk w b t cs) (hi : i < cs.size) (hu : (P.info? ty).map (·.size) = some 1) (h1 : v.oneCell' = true)
    (hK : ∀ w', w' = w.setCell ⟨b, i, none⟩ v → K a w') :
    if Region.wanted o (yielded ops a.tmps) = true then Oper.wp P o a w K Q else E := by
  have hw : Region.wanted o (yielded ops a.tmps) = true := by simp [Region.wanted, hgd]
  rw [if_pos hw]
  unfold Oper.wp execOp
  simp only [ho, hx, hy, Instr.storeAt, Instr.sureAddr, Sem.run_bind, Sem.run_pure, Result.andThen_ok, run_storeVar_fld w b i ty t v cs hc hi hu h1]
  simp only [Oper.upon]
  rw [put_none _ _ hdst]
  exact hK _ rfl
theorem leaves_congr {P : Program} {fn : Func} {R : Ending → World → Prop} {tmps tmps' : Array Value} (h : results fn tmps = results fn tmps') : ∀ (ds : List Deferred) (u : FrameMode) (w : World), Leaves P fn tmps R ds u w → Leaves P fn tmps' R ds u w
  | [], .returning, w, ⟨v, h1, h2⟩ => ⟨v, h ▸ h1, h2⟩
  | [], .panicking _, _, h1 => h1
  | d :: ds, u, w, ⟨hu, fv, cap, f, args, ht, hi, hc⟩ => ⟨hu, fv, cap, f, args, ht, hi, hc.mono (fun e u' w' he => by
      cases e with
      | returned v => exact leaves_congr h ds _ _ he
      | panicked c => exact leaves_congr h ds _ _ he
      | outgrown => exact he)⟩
theorem hq15 {K : Act → World → Prop} {R : Ending → World → Prop} (n : Nat) (hn : 4 < n) (c : List PanicEntry) (a : Act) (w : World) (v : Value) (h : Exit.then K (bodyPostD Tryz.prog Tryz.f63 R) (.panic c) (a.put (some n) v) w) : Exit.then K (bodyPostD Tryz.prog Tryz.f63 R) (.panic c) a w := by
  have h' : Leaves Tryz.prog Tryz.f63 (a.tmps.setIfInBounds n v) R a.defers (.panicking c) w := h
  refine leaves_congr ?_ _ _ _ h'
  have g : ∀ k, k ≠ n → (a.tmps.setIfInBounds n v)[k]? = a.tmps[k]? := fun k hk => Array.getElem?_setIfInBounds_ne (Ne.symm hk)
  simp [results, Tryz.results63, g 2 (by omega), g 3 (by omega), g 4 (by omega)]
theorem zeroT_at (S : Nat → Prop) (w : World) : TmAt S w zeroT ⟨zeroFl, .slice none 0 0⟩ := TmAt.of rfl (ItsAt.nil none 0)
theorem takeR_zero {w w' : World} (h : Below w.heap.size w w') : TakeR (zeroT, 0, 6) w (.returned (.tuple #[.agg zeroC, .int .i64 0, .int .i64 6])) w' := ⟨h, ⟨zeroFl, .slice none 0 0⟩, rfl, zeroT_at _ _⟩
theorem fit_cnt_bulk {t : Tm} (hc : cnt t ≤ 2000) : bulk t ≤ 4611686018427387904 := by have := bulk_cnt t; omega
set_option maxRecDepth 100000 in
set_option maxHeartbeats 2000000 in
theorem take_any' (s : ByteArray) (hs : s.size ≤ 200000) (w : World) : Calls Tryz.prog 63 #[.string s] w (TakeR (takeF s) w) := by
  have hmf : ∀ (fn : Fn) (first cap : Array Value) (w : World), (Instr.makeFunc fn first cap).run Tryz.prog w = .ok (.func fn first cap) w := fun _ _ _ _ => rfl
  obtain ⟨F, hF⟩ : ∃ F, F = takeF s := ⟨_, rfl⟩
  rw [← hF]
  unfold takeF at hF
  have HF := Lib.hid hF
  clear hF
  have BT := (Blk.new w 48 zeroC).alloc (.cells #[.int .i64 0] 3) |>.alloc (.cells #[.int .i64 0] 35)
  have BN := (Blk.new (w.alloc (.cells zeroC 48)) 3 #[.int .i64 0]).alloc (.cells #[.int .i64 0] 35)
  have BE := Blk.new ((w.alloc (.cells zeroC 48)).alloc (.cells #[.int .i64 0] 3)) 35 #[.int .i64 0]
  have BB := (((Below.refl w.heap.size w).alloc (Nat.le_refl _) (.cells zeroC 48)).alloc (by simp) (.cells #[.int .i64 0] 3)).alloc (by simp; omega) (.cells #[.int .i64 0] 35)
  have SZ : (((w.alloc (.cells zeroC 48)).alloc (.cells #[.int .i64 0] 3)).alloc (.cells #[.int .i64 0] 35)).heap.size = w.heap.size + 3 := by simp
  simp only [World.size_alloc] at BN BE
  have BT := Lib.hid BT
  have BN := Lib.hid BN
  have BE := Lib.hid BE
  have BB := Lib.hid BB
  have SZ := Lib.hid SZ
  unfold zeroC at BT BN BE BB SZ
  go_enter_defers Tryz.func63, Tryz.ntmps63
  go_upto_region 2 with fail
  generalize ((w.alloc (.cells #[.int .i64 0, .int .i64 0, .int .i64 0, .string ⟨#[]⟩, .string ⟨#[]⟩, .int .i64 0, .slice none 0 0, .string ⟨#[]⟩, .int .i64 0] 48)).alloc (.cells #[.int .i64 0] 3)).alloc (.cells #[.int .i64 0] 35) = v0 at BT BN BE BB SZ ⊢
  have BT1 := Lib.hid (BT.out.alloc (.cells #[.string s, .int .i64 0, .int .i64 0] 196))
  have BN1 := Lib.hid (BN.out.alloc (.cells #[.string s, .int .i64 0, .int .i64 0] 196))
  have BE1 := Lib.hid (BE.out.alloc (.cells #[.string s, .int .i64 0, .int .i64 0] 196))
  have BB1 := Lib.hid (BB.out.alloc (by have := SZ.out; omega) (.cells #[.string s, .int .i64 0, .int .i64 0] 196))
  have RD1 := Lib.hid (Blk.new v0 196 #[.string s, .int .i64 0, .int .i64 0])
  clear BT BN BE BB
  go_upto_region 3 with fail
  generalize v0.alloc (.cells #[.string s, .int .i64 0, .int .i64 0] 196) = v1 at BT1 BN1 BE1 BB1 RD1 ⊢
  have RDL : Hid (v0.heap.size < v1.heap.size) := Lib.hid RD1.out.lt
  obtain ⟨rb, hrb⟩ : ∃ rb, rb = v0.heap.size := ⟨_, rfl⟩
  rw [← hrb] at SZ RD1 RDL ⊢
  clear hrb
  have R1 : Hid (Rd s rb s.data.toList 0 v1) := Lib.hid ⟨0, by simp, by simp, RD1.out⟩
  have HC := Lib.hid (rterm_any hs 2000 0 s.data.toList v1 R1.out (by omega) (by omega))
  have FT := Lib.hid (fun t p r (h : termP 2000 0 s.data.toList = some (t, p, r)) => term_snd 2000 _ _ _ _ _ h)
  clear RD1 R1
  cases hP : termP 2000 0 s.data.toList with
  | none =>
    rw [hP] at HC HF
    obtain rfl : F = (zeroT, 0, 6) := HF.out
    clear HF hP FT
    go_wp2_with fail
    refine HC.out.mono ?_
    rintro e v2 ⟨o2, rfl⟩
    have BT2 := Lib.hid (BT1.out.only o2 (by have := SZ.out; simp; omega))
    have BN2 := Lib.hid (BN1.out.only o2 (by have := SZ.out; simp; omega))
    have BE2 := Lib.hid (BE1.out.only o2 (by have := SZ.out; simp; omega))
    have BB2 := Lib.hid (BB1.out.trans (o2.below (by have := SZ.out; simp; omega) BB1.out.size))
    clear o2
    go_wp2_with fail
    refine door_panic (B := w.heap.size) _ BT2.out rfl BN2.out BE2.out (by omega) (by omega) (by omega) (by omega) BB2.out.size rfl rfl rfl (fun w' b => takeR_zero (BB2.out.trans b))
  | some q =>
    obtain ⟨t, p, r⟩ := q
    have ft := FT.out t p r hP
    have hfit := ft.2.2 (by simpa using hs)
    rw [hP] at HC HF
    dsimp only at HF
    have HFT := Lib.hid hfit
    have hpc := ft.2.1
    clear hP FT ft hfit
    go_wp2_with fail
    refine HC.out.mono ?_
    rintro e v2 ⟨o2, x, rfl, tx, rx, hp1, hp2⟩
    dsimp only at tx rx hp1 hp2
    obtain ⟨_, sx, cx, vx⟩ := tx.its.2.form
    obtain ⟨xf, xv⟩ := x
    dsimp only at vx
    subst vx
    have hcb := fit_cnt_bulk (t := t) (by omega)
    have HS1 : Hid (w.heap.size + 3 < v1.heap.size) := Lib.hid (by have := RDL.out; have := SZ.out; omega)
    have BT2 := Lib.hid (BT1.out.only o2 (by have := SZ.out; simp; omega))
    have BN2 := Lib.hid (BN1.out.only o2 (by have := SZ.out; simp; omega))
    have BE2 := Lib.hid (BE1.out.only o2 (by have := SZ.out; simp; omega))
    have BB2 := Lib.hid (BB1.out.trans (o2.below (by have := SZ.out; simp; omega) BB1.out.size))
    have T2 := Lib.hid tx
    have R2 := Lib.hid rx
    have HCB := Lib.hid hcb
    obtain ⟨li, hli⟩ : ∃ li, li = t.l.length := ⟨_, rfl⟩
    rw [← hli] at T2 ⊢
    clear o2 tx rx hp1 hp2 hpc HC hcb BT1 BN1 BE1 BB1 hli
    unfold ftV
    go_wp2_with (first
      | (refine wpList_store_blk rfl 48 _ _ rfl rfl w.heap.size #[.int .i64 xf.k, .int .i64 xf.n, .int .i64 xf.g, .string xf.nm, .string xf.fn, .int .i64 xf.ar, .slice sx li cx, .string xf.bs, .int .i64 xf.bt] _ 48 rfl rfl BT2.out rfl info25 (by simp [Value.oneCell']) ?_
         intro v3 b3 o3
         have BT3 := Lib.hid b3
         have BN3 := Lib.hid (BN2.out.only o3 (by simp))
         have BE3 := Lib.hid (BE2.out.only o3 (by simp; omega))
         have BB3 := Lib.hid (BB2.out.trans (o3.below (by simp) BB2.out.size))
         have R3 := Lib.hid (R2.out.only' o3 (by have := SZ.out; omega))
         have T3 := Lib.hid (T2.out.only o3 (fun b hb _ => by have := HS1.out; simp; omega))
         clear b3 o3 BT2 BN2 BE2 BB2 R2 T2)
      | (refine wpList_load_blk rfl 48 _ rfl w.heap.size rfl _ 48 _ BT3.out Tryz.underlying48 rfl info25 ?_))
    have HV := Lib.hid (valid_any _ t ⟨xf, .slice sx li cx⟩ v3 T3.out HFT.out HCB.out)
    obtain ⟨V, hV⟩ : ∃ V, V = validB t := ⟨_, rfl⟩
    rw [← hV] at HV HF
    clear hV
    unfold ftV at HV
    refine HV.out.mono ?_
    rintro e v4 ⟨rfl, b4⟩
    have BT4 := Lib.hid (BT3.out.below b4 BT3.out.lt)
    have BN4 := Lib.hid (BN3.out.below b4 BN3.out.lt)
    have BE4 := Lib.hid (BE3.out.below b4 BE3.out.lt)
    have BB4 := Lib.hid (BB3.out.trans (b4.mono BB3.out.size))
    have R4 := Lib.hid (R3.out.below b4)
    have T4 := Lib.hid (T3.out.below b4 (fun _ _ h => h))
    clear b4 HV BT3 BN3 BE3 BB3 R3 T3
    cases V with
    | false =>
      obtain rfl : F = (zeroT, 0, 6) := HF.out
      clear HF
      go_wp2_with fail
      refine (demand_any _ false _).mono ?_
      rintro e vy ⟨rfl, rfl⟩
      go_wp2_with fail
      exact door_panic (B := w.heap.size) _ BT4.out rfl BN4.out BE4.out (by omega) (by omega) (by omega) (by omega) BB4.out.size rfl rfl rfl (fun w' b => takeR_zero (BB4.out.trans b))
    | true =>
      obtain rfl : F = (t, s.size - r.length, 0) := HF.out
      clear HF
      go_wp2_with fail
      refine (demand_any _ true _).mono ?_
      rintro e vy ⟨rfl, rfl⟩
      obtain ⟨a4, ha4, _, hb4⟩ := R4.out
      have HA4 : Hid (s.size - r.length = a4) := Lib.hid (by omega)
      have RB4 := Lib.hid hb4
      have HS0 : Hid (∀ W, Blk W w.heap.size 48 #[.int .i64 xf.k, .int .i64 xf.n, .int .i64 xf.g, .string xf.nm, .string xf.fn, .int .i64 xf.ar, .slice sx li cx, .string xf.bs, .int .i64 xf.bt] → Blk W rb 196 #[.string s, .int .i64 (a4 : Int), .int .i64 (p : Int)] → (W.cell? ⟨w.heap.size, 0, none⟩ = some (.int .i64 xf.k) ∧ W.cell? ⟨w.heap.size, 1, none⟩ = some (.int .i64 xf.n) ∧ W.cell? ⟨w.heap.size, 2, none⟩ = some (.int .i64 xf.g) ∧ W.cell? ⟨w.heap.size, 3, none⟩ = some (.string xf.nm) ∧ W.cell? ⟨w.heap.size, 4, none⟩ = some (.string xf.fn) ∧ W.cell? ⟨w.heap.size, 5, none⟩ = some (.int .i64 xf.ar) ∧ W.cell? ⟨w.heap.size, 6, none⟩ = some (.slice sx li cx) ∧ W.cell? ⟨w.heap.size, 7, none⟩ = some (.string xf.bs) ∧ W.cell? ⟨w.heap.size, 8, none⟩ = some (.int .i64 xf.bt) ∧ W.cell? ⟨rb, 1, none⟩ = some (.int .i64 (a4 : Int)))) := Lib.hid (fun W h g => ⟨h.cell 0, h.cell 1, h.cell 2, h.cell 3, h.cell 4, h.cell 5, h.cell 6, h.cell 7, h.cell 8, g.cell 1⟩)
      clear ha4 hb4 R4
      go_upto_region 5 with fail
      refine wp_region_held_drew (S := (fun w' => w'.cell? ⟨w.heap.size, 0, none⟩ = some (.int .i64 xf.k) ∧ w'.cell? ⟨w.heap.size, 1, none⟩ = some (.int .i64 xf.n) ∧ w'.cell? ⟨w.heap.size, 2, none⟩ = some (.int .i64 xf.g) ∧ w'.cell? ⟨w.heap.size, 3, none⟩ = some (.string xf.nm) ∧ w'.cell? ⟨w.heap.size, 4, none⟩ = some (.string xf.fn) ∧ w'.cell? ⟨w.heap.size, 5, none⟩ = some (.int .i64 xf.ar) ∧ w'.cell? ⟨w.heap.size, 6, none⟩ = some (.slice sx li cx) ∧ w'.cell? ⟨w.heap.size, 7, none⟩ = some (.string xf.bs) ∧ w'.cell? ⟨w.heap.size, 8, none⟩ = some (.int .i64 xf.bt) ∧ w'.cell? ⟨rb, 1, none⟩ = some (.int .i64 (a4 : Int)))) (by kernel_rfl) (HS0.out _ BT4.out.drew RB4.out.drew) (fun hS => ?_)
      refine wpAnyH_take (i := 0) (v := ?_) rfl (by kernel_rfl) (by kernel_rfl) (by kernel_rfl) (fun c a w h => hq15 16 (by decide) c a w _ h) (Or.inl ⟨by rfl, ?_⟩) (by assumption) ?_
      rotate_left
      · intro w hSw
        go_simp
        with_reducible rfl
      change wpAnyH _ _ _ _ _ _ _ (Act.put _ (some 16) _) _
      simp only [Act.put, List.setIfInBounds_toArray, List.set_cons_zero, List.set_cons_succ]
      refine wpAnyH_take (i := 1) (v := ?_) rfl (by kernel_rfl) (by kernel_rfl) (by kernel_rfl) (fun c a w h => hq15 17 (by decide) c a w _ h) (Or.inl ⟨by rfl, ?_⟩) (by assumption) ?_
      rotate_left
      · intro w hSw
        go_simp
        with_reducible rfl
      change wpAnyH _ _ _ _ _ _ _ (Act.put _ (some 17) _) _
      simp only [Act.put, List.setIfInBounds_toArray, List.set_cons_zero, List.set_cons_succ]
      refine wpAnyH_take (i := 2) (v := ?_) rfl (by kernel_rfl) (by kernel_rfl) (by kernel_rfl) (fun c a w h => hq15 18 (by decide) c a w _ h) (Or.inl ⟨by rfl, ?_⟩) (by assumption) ?_
      rotate_left
      · intro w hSw
        go_simp
        with_reducible rfl
      change wpAnyH _ _ _ _ _ _ _ (Act.put _ (some 18) _) _
      simp only [Act.put, List.setIfInBounds_toArray, List.set_cons_zero, List.set_cons_succ]
      refine wpAnyH_take (i := 3) (v := ?_) rfl (by kernel_rfl) (by kernel_rfl) (by kernel_rfl) (fun c a w h => hq15 19 (by decide) c a w _ h) (Or.inl ⟨by rfl, ?_⟩) (by assumption) ?_
      rotate_left
      · intro w hSw
        go_simp
        with_reducible rfl
      change wpAnyH _ _ _ _ _ _ _ (Act.put _ (some 19) _) _
      simp only [Act.put, List.setIfInBounds_toArray, List.set_cons_zero, List.set_cons_succ]
      refine wpAnyH_take (i := 4) (v := ?_) rfl (by kernel_rfl) (by kernel_rfl) (by kernel_rfl) (fun c a w h => hq15 20 (by decide) c a w _ h) (Or.inl ⟨by rfl, ?_⟩) (by assumption) ?_
      rotate_left
      · intro w hSw
        go_simp
        with_reducible rfl
      change wpAnyH _ _ _ _ _ _ _ (Act.put _ (some 20) _) _
      simp only [Act.put, List.setIfInBounds_toArray, List.set_cons_zero, List.set_cons_succ]
      refine wpAnyH_ready (rs := [5]) (by kernel_rfl) (by simp) ?_
      refine AllReadyH.cons rfl (fun K hK => ?_) AllReadyH.nil
      refine step_store_blk rfl 48 _ _ rfl rfl w.heap.size #[.int .i64 xf.k, .int .i64 xf.n, .int .i64 xf.g, .string xf.nm, .string xf.fn, .int .i64 xf.ar, .slice sx li cx, .string xf.bs, .int .i64 xf.bt] #[.int .i64 xf.k, .int .i64 xf.n, .int .i64 xf.g, .string xf.nm, .string xf.fn, .int .i64 xf.ar, .slice sx li cx, .string xf.bs, .int .i64 xf.bt] 48 rfl rfl BT4.out.drew rfl (by kernel_rfl) (by simp [Value.oneCell']) ?_
      intro v5 b5 o5
      have q5 : Only [w.heap.size] v4 v5 := (Only.drew _ _).trans o5
      have BT5 := Lib.hid b5
      have BN5 := Lib.hid (BN4.out.only q5 (by simp))
      have BE5 := Lib.hid (BE4.out.only q5 (by simp; omega))
      have RB5 := Lib.hid (RB4.out.only q5 (by have := SZ.out; simp; omega))
      have BB5 := Lib.hid (BB4.out.trans (q5.below (by simp) BB4.out.size))
      have T5 := Lib.hid ((T4.out.only q5 (fun b hb _ => by have := HS1.out; simp; omega)).mono (S' := fun c => w.heap.size + 3 ≤ c) (fun b hb _ => by have := HS1.out; omega))
      clear b5 o5 q5 BT4 BN4 BE4 BB4 T4 RB4
      refine hK.out _ _ (HS0.out _ BT5.out RB5.out) (fun hS => ?_)
      clear hK K
      try simp only [Act.put, List.setIfInBounds_toArray, List.set_cons_zero, List.set_cons_succ]
      refine wpAnyH_ready (rs := [6]) (by kernel_rfl) (by simp) ?_
      refine AllReadyH.cons rfl (fun K hK => ?_) AllReadyH.nil
      refine step_store_fld rfl 3 _ _ rfl rfl (w.heap.size + 1) 0 _ 3 (.int .i64 (a4 : Int)) rfl rfl BN5.out (Nat.le_of_ble_eq_true rfl) (by kernel_rfl) rfl ?_
      intro v6 e6
      have o6 : Only [w.heap.size + 1] v5 v6 := by rw [e6]; exact Only.setCell _ ⟨w.heap.size + 1, 0, none⟩ _ (by simp)
      have BN6 := Lib.hid (show Blk v6 (w.heap.size + 1) 3 #[.int .i64 (a4 : Int)] by rw [e6]; exact BN5.out.set_ 0 _)
      have BT6 := Lib.hid (BT5.out.only o6 (by simp))
      have BE6 := Lib.hid (BE5.out.only o6 (by simp))
      have RB6 := Lib.hid (RB5.out.only o6 (by have := SZ.out; simp; omega))
      have BB6 := Lib.hid (BB5.out.trans (o6.below (by simp) BB5.out.size))
      have T6 := Lib.hid (T5.out.only o6 (fun b hb _ => by simp; omega))
      clear e6 o6 BT5 BN5 BE5 BB5 T5 RB5
      refine hK.out _ _ (HS0.out _ BT6.out RB6.out) (fun hS => ?_)
      clear hK K
      try simp only [Act.put, List.setIfInBounds_toArray, List.set_cons_zero, List.set_cons_succ]
      refine wpAnyH_ready (rs := [7]) (by kernel_rfl) (by simp) ?_
      refine AllReadyH.cons rfl (fun K hK => ?_) AllReadyH.nil
      refine step_store_fld rfl 35 _ _ rfl rfl (w.heap.size + 1 + 1) 0 _ 35 (.int .i64 0) rfl rfl BE6.out (Nat.le_of_ble_eq_true rfl) (by kernel_rfl) rfl ?_
      intro v7 e7
      have o7 : Only [w.heap.size + 1 + 1] v6 v7 := by rw [e7]; exact Only.setCell _ ⟨w.heap.size + 1 + 1, 0, none⟩ _ (by simp)
      have BE7 := Lib.hid (show Blk v7 (w.heap.size + 1 + 1) 35 #[.int .i64 0] by rw [e7]; exact BE6.out.set_ 0 _)
      have BT7 := Lib.hid (BT6.out.only o7 (by simp; omega))
      have BN7 := Lib.hid (BN6.out.only o7 (by simp))
      have RB7 := Lib.hid (RB6.out.only o7 (by have := SZ.out; simp; omega))
      have BB7 := Lib.hid (BB6.out.trans (o7.below (by simp; omega) BB6.out.size))
      have T7 := Lib.hid (T6.out.only o7 (fun b hb _ => by simp; omega))
      clear e7 o7 BT6 BN6 BE6 BB6 T6 RB6
      refine hK.out _ _ (HS0.out _ BT7.out RB7.out) (fun hS => ?_)
      clear hK K
      try simp only [Act.put, List.setIfInBounds_toArray, List.set_cons_zero, List.set_cons_succ]
      refine wpAnyH_done (by kernel_rfl) ?_ _
      go_wp2_with fail
      refine door_idle _ BT7.out rfl BN7.out BE7.out rfl rfl rfl ?_
      exact ⟨BB7.out, ⟨xf, .slice sx li cx⟩, by rw [show (t, s.size - r.length, (0 : Int)).2.1 = a4 from HA4.out]; rfl, T7.out.mono (fun b hb _ => by show w.heap.size ≤ b; omega)⟩
theorem validB_iff {t : Tm} (h : validB t = true) : formed t = true ∧ sizeT t ≤ 2000 := by
 unfold validB at h
 rw [Bool.and_eq_true, decide_eq_true_eq] at h
 exact h
theorem size_list (s : ByteArray) : s.size = s.data.toList.length := by simp
theorem takeF_code {t : Tm} (hv : validB t = true) (hf : fitT t) {s : ByteArray} {m : List UInt8} (hs : s.data.toList = codeT t ++ m) : takeF s = (t, (codeT t).length, 0) := by
 obtain ⟨h1, h2⟩ := validB_iff hv
 have hc := cnt_size t h1
 unfold takeF
 rw [hs, term_back t h1 hf 2000 0 m (by omega) (by omega)]
 dsimp only
 rw [if_pos hv, size_list, hs, List.length_append]
 congr 2
 omega
theorem takeF_snd {s : ByteArray} (hs : s.size ≤ 200000) (h : (takeF s).2.2 = 0) : validB (takeF s).1 = true ∧ fitT (takeF s).1 ∧ (∃ m, s.data.toList = codeT (takeF s).1 ++ m) ∧ (takeF s).2.1 = (codeT (takeF s).1).length := by
 unfold takeF at h ⊢
 cases hq : termP 2000 0 s.data.toList with
 | none => rw [hq] at h; cases h
 | some q =>
  obtain ⟨t, p, r⟩ := q
  rw [hq] at h
  dsimp only at h ⊢
  cases hv : validB t with
  | false => rw [hv] at h; cases h
  | true =>
   rw [if_pos rfl]
   obtain ⟨h1, _, h3⟩ := term_snd 2000 _ _ _ _ _ hq
   refine ⟨hv, h3 (by rw [← size_list]; exact hs), ⟨r, h1.symm⟩, ?_⟩
   have := congrArg List.length h1
   rw [List.length_append, ← size_list] at this
   dsimp only
   omega
theorem putS_valid {t : Tm} (h : validB t = true) : putS t = ⟨(131 :: codeT t).toArray⟩ := by unfold putS; rw [if_pos h]
theorem putS_list {t : Tm} (h : validB t = true) : (putS t).data.toList = 131 :: codeT t := by rw [putS_valid h]
theorem bytes_list {a b : ByteArray} (h : a.data.toList = b.data.toList) : a = b := ByteArray.ext (Array.toList_inj.1 h)
theorem head_short {f : Fl} {l : List Tm} (h : Shape f l) (hf : fitF f) (n : Nat) (hn : n = l.length) : (headB f n).length ≤ 80 * sizeO f l.length := by
 subst hn
 cases h with
 | int n =>
  have := intB_len n hf.2.2.1
  show (intB n).length ≤ 80 * sizeO _ _
  have : sizeO ⟨1, n, 0, noB, noB, 0, noB, 0⟩ ([] : List Tm).length = 1 := rfl
  omega
 | atom s h =>
  have := nameF_size s h
  have e : (headB ⟨2, 0, 0, s, noB, 0, noB, 0⟩ ([] : List Tm).length).length = s.size + 2 := atomB_len s
  have : sizeO ⟨2, 0, 0, s, noB, 0, noB, 0⟩ ([] : List Tm).length = 1 := rfl
  omega
 | ref n g s hn hg h =>
  have := nameF_size s h
  have e : (headB ⟨3, n, g, s, noB, 0, noB, 0⟩ ([] : List Tm).length).length = s.size + 13 := by simp [headB, atomB_len, num4_len]
  have : sizeO ⟨3, n, g, s, noB, 0, noB, 0⟩ ([] : List Tm).length = 1 := rfl
  omega
 | clo n g s a l hn hg h ha hl =>
  have := nameF_size s h
  have e : (headB ⟨4, n, g, s, noB, a, noB, 0⟩ l.length).length = s.size + 11 := by simp [headB, atomB_len, num4_len, num2_len]; omega
  have : sizeO ⟨4, n, g, s, noB, a, noB, 0⟩ l.length = 1 := rfl
  omega
 | exp s f a h h2 ha =>
  have := nameF_size s h
  have := nameF_size f h2
  have := intB_len a (by omega)
  have e : (headB ⟨5, 0, 0, s, f, a, noB, 0⟩ ([] : List Tm).length).length = 1 + (s.size + 2) + (f.size + 2) + (intB a).length := by simp [headB, atomB_len]; omega
  have : sizeO ⟨5, 0, 0, s, f, a, noB, 0⟩ ([] : List Tm).length = 1 := rfl
  omega
 | pid n g s hn hg h =>
  have := nameF_size s h
  have e : (headB ⟨6, n, g, s, noB, 0, noB, 0⟩ ([] : List Tm).length).length = s.size + 15 := by simp [headB, atomB_len, num4_len]
  have : sizeO ⟨6, n, g, s, noB, 0, noB, 0⟩ ([] : List Tm).length = 1 := rfl
  omega
 | tup l hl =>
  have e : (headB ⟨7, 0, 0, noB, noB, 0, noB, 0⟩ l.length).length = 2 := by simp [headB]
  have : sizeO ⟨7, 0, 0, noB, noB, 0, noB, 0⟩ l.length = 1 := rfl
  omega
 | nil => decide
 | list l hl =>
  have e : (headB ⟨9, 0, 0, noB, noB, 0, noB, 0⟩ l.length).length = 5 := by simp [headB, num4_len]
  have : sizeO ⟨9, 0, 0, noB, noB, 0, noB, 0⟩ l.length = l.length - 1 := rfl
  omega
 | bits s bt h =>
  unfold bitsB at h
  rw [Bool.and_eq_true, Bool.and_eq_true, decide_eq_true_eq] at h
  obtain ⟨hb, hs, _⟩ := h
  have hb := inB_iff hb
  have e : (headB ⟨10, 0, 0, noB, noB, 0, s, bt⟩ ([] : List Tm).length).length ≤ s.size + 6 := by
   unfold headB
   simp
   split <;> simp [num4_len] <;> omega
  have : sizeO ⟨10, 0, 0, noB, noB, 0, s, bt⟩ ([] : List Tm).length = 1 + (bt.toNat + 63) / 64 := rfl
  omega
mutual
theorem code_short : ∀ t, formed t = true → fitT t → (codeT t).length ≤ 80 * sizeT t
 | .mk f l, h, hf => by
  rw [formed, Bool.and_eq_true] at h
  rw [fitT] at hf
  have h1 := head_short (shape h.1) hf.1 l.length rfl
  have h2 := codeL_short l h.2 hf.2
  rw [codeT, sizeT, List.length_append]
  omega
theorem codeL_short : ∀ l, formedL l = true → fitL l → (codeL l).length ≤ 80 * sizeL l
 | [], _, _ => by simp [codeL]
 | t :: r, h, hf => by
  rw [formedL, Bool.and_eq_true] at h
  rw [fitL] at hf
  have h1 := code_short t h.1 hf.1
  have h2 := codeL_short r h.2 hf.2
  rw [codeL, sizeL, List.length_append]
  omega
end
theorem putS_short {t : Tm} (hv : validB t = true) (hf : fitT t) : (putS t).size = (codeT t).length + 1 ∧ (putS t).size ≤ 160001 := by
 obtain ⟨h1, h2⟩ := validB_iff hv
 have := code_short t h1 hf
 have e : (putS t).size = (codeT t).length + 1 := by rw [size_list, putS_list hv, List.length_cons]
 omega
end Go.Proofs.YtoaimoemaoinhaaGreatDoor
