/- The reference's reader.term. The reference's Decode. The walk of PeersDecodes. PeersDecodes: the closing text. -/
import Derived.Test.YtemlogadbopffaaGreatPdec
import Derived.Test.YtemlogadbopffaaGreatRk1
import Derived.Test.YtemlogadbopffaaGreatDlaw
import Derived.Test.YtemlogadbopffaaGreatRc1
import Derived.Test.YtemlogadbopffaaGreatSh1
import Derived.Test.YtemlogadbopffaaGreatRows
import Derived.Below
import Derived.Carry
import Derived.ProofKit
import Derived.OpenShut
import Derived.ShutString
import Derived.Lib.SmallJoins
namespace Go.Proofs.YtemlogadbopffaaGreat
open Go.RowKit Go.Rt Go.Rw

theorem only_drop {w v v2 : World} {L : List Nat} {m : Nat} (h : Only L w v) (k : Only [m] v v2) (hm : w.heap.size ≤ m) : Only L w v2 :=
 ((h.mono (cs := m :: L) (fun _ hb => .inl (List.mem_cons_of_mem _ hb))).trans (k.mono (fun _ hb => .inl (by rw [List.mem_singleton.1 hb]; exact List.mem_cons_self)))).mono (fun b hb => by
  rcases List.mem_cons.1 hb with h | h
  ·
   exact .inr (by omega)
  ·
   exact .inl h)
set_option maxRecDepth 100000 in
set_option maxHeartbeats 8000000 in
theorem rterm29 (has bad : Bool) (REST : ByteArray) (rb : Nat) (w : World) (hR : Blk w rb 69 #[.string REST, .bool bad]) (hrs : REST.size ≤ 200000) :
  Calls Tryz.prog 29 #[.pointer (some ⟨rb, 0, none⟩), .bool has] w fun e w' => ∃ y, e = .returned (ftV y) ∧ TmAt (fun c => w.heap.size ≤ c) w' (rdT has (REST, bad)).1 y ∧ Blk w' rb 69 #[.string (rdT has (REST, bad)).2.1, .bool (rdT has (REST, bad)).2.2] ∧ Only [rb] w w' := by
 have hRl := hR.lt
 have R := Lib.hid (hR.alloc (.cells #[.int .i64 0, .int .i64 0, .int .i64 0, .string ⟨#[]⟩, .string ⟨#[]⟩, .int .i64 0, .slice none 0 0, .string ⟨#[]⟩, .int .i64 0] 24))
 have Y := Lib.hid (Blk.new w 24 #[.int .i64 0, .int .i64 0, .int .i64 0, .string ⟨#[]⟩, .string ⟨#[]⟩, .int .i64 0, .slice none 0 0, .string ⟨#[]⟩, .int .i64 0])
 have O := Lib.hid (Only.alloc [rb] w (.cells #[.int .i64 0, .int .i64 0, .int .i64 0, .string ⟨#[]⟩, .string ⟨#[]⟩, .int .i64 0, .slice none 0 0, .string ⟨#[]⟩, .int .i64 0] 24))
 obtain ⟨m, hm⟩ : ∃ q, q = w.heap.size := ⟨_, rfl⟩
 have HM := Lib.hid hm
 have hrm : rb < m := by omega
 rw [← hm] at Y ⊢
 obtain ⟨F, hF⟩ : ∃ q, q = rdT has (REST, bad) := ⟨_, rfl⟩
 rw [← hF]
 have HF := Lib.hid hF
 clear hF hR hRl
 by_cases hno : has = false ∨ bad = true
 ·
  obtain rfl : F = (zerT, (REST, bad)) := by rw [HF.out]; unfold rdT; rw [if_pos hno]
  clear HF
  have c1 := R.out.cell 1
  simp only [List.getElem?_toArray, List.getElem?_cons_zero, List.getElem?_cons_succ] at c1
  rcases hno with rfl | rfl
  all_goals
   try cases has
   all_goals
    go_enter Tryz.func29, Tryz.ntmps29
    go_upto_region 1 with fail
    rw [← hm]
    generalize w.alloc (.cells #[.int .i64 0, .int .i64 0, .int .i64 0, .string ⟨#[]⟩, .string ⟨#[]⟩, .int .i64 0, .slice none 0 0, .string ⟨#[]⟩, .int .i64 0] 24) = w1 at R Y O c1 ⊢
    clear hm
    go_wp2_with (refine wpList_store_blk rfl 24 _ _ rfl rfl m #[.int .i64 0, .int .i64 0, .int .i64 0, .string ⟨#[]⟩, .string ⟨#[]⟩, .int .i64 0, .slice none 0 0, .string ⟨#[]⟩, .int .i64 0] _ 24 rfl rfl Y.out rfl info25 (by simp [Value.oneCell']) ?_; intro vz bz oz)
    exact bodyPost_ret (results_blk (a := 4) rfl _ _ m _ _ rfl bz Tryz.underlying24 rfl info25) rfl ⟨zerX, rfl, zer_at _ _, R.out.only oz (by simp; omega), only_drop O.out oz (by have := HM.out; omega)⟩
 ·
  obtain rfl : has = true := by
   cases has with
   | true => rfl
   | false => exact absurd (.inl rfl) hno
  obtain rfl : bad = false := by
   cases bad with
   | false => rfl
   | true => exact absurd (.inr rfl) hno
  clear hno
  have HF2 : Hid (F = if (takeF REST).2.2 ≠ 0 then (zerT, (REST, true)) else ((takeF REST).1, (REST.extract (takeF REST).2.1 REST.size, false))) := Lib.hid (by rw [HF.out]; unfold rdT; rw [if_neg (by rintro (h | h) <;> cases h)])
  clear HF
  have c0 := R.out.cell 0
  have c1 := R.out.cell 1
  simp only [List.getElem?_toArray, List.getElem?_cons_zero, List.getElem?_cons_succ] at c0 c1
  go_enter Tryz.func29, Tryz.ntmps29
  go_upto_region 1 with fail
  rw [← hm]
  generalize w.alloc (.cells #[.int .i64 0, .int .i64 0, .int .i64 0, .string ⟨#[]⟩, .string ⟨#[]⟩, .int .i64 0, .slice none 0 0, .string ⟨#[]⟩, .int .i64 0] 24) = w1 at R Y O c0 c1 ⊢
  clear hm
  have CT := Lib.hid (fun (W : World) => rtk_any REST hrs W)
  rw [rtakeF_eq REST hrs] at CT
  have HER := takeF_err REST
  have HSN := Lib.hid (fun h => takeF_snd (s := REST) hrs h)
  obtain ⟨ft, hft⟩ : ∃ q, q = takeF REST := ⟨_, rfl⟩
  rw [← hft] at CT HER HSN HF2
  obtain ⟨t, n, er⟩ := ft
  dsimp only at HER HF2
  clear hft
  go_wp2_with fail
  refine (CT.out w1).mono ?_
  rintro e v2 ⟨b2, y, rfl, ty⟩
  dsimp only at ty
  obtain ⟨_, sy, cy, vy⟩ := ty.its.2.form
  obtain ⟨yf, yv⟩ := y
  dsimp only at vy
  subst vy
  obtain ⟨ly, hly⟩ : ∃ l, l = t.l.length := ⟨_, rfl⟩
  rw [← hly] at ty ⊢
  clear hly
  replace O := Lib.hid (O.out.trans (Only.of_below b2))
  have T3 := Lib.hid (ty.mono (S' := fun c => m < c) (fun b hb _ => Nat.lt_of_lt_of_le Y.out.lt hb))
  replace R := Lib.hid (R.out.below b2 R.out.lt)
  replace Y := Lib.hid (Y.out.below b2 Y.out.lt)
  clear b2 ty CT c0 c1
  unfold ftV
  dsimp only
  obtain ⟨q, hq⟩ : ∃ q, q = v2.heap.size := ⟨_, rfl⟩
  have HQ := Lib.hid hq
  have hqm : m < q := by rw [hq]; exact Y.out.lt
  have X0 := Lib.hid (Blk.new v2 24 #[.int .i64 0, .int .i64 0, .int .i64 0, .string ⟨#[]⟩, .string ⟨#[]⟩, .int .i64 0, .slice none 0 0, .string ⟨#[]⟩, .int .i64 0])
  have O0 := Lib.hid (Only.alloc [q] v2 (.cells #[.int .i64 0, .int .i64 0, .int .i64 0, .string ⟨#[]⟩, .string ⟨#[]⟩, .int .i64 0, .slice none 0 0, .string ⟨#[]⟩, .int .i64 0] 24))
  rw [← hq] at X0
  go_upto_region 4 with (rw [← hq]; refine wpList_store_blk rfl 24 _ _ rfl rfl q #[.int .i64 yf.k, .int .i64 yf.n, .int .i64 yf.g, .string yf.nm, .string yf.fn, .int .i64 yf.ar, .slice sy ly cy, .string yf.bs, .int .i64 yf.bt] _ 24 rfl rfl X0.out rfl info25 (by simp [Value.oneCell']) ?_; intro v3 b3 o3)
  have BV := Lib.hid (show Below q v2 v3 from (O0.out.trans o3).below (by simp) (by rw [HQ.out]; exact Nat.le_refl _))
  replace R := Lib.hid (R.out.below BV.out (by omega))
  replace Y := Lib.hid (Y.out.below BV.out hqm)
  replace O := Lib.hid (O.out.trans (Only.of_below (by rw [← HQ.out]; exact BV.out)))
  replace T3 := Lib.hid (T3.out.below BV.out (fun b _ h => by rw [HQ.out]; exact h))
  have P2 := Lib.hid b3
  clear BV b3 o3 O0 X0 hq
  rcases HER with rfl | rfl
  ·
   obtain rfl : F = (t, (REST.extract n REST.size, false)) := HF2.out
   obtain ⟨hv, hft, hmm, hn⟩ := HSN.out rfl
   try dsimp only at hv hft hmm hn
   have hnl : n ≤ REST.size := by
    obtain ⟨mm, hmm⟩ := hmm
    rw [hn, size_list, hmm, List.length_append]
    omega
   clear hv hft hmm hn HSN HF2
   have c0 := R.out.cell 0
   have c1 := R.out.cell 1
   simp only [List.getElem?_toArray, List.getElem?_cons_zero, List.getElem?_cons_succ] at c0 c1
   go_upto_region 8 with (refine wpList_store_fld rfl 9 _ _ rfl rfl rb 0 _ 69 (.string (REST.extract n REST.size)) rfl rfl R.out (Nat.le_of_ble_eq_true rfl) (by kernel_rfl) rfl ?_; intro v4 ev)
   have o4 : Only [rb] v3 v4 := by rw [ev]; exact Only.setCell v3 ⟨rb, 0, none⟩ _ (by simp)
   have R4 := Lib.hid (show Blk v4 rb 69 #[.string (REST.extract n REST.size), .bool false] by rw [ev]; exact R.out.set_ 0 _)
   have Y4 := Lib.hid (Y.out.only o4 (by simp; omega))
   have P4 := Lib.hid (P2.out.only o4 (by simp; omega))
   have T4 := Lib.hid (T3.out.only o4 (fun b hb _ => by simp; omega))
   have O4 := Lib.hid (O.out.trans o4)
   clear ev o4 R Y P2 T3 O c0 c1
   go_wp2_with (first | refine wpList_load_blk rfl 24 _ rfl q rfl _ 24 _ P4.out Tryz.underlying24 rfl info25 ?_ | (refine wpList_store_blk rfl 24 _ _ rfl rfl m #[.int .i64 yf.k, .int .i64 yf.n, .int .i64 yf.g, .string yf.nm, .string yf.fn, .int .i64 yf.ar, .slice sy ly cy, .string yf.bs, .int .i64 yf.bt] _ 24 rfl rfl Y4.out rfl info25 (by simp [Value.oneCell']) ?_; intro vz bz oz))
   exact bodyPost_ret (results_blk (a := 4) rfl _ _ m _ _ rfl bz Tryz.underlying24 rfl info25) rfl ⟨⟨yf, .slice sy ly cy⟩, rfl, (T4.out.only oz (fun b hb _ => by simp; omega)).mono (fun b hb _ => by have := HM.out; omega), R4.out.only oz (by simp; omega), only_drop O4.out oz (by have := HM.out; omega)⟩
  ·
   obtain rfl : F = (zerT, (REST, true)) := HF2.out
   clear HF2 HSN T3 P2
   have c0 := R.out.cell 0
   have c1 := R.out.cell 1
   simp only [List.getElem?_toArray, List.getElem?_cons_zero, List.getElem?_cons_succ] at c0 c1
   go_upto_region 6 with (refine wpList_store_fld rfl 4 _ _ rfl rfl rb 1 _ 69 (.bool true) rfl rfl R.out (Nat.le_of_ble_eq_true rfl) (by kernel_rfl) rfl ?_; intro v4 ev)
   have o4 : Only [rb] v3 v4 := by rw [ev]; exact Only.setCell v3 ⟨rb, 1, none⟩ _ (by simp)
   have R4 := Lib.hid (show Blk v4 rb 69 #[.string REST, .bool true] by rw [ev]; exact R.out.set_ 1 _)
   have Y4 := Lib.hid (Y.out.only o4 (by simp; omega))
   have O4 := Lib.hid (O.out.trans o4)
   clear ev o4 R Y O c0 c1
   go_wp2_with (refine wpList_store_blk rfl 24 _ _ rfl rfl m #[.int .i64 0, .int .i64 0, .int .i64 0, .string ⟨#[]⟩, .string ⟨#[]⟩, .int .i64 0, .slice none 0 0, .string ⟨#[]⟩, .int .i64 0] _ 24 rfl rfl Y4.out rfl info25 (by simp [Value.oneCell']) ?_; intro vz bz oz)
   exact bodyPost_ret (results_blk (a := 4) rfl _ _ m _ _ rfl bz Tryz.underlying24 rfl info25) rfl ⟨zerX, rfl, zer_at _ _, R4.out.only oz (by simp; omega), only_drop O4.out oz (by have := HM.out; omega)⟩
end Go.Proofs.YtemlogadbopffaaGreat
namespace Go.Proofs.YtemlogadbopffaaGreat
open Go.RowKit Go.Rt Go.Rw

def finR (u : Int) (b : ByteArray) (r : Sg × (ByteArray × Bool)) : Sg × Int :=
 if u = 0 ∨ r.2.2 = true ∨ r.2.1.size ≠ 0 then (zeroSg, 6) else if encE r.1 ≠ 0 ∨ encB r.1 ≠ b then (zeroSg, 6) else (r.1, 0)
theorem decR_fin {b : ByteArray} (hb : b.size ≤ 200000) (h : b.size ≠ 0) (k : Int) (hk : k = (b.data[0]?.getD 0).toNat) : decR b = finR (usesF k) b (rdL (usesF k) (from7 0) { zeroSg with k := k } (b.extract 1 b.size, false)) := by
 unfold decR finR
 rw [← rdecS_eq hb]
 unfold rdecS
 rw [if_neg h, ← hk]
 dsimp only
 show (match (if usesF k = 0 ∨ (rdL (usesF k) (from7 0) { zeroSg with k := k } (b.extract 1 b.size, false)).2.2 = true ∨ (rdL (usesF k) (from7 0) { zeroSg with k := k } (b.extract 1 b.size, false)).2.1.size ≠ 0 then none else if encE (rdL (usesF k) (from7 0) { zeroSg with k := k } (b.extract 1 b.size, false)).1 ≠ 0 ∨ encB (rdL (usesF k) (from7 0) { zeroSg with k := k } (b.extract 1 b.size, false)).1 ≠ b then none else some (rdL (usesF k) (from7 0) { zeroSg with k := k } (b.extract 1 b.size, false)).1 : Option Sg) with | none => (zeroSg, (6 : Int)) | some s => (s, 0)) = _
 generalize rdL (usesF k) (from7 0) { zeroSg with k := k } (b.extract 1 b.size, false) = r
 by_cases h1 : usesF k = 0 ∨ r.2.2 = true ∨ r.2.1.size ≠ 0
 ·
  rw [if_pos h1, if_pos h1]
 ·
  rw [if_neg h1, if_neg h1]
  by_cases h2 : encE r.1 ≠ 0 ∨ encB r.1 ≠ b
  ·
   rw [if_pos h2, if_pos h2]
  ·
   rw [if_neg h2, if_neg h2]
theorem rdT_size (has : Bool) (q : ByteArray × Bool) : (rdT has q).2.1.size ≤ q.1.size := by
 unfold rdT
 split
 ·
  exact Nat.le_refl _
 ·
  split
  ·
   exact Nat.le_refl _
  ·
   show (q.1.extract _ _).size ≤ _
   simp
theorem rdT_ok (has : Bool) (q : ByteArray × Bool) (hq : q.1.size ≤ 200000) : okT (rdT has q).1 := by
 unfold rdT
 split
 ·
  exact ok_zer
 ·
  split
  ·
   exact ok_zer
  ·
   rename_i h
   obtain ⟨hv, hft, _, _⟩ := takeF_snd hq (Decidable.byContradiction h)
   exact ok_of hv hft
theorem field9_3 (k n g : Int) (nm fn : ByteArray) (ar : Int) (v : Value) (bs : ByteArray) (bt : Int) (W : World) : (Instr.field 24 (.agg #[.int .i64 k, .int .i64 n, .int .i64 g, .string nm, .string fn, .int .i64 ar, v, .string bs, .int .i64 bt]) 3).run Tryz.prog W = .ok (.string nm) W := by kernel_rfl
theorem field9_1 (k n g : Int) (nm fn : ByteArray) (ar : Int) (v : Value) (bs : ByteArray) (bt : Int) (W : World) : (Instr.field 24 (.agg #[.int .i64 k, .int .i64 n, .int .i64 g, .string nm, .string fn, .int .i64 ar, v, .string bs, .int .i64 bt]) 1).run Tryz.prog W = .ok (.int .i64 n) W := by kernel_rfl
theorem setF_at0 {S : Nat → Prop} {w : World} {s : Sg} {x : Sf} {t : Tm} {y : Ft} (h : SgAt S w s x) (hy : TmAt S w t y) : SgAt S w (setF s t 0) ({ x with a := y }) := ⟨hy, h.tt, h.ref, h.val⟩
theorem setF_at1 {S : Nat → Prop} {w : World} {s : Sg} {x : Sf} {t : Tm} {y : Ft} (h : SgAt S w s x) (hy : TmAt S w t y) : SgAt S w (setF s t 1) ({ x with b := y }) := ⟨h.fr, hy, h.ref, h.val⟩
theorem setF_at2 {S : Nat → Prop} {w : World} {s : Sg} {x : Sf} {t : Tm} {y : Ft} (h : SgAt S w s x) (_ : TmAt S w t y) : SgAt S w (setF s t 2) (x) := ⟨h.fr, h.tt, h.ref, h.val⟩
theorem setF_at3 {S : Nat → Prop} {w : World} {s : Sg} {x : Sf} {t : Tm} {y : Ft} (h : SgAt S w s x) (_ : TmAt S w t y) : SgAt S w (setF s t 3) (x) := ⟨h.fr, h.tt, h.ref, h.val⟩
theorem setF_at4 {S : Nat → Prop} {w : World} {s : Sg} {x : Sf} {t : Tm} {y : Ft} (h : SgAt S w s x) (hy : TmAt S w t y) : SgAt S w (setF s t 4) ({ x with c := y }) := ⟨h.fr, h.tt, hy, h.val⟩
theorem setF_at5 {S : Nat → Prop} {w : World} {s : Sg} {x : Sf} {t : Tm} {y : Ft} (h : SgAt S w s x) (_ : TmAt S w t y) : SgAt S w (setF s t 5) (x) := ⟨h.fr, h.tt, h.ref, h.val⟩
theorem setF_at6 {S : Nat → Prop} {w : World} {s : Sg} {x : Sf} {t : Tm} {y : Ft} (h : SgAt S w s x) (hy : TmAt S w t y) : SgAt S w (setF s t 6) ({ x with d := y }) := ⟨h.fr, h.tt, h.ref, hy⟩
theorem put_fld0 {s : Sg} {x : Sf} {y : Ft} {t : Tm} {w : World} {g : Nat} (h : Blk w g 26 (sgC s x).toArray) : Blk (w.setCells g 1 (ftC y)) g 26 (sgC (setF s t 0) { x with a := y }).toArray := by
 have := heap_setMid g 26 (sgC s x |>.drop 10) (ftC y) (ftC x.a) (sgC s x |>.take 1) w rfl (by
  have e : sgC s x = List.take 1 (sgC s x) ++ ftC x.a ++ List.drop 10 (sgC s x) := rfl
  rw [← e]
  exact h)
 exact this
theorem there_fld0 {s : Sg} {x : Sf} {w : World} {g : Nat} (h : Blk w g 26 (sgC s x).toArray) : w.there g 1 9 := fun j hj => by
 have := h.there (1 + j) (by rw [sgC_size]; omega)
 simpa [Nat.add_comm, Nat.add_left_comm] using this
theorem put_fld1 {s : Sg} {x : Sf} {y : Ft} {t : Tm} {w : World} {g : Nat} (h : Blk w g 26 (sgC s x).toArray) : Blk (w.setCells g 10 (ftC y)) g 26 (sgC (setF s t 1) { x with b := y }).toArray := by
 have := heap_setMid g 26 (sgC s x |>.drop 19) (ftC y) (ftC x.b) (sgC s x |>.take 10) w rfl (by
  have e : sgC s x = List.take 10 (sgC s x) ++ ftC x.b ++ List.drop 19 (sgC s x) := rfl
  rw [← e]
  exact h)
 exact this
theorem there_fld1 {s : Sg} {x : Sf} {w : World} {g : Nat} (h : Blk w g 26 (sgC s x).toArray) : w.there g 10 9 := fun j hj => by
 have := h.there (10 + j) (by rw [sgC_size]; omega)
 simpa [Nat.add_comm, Nat.add_left_comm] using this
theorem put_fld2 {s : Sg} {x : Sf} {y : Fl} {t : Tm} {w : World} {g : Nat} (hy : y = t.f) (h : Blk w g 26 (sgC s x).toArray) : Blk (w.setCell ⟨g, 19, none⟩ (.string y.nm)) g 26 (sgC (setF s t 2) x).toArray := by
 subst hy
 exact h.set_ 19 _
theorem put_fld3 {s : Sg} {x : Sf} {y : Fl} {t : Tm} {w : World} {g : Nat} (hy : y = t.f) (h : Blk w g 26 (sgC s x).toArray) : Blk (w.setCell ⟨g, 20, none⟩ (.string y.nm)) g 26 (sgC (setF s t 3) x).toArray := by
 subst hy
 exact h.set_ 20 _
theorem put_fld4 {s : Sg} {x : Sf} {y : Ft} {t : Tm} {w : World} {g : Nat} (h : Blk w g 26 (sgC s x).toArray) : Blk (w.setCells g 21 (ftC y)) g 26 (sgC (setF s t 4) { x with c := y }).toArray := by
 have := heap_setMid g 26 (sgC s x |>.drop 30) (ftC y) (ftC x.c) (sgC s x |>.take 21) w rfl (by
  have e : sgC s x = List.take 21 (sgC s x) ++ ftC x.c ++ List.drop 30 (sgC s x) := rfl
  rw [← e]
  exact h)
 exact this
theorem there_fld4 {s : Sg} {x : Sf} {w : World} {g : Nat} (h : Blk w g 26 (sgC s x).toArray) : w.there g 21 9 := fun j hj => by
 have := h.there (21 + j) (by rw [sgC_size]; omega)
 simpa [Nat.add_comm, Nat.add_left_comm] using this
theorem put_fld5 {s : Sg} {x : Sf} {y : Fl} {t : Tm} {w : World} {g : Nat} (hy : y = t.f) (h : Blk w g 26 (sgC s x).toArray) : Blk (w.setCell ⟨g, 30, none⟩ (.int .i64 y.n)) g 26 (sgC (setF s t 5) x).toArray := by
 subst hy
 exact h.set_ 30 _
theorem put_fld6 {s : Sg} {x : Sf} {y : Ft} {t : Tm} {w : World} {g : Nat} (h : Blk w g 26 (sgC s x).toArray) : Blk (w.setCells g 31 (ftC y)) g 26 (sgC (setF s t 6) { x with d := y }).toArray := by
 have := heap_setMid g 26 (sgC s x |>.drop 40) (ftC y) (ftC x.d) (sgC s x |>.take 31) w rfl (by
  have e : sgC s x = List.take 31 (sgC s x) ++ ftC x.d ++ List.drop 40 (sgC s x) := rfl
  rw [← e]
  exact h)
 exact this
theorem there_fld6 {s : Sg} {x : Sf} {w : World} {g : Nat} (h : Blk w g 26 (sgC s x).toArray) : w.there g 31 9 := fun j hj => by
 have := h.there (31 + j) (by rw [sgC_size]; omega)
 simpa [Nat.add_comm, Nat.add_left_comm] using this
set_option maxRecDepth 100000 in
set_option maxHeartbeats 8000000 in
theorem rdec11 (b : ByteArray) (hbs : b.size ≤ 200000) (w : World) : Calls Tryz.prog 11 #[.string b] w (DecR (decR b) w) := by
 obtain ⟨DR, hDR⟩ : ∃ q, q = decR b := ⟨_, rfl⟩
 rw [← hDR]
 obtain ⟨m, hm⟩ : ∃ q, q = w.heap.size := ⟨_, rfl⟩
 have HM := Lib.hid hm
 have R := Lib.hid (Blk.new w 26 #[.int .i64 0, .int .i64 0, .int .i64 0, .int .i64 0, .string ⟨#[]⟩, .string ⟨#[]⟩, .int .i64 0, .slice none 0 0, .string ⟨#[]⟩, .int .i64 0, .int .i64 0, .int .i64 0, .int .i64 0, .string ⟨#[]⟩, .string ⟨#[]⟩, .int .i64 0, .slice none 0 0, .string ⟨#[]⟩, .int .i64 0, .string ⟨#[]⟩, .string ⟨#[]⟩, .int .i64 0, .int .i64 0, .int .i64 0, .string ⟨#[]⟩, .string ⟨#[]⟩, .int .i64 0, .slice none 0 0, .string ⟨#[]⟩, .int .i64 0, .int .i64 0, .int .i64 0, .int .i64 0, .int .i64 0, .string ⟨#[]⟩, .string ⟨#[]⟩, .int .i64 0, .slice none 0 0, .string ⟨#[]⟩, .int .i64 0])
 have B := Lib.hid ((Below.refl w.heap.size w).alloc (Nat.le_refl _) (.cells #[.int .i64 0, .int .i64 0, .int .i64 0, .int .i64 0, .string ⟨#[]⟩, .string ⟨#[]⟩, .int .i64 0, .slice none 0 0, .string ⟨#[]⟩, .int .i64 0, .int .i64 0, .int .i64 0, .int .i64 0, .string ⟨#[]⟩, .string ⟨#[]⟩, .int .i64 0, .slice none 0 0, .string ⟨#[]⟩, .int .i64 0, .string ⟨#[]⟩, .string ⟨#[]⟩, .int .i64 0, .int .i64 0, .int .i64 0, .string ⟨#[]⟩, .string ⟨#[]⟩, .int .i64 0, .slice none 0 0, .string ⟨#[]⟩, .int .i64 0, .int .i64 0, .int .i64 0, .int .i64 0, .int .i64 0, .string ⟨#[]⟩, .string ⟨#[]⟩, .int .i64 0, .slice none 0 0, .string ⟨#[]⟩, .int .i64 0] 26))
 rw [← hm] at R B
 have HTR : Hid (∀ W W', Below m w W → Below W.heap.size W W' → Below m w W') := Lib.hid (fun W W' h1 h2 => h1.trans (h2.mono (by have := h1.size; have := HM.out; omega)))
 go_enter Tryz.func11, Tryz.ntmps11
 go_upto_region 1 with fail
 rw [← hm]
 generalize w.alloc (.cells #[.int .i64 0, .int .i64 0, .int .i64 0, .int .i64 0, .string ⟨#[]⟩, .string ⟨#[]⟩, .int .i64 0, .slice none 0 0, .string ⟨#[]⟩, .int .i64 0, .int .i64 0, .int .i64 0, .int .i64 0, .string ⟨#[]⟩, .string ⟨#[]⟩, .int .i64 0, .slice none 0 0, .string ⟨#[]⟩, .int .i64 0, .string ⟨#[]⟩, .string ⟨#[]⟩, .int .i64 0, .int .i64 0, .int .i64 0, .string ⟨#[]⟩, .string ⟨#[]⟩, .int .i64 0, .slice none 0 0, .string ⟨#[]⟩, .int .i64 0, .int .i64 0, .int .i64 0, .int .i64 0, .int .i64 0, .string ⟨#[]⟩, .string ⟨#[]⟩, .int .i64 0, .slice none 0 0, .string ⟨#[]⟩, .int .i64 0] 26) = w1 at R B ⊢
 clear hm
 by_cases h0 : b.size = 0
 ·
  have HDR : Hid (DR = (zeroSg, 6)) := Lib.hid (by rw [hDR]; exact decR_nil h0)
  obtain rfl : b = ⟨#[]⟩ := by
   apply ByteArray.ext
   exact Array.eq_empty_of_size_eq_zero h0
  clear hDR h0 hbs
  go_wp2_with (refine wpList_store_blk rfl 26 _ _ rfl rfl m #[.int .i64 0, .int .i64 0, .int .i64 0, .int .i64 0, .string ⟨#[]⟩, .string ⟨#[]⟩, .int .i64 0, .slice none 0 0, .string ⟨#[]⟩, .int .i64 0, .int .i64 0, .int .i64 0, .int .i64 0, .string ⟨#[]⟩, .string ⟨#[]⟩, .int .i64 0, .slice none 0 0, .string ⟨#[]⟩, .int .i64 0, .string ⟨#[]⟩, .string ⟨#[]⟩, .int .i64 0, .int .i64 0, .int .i64 0, .string ⟨#[]⟩, .string ⟨#[]⟩, .int .i64 0, .slice none 0 0, .string ⟨#[]⟩, .int .i64 0, .int .i64 0, .int .i64 0, .int .i64 0, .int .i64 0, .string ⟨#[]⟩, .string ⟨#[]⟩, .int .i64 0, .slice none 0 0, .string ⟨#[]⟩, .int .i64 0] _ 26 rfl rfl R.out rfl info26 (by simp [Value.oneCell']) ?_; intro vz bz oz)
  have BZ := Lib.hid (B.out.trans (oz.below (n := m) (by simp) (by have := B.out.size; have := HM.out; omega)))
  exact bodyPost_ret (results_c1t (a := 2) (b := 3) rfl _ _ m _ _ _ rfl rfl bz Tryz.underlying26 rfl info26) rfl (by rw [HDR.out]; exact ⟨by rw [← HM.out]; exact BZ.out, zerSf, rfl, zero_sg _ _ 0⟩)
 ·
  obtain ⟨k, hk⟩ : ∃ q, q = ((b.data[0]?.getD 0).toNat : Int) := ⟨_, rfl⟩
  have hdr := decR_fin hbs h0 k hk
  rw [← hDR] at hdr
  have HDE := Lib.hid hdr
  have hbe : b.toList.isEmpty = false := isEmpty_no h0
  have hu8 : ((b.data[0]?.getD 0).toNat : Int) < 256 := by have := (b.data[0]?.getD 0).toNat_lt; omega
  clear hDR hdr
  have hlt : 0 < b.size := by omega
  have hwr : wrap64 (((b[0]'hlt).toNat : Nat) : Int) = k := by
   have e : b[0]'hlt = b.data[0]?.getD 0 := by
    show b.data[0] = _
    rw [Array.getElem?_eq_getElem hlt]
    rfl
   rw [e, ← hk]
   unfold wrap64
   omega
  have HKI : Hid (-9223372036854775808 ≤ k ∧ k ≤ 9223372036854775807) := Lib.hid (by omega)
  clear hk hu8
  obtain ⟨u, hu⟩ : ∃ u, u = usesF k := ⟨_, rfl⟩
  have CO := Lib.hid (fun (W : World) => of24 k W)
  rw [← hu] at CO HDE
  clear hu
  go_wp2_with fail
  refine (CO.out w1).mono ?_
  rintro e w2 ⟨rfl, b2⟩
  replace R := Lib.hid (R.out.below b2 R.out.lt)
  replace B := Lib.hid (HTR.out _ _ B.out b2)
  clear b2 CO
  obtain ⟨mf, hmf⟩ : ∃ q, q = w2.heap.size := ⟨_, rfl⟩
  have HMF := Lib.hid hmf
  have hmm : m < mf := by rw [hmf]; exact R.out.lt
  have X0 := Lib.hid (Blk.new w2 58 #[.bool false, .bool false, .bool false, .bool false, .bool false, .bool false, .bool false])
  have O0 := Lib.hid (Only.alloc [mf] w2 (.cells #[.bool false, .bool false, .bool false, .bool false, .bool false, .bool false, .bool false] 58))
  rw [← hmf] at X0
  go_upto_region 4 with (rw [← hmf]; refine wpList_store_blk rfl 58 _ _ rfl rfl mf #[.bool (hasU u 0), .bool (hasU u 1), .bool (hasU u 2), .bool (hasU u 3), .bool (hasU u 4), .bool (hasU u 5), .bool (hasU u 6)] _ 58 rfl rfl X0.out rfl info58 (by simp [Value.oneCell']) ?_; intro w3 b3 o3)
  have BV := Lib.hid (show Below mf w2 w3 from (O0.out.trans o3).below (by simp) (by rw [HMF.out]; exact Nat.le_refl _))
  replace R := Lib.hid (R.out.below BV.out hmm)
  replace B := Lib.hid (HTR.out _ _ B.out (by rw [← HMF.out]; exact BV.out))
  have FB := Lib.hid b3
  clear BV b3 o3 O0 X0 hmf
  obtain ⟨R0, hR0⟩ : ∃ q, q = b.extract 1 b.size := ⟨_, rfl⟩
  have hr0 : R0.size ≤ 200000 := by rw [hR0, slice_ge (by omega)]; omega
  rw [← hR0] at HDE
  obtain ⟨rb, hrb⟩ : ∃ q, q = w3.heap.size := ⟨_, rfl⟩
  have hmr : mf < rb := by rw [hrb]; exact FB.out.lt
  replace R := Lib.hid (R.out.alloc (.cells #[.string R0, .bool false] 69))
  replace FB := Lib.hid (FB.out.alloc (.cells #[.string R0, .bool false] 69))
  replace B := Lib.hid (HTR.out _ _ B.out ((Below.refl w3.heap.size w3).alloc (Nat.le_refl _) (.cells #[.string R0, .bool false] 69)))
  have RB := Lib.hid (Blk.new w3 69 #[.string R0, .bool false])
  rw [← hrb] at RB
  go_upto_region 5 with fail
  rw [← hR0, ← hrb]
  generalize w3.alloc (.cells #[.string R0, .bool false] 69) = w4 at R FB B RB ⊢
  clear hrb
  obtain ⟨ms, hms⟩ : ∃ q, q = w4.heap.size := ⟨_, rfl⟩
  have hms2 : rb < ms := by rw [hms]; exact RB.out.lt
  have HMS := Lib.hid hms
  have O0 := Lib.hid (Only.alloc [ms] w4 (.cells #[.int .i64 0, .int .i64 0, .int .i64 0, .int .i64 0, .string ⟨#[]⟩, .string ⟨#[]⟩, .int .i64 0, .slice none 0 0, .string ⟨#[]⟩, .int .i64 0, .int .i64 0, .int .i64 0, .int .i64 0, .string ⟨#[]⟩, .string ⟨#[]⟩, .int .i64 0, .slice none 0 0, .string ⟨#[]⟩, .int .i64 0, .string ⟨#[]⟩, .string ⟨#[]⟩, .int .i64 0, .int .i64 0, .int .i64 0, .string ⟨#[]⟩, .string ⟨#[]⟩, .int .i64 0, .slice none 0 0, .string ⟨#[]⟩, .int .i64 0, .int .i64 0, .int .i64 0, .int .i64 0, .int .i64 0, .string ⟨#[]⟩, .string ⟨#[]⟩, .int .i64 0, .slice none 0 0, .string ⟨#[]⟩, .int .i64 0] 26))
  have X0 := Lib.hid (Blk.new w4 26 #[.int .i64 0, .int .i64 0, .int .i64 0, .int .i64 0, .string ⟨#[]⟩, .string ⟨#[]⟩, .int .i64 0, .slice none 0 0, .string ⟨#[]⟩, .int .i64 0, .int .i64 0, .int .i64 0, .int .i64 0, .string ⟨#[]⟩, .string ⟨#[]⟩, .int .i64 0, .slice none 0 0, .string ⟨#[]⟩, .int .i64 0, .string ⟨#[]⟩, .string ⟨#[]⟩, .int .i64 0, .int .i64 0, .int .i64 0, .string ⟨#[]⟩, .string ⟨#[]⟩, .int .i64 0, .slice none 0 0, .string ⟨#[]⟩, .int .i64 0, .int .i64 0, .int .i64 0, .int .i64 0, .int .i64 0, .string ⟨#[]⟩, .string ⟨#[]⟩, .int .i64 0, .slice none 0 0, .string ⟨#[]⟩, .int .i64 0])
  rw [← hms] at X0
  go_upto_region 6 with (rw [← hms]; refine wpList_store_blk rfl 26 _ _ rfl rfl ms #[.int .i64 k, .int .i64 0, .int .i64 0, .int .i64 0, .string ⟨#[]⟩, .string ⟨#[]⟩, .int .i64 0, .slice none 0 0, .string ⟨#[]⟩, .int .i64 0, .int .i64 0, .int .i64 0, .int .i64 0, .string ⟨#[]⟩, .string ⟨#[]⟩, .int .i64 0, .slice none 0 0, .string ⟨#[]⟩, .int .i64 0, .string ⟨#[]⟩, .string ⟨#[]⟩, .int .i64 0, .int .i64 0, .int .i64 0, .string ⟨#[]⟩, .string ⟨#[]⟩, .int .i64 0, .slice none 0 0, .string ⟨#[]⟩, .int .i64 0, .int .i64 0, .int .i64 0, .int .i64 0, .int .i64 0, .string ⟨#[]⟩, .string ⟨#[]⟩, .int .i64 0, .slice none 0 0, .string ⟨#[]⟩, .int .i64 0] _ 26 rfl rfl X0.out rfl info26 (by simp [Value.oneCell']) ?_; intro w0 b2 o2)
  have BV := Lib.hid (show Below ms w4 w0 from (O0.out.trans o2).below (by simp) (by rw [HMS.out]; exact Nat.le_refl _))
  replace R := Lib.hid (R.out.below BV.out (by omega))
  replace FB := Lib.hid (FB.out.below BV.out (by omega))
  replace RB := Lib.hid (RB.out.below BV.out (by omega))
  replace B := Lib.hid (HTR.out _ _ B.out (by rw [← HMS.out]; exact BV.out))
  have X := Lib.hid (show Blk w0 ms 26 (sgC { zeroSg with k := k } zerSf).toArray from b2)
  have G := Lib.hid (zero_sg (fun c => ms < c) w0 k)
  have HF := Lib.hid (fit_zero k)
  have HK : Hid ({ zeroSg with k := k : Sg }.k = k) := Lib.hid rfl
  have HD := HDE
  clear HDE BV b2 o2 O0 X0 hms hwr
  obtain ⟨s0, hs0⟩ : ∃ q, q = { zeroSg with k := k } := ⟨_, rfl⟩
  rw [← hs0] at HF HK G X HD
  clear hs0
  obtain ⟨x0, hx0⟩ : ∃ q, q = zerSf := ⟨_, rfl⟩
  rw [← hx0] at G X
  clear hx0
  obtain ⟨b0, hb0⟩ : ∃ q, q = false := ⟨_, rfl⟩
  rw [← hb0] at RB HD
  clear hb0
  have CR := Lib.hid (fun (W : World) (h : Blk W rb 69 #[.string R0, .bool b0]) => rterm29 (hasU u 0) b0 R0 rb W h hr0)
  have hok := rdT_ok (hasU u 0) (R0, b0) hr0
  have hsz := rdT_size (hasU u 0) (R0, b0)
  have HD2 : Hid (DR = finR u b (rdL u (from7 1) (setF s0 (rdT (hasU u 0) (R0, b0)).1 0) (rdT (hasU u 0) (R0, b0)).2)) := Lib.hid HD.out
  obtain ⟨F, hF⟩ : ∃ q, q = rdT (hasU u 0) (R0, b0) := ⟨_, rfl⟩
  rw [← hF] at CR hok hsz HD2
  clear hF HD
  obtain ⟨t, R1, b1⟩ := F
  dsimp only at CR hok hsz HD2
  have hr1 : R1.size ≤ 200000 := by omega
  have HF2 := Lib.hid (HF.out.setF hok 0)
  have HK2 : Hid ((setF s0 t 0).k = k) := Lib.hid (by rw [setF_k]; exact HK.out)
  clear hok hsz HF HK
  have cc := FB.out.cell 0
  simp only [List.getElem?_toArray, List.getElem?_cons_zero] at cc
  go_wp2_with fail
  refine (CR.out w0 RB.out).mono ?_
  rintro e we ⟨y, rfl, ty, r5, o5⟩
  obtain ⟨_, sy, cy, vy⟩ := ty.its.2.form
  obtain ⟨yf, yv⟩ := y
  dsimp only at vy
  subst vy
  have HYF : Hid (yf = t.f) := Lib.hid ty.its.1
  obtain ⟨ly, hly⟩ : ∃ l, l = t.l.length := ⟨_, rfl⟩
  rw [← hly] at ty ⊢
  clear hly cc
  replace R := Lib.hid (R.out.only o5 (by simp; omega))
  replace FB := Lib.hid (FB.out.only o5 (by simp; omega))
  have X3 := Lib.hid (X.out.only o5 (by simp; omega))
  have B3 := Lib.hid (B.out.trans (o5.below (n := m) (by simp; omega) (by have := B.out.size; have := HM.out; omega)))
  have G3 := Lib.hid (G.out.onlyB o5 (fun b hb _ => by simp; omega))
  have TY := Lib.hid (ty.mono (S' := fun c => ms < c) (fun b hb _ => Nat.lt_of_lt_of_le X.out.lt hb))
  replace RB := Lib.hid r5
  clear o5 r5 ty CR X B G
  unfold ftV
  dsimp only
  go_upto_region 7 with (refine wpList_store_mid rfl 24 _ _ rfl ms 1 #[.int .i64 yf.k, .int .i64 yf.n, .int .i64 yf.g, .string yf.nm, .string yf.fn, .int .i64 yf.ar, .slice sy ly cy, .string yf.bs, .int .i64 yf.bt] rfl rfl (there_fld0 X3.out) info25 (by simp [Value.oneCell']) ?_)
  have o6 := only_setCells ms #[.int .i64 yf.k, .int .i64 yf.n, .int .i64 yf.g, .string yf.nm, .string yf.fn, .int .i64 yf.ar, .slice sy ly cy, .string yf.bs, .int .i64 yf.bt].toList 1 we
  have X := Lib.hid (put_fld0 (y := ⟨yf, .slice sy ly cy⟩) (t := t) X3.out)
  have ew : we.setCells ms 1 #[.int .i64 yf.k, .int .i64 yf.n, .int .i64 yf.g, .string yf.nm, .string yf.fn, .int .i64 yf.ar, .slice sy ly cy, .string yf.bs, .int .i64 yf.bt].toList = we.setCells ms 1 (ftC ⟨yf, .slice sy ly cy⟩) := rfl
  rw [ew] at o6
  try rw [ew]
  clear ew
  generalize we.setCells ms 1 (ftC ⟨yf, .slice sy ly cy⟩) = w1 at *
  replace R := Lib.hid (R.out.only o6 (by simp; omega))
  replace FB := Lib.hid (FB.out.only o6 (by simp; omega))
  replace RB := Lib.hid (RB.out.only o6 (by simp; omega))
  have B := Lib.hid (B3.out.trans (o6.below (n := m) (by simp; omega) (by have := B3.out.size; have := HM.out; omega)))
  have G := Lib.hid (setF_at0 (G3.out.onlyB o6 (fun b hb _ => by simp; omega)) (TY.out.only o6 (fun b hb _ => by simp; omega)))
  clear o6 X3 B3 G3 TY HYF
  have HD := HD2
  have HF := HF2
  have HK := HK2
  clear HD2 HF2 HK2
  obtain ⟨s1, hs1⟩ : ∃ q, q = setF s0 t 0 := ⟨_, rfl⟩
  rw [← hs1] at HD HF HK X G
  clear hs1
  obtain ⟨x1, hx1⟩ : ∃ q, q = { x0 with a := ⟨yf, .slice sy ly cy⟩ } := ⟨_, rfl⟩
  rw [← hx1] at X G
  clear hx1
  have CR := Lib.hid (fun (W : World) (h : Blk W rb 69 #[.string R1, .bool b1]) => rterm29 (hasU u 1) b1 R1 rb W h hr1)
  have hok := rdT_ok (hasU u 1) (R1, b1) hr1
  have hsz := rdT_size (hasU u 1) (R1, b1)
  have HD2 : Hid (DR = finR u b (rdL u (from7 2) (setF s1 (rdT (hasU u 1) (R1, b1)).1 1) (rdT (hasU u 1) (R1, b1)).2)) := Lib.hid HD.out
  obtain ⟨F, hF⟩ : ∃ q, q = rdT (hasU u 1) (R1, b1) := ⟨_, rfl⟩
  rw [← hF] at CR hok hsz HD2
  clear hF HD
  obtain ⟨t, R2, b2⟩ := F
  dsimp only at CR hok hsz HD2
  have hr2 : R2.size ≤ 200000 := by omega
  have HF2 := Lib.hid (HF.out.setF hok 1)
  have HK2 : Hid ((setF s1 t 1).k = k) := Lib.hid (by rw [setF_k]; exact HK.out)
  clear hok hsz HF HK
  have cc := FB.out.cell 1
  simp only [List.getElem?_toArray, List.getElem?_cons_zero, List.getElem?_cons_succ] at cc
  go_wp2_with fail
  refine (CR.out w1 RB.out).mono ?_
  rintro e we ⟨y, rfl, ty, r5, o5⟩
  obtain ⟨_, sy, cy, vy⟩ := ty.its.2.form
  obtain ⟨yf, yv⟩ := y
  dsimp only at vy
  subst vy
  have HYF : Hid (yf = t.f) := Lib.hid ty.its.1
  obtain ⟨ly, hly⟩ : ∃ l, l = t.l.length := ⟨_, rfl⟩
  rw [← hly] at ty ⊢
  clear hly cc
  replace R := Lib.hid (R.out.only o5 (by simp; omega))
  replace FB := Lib.hid (FB.out.only o5 (by simp; omega))
  have X3 := Lib.hid (X.out.only o5 (by simp; omega))
  have B3 := Lib.hid (B.out.trans (o5.below (n := m) (by simp; omega) (by have := B.out.size; have := HM.out; omega)))
  have G3 := Lib.hid (G.out.onlyB o5 (fun b hb _ => by simp; omega))
  have TY := Lib.hid (ty.mono (S' := fun c => ms < c) (fun b hb _ => Nat.lt_of_lt_of_le X.out.lt hb))
  replace RB := Lib.hid r5
  clear o5 r5 ty CR X B G
  unfold ftV
  dsimp only
  go_upto_region 8 with (refine wpList_store_mid rfl 24 _ _ rfl ms 10 #[.int .i64 yf.k, .int .i64 yf.n, .int .i64 yf.g, .string yf.nm, .string yf.fn, .int .i64 yf.ar, .slice sy ly cy, .string yf.bs, .int .i64 yf.bt] rfl rfl (there_fld1 X3.out) info25 (by simp [Value.oneCell']) ?_)
  have o6 := only_setCells ms #[.int .i64 yf.k, .int .i64 yf.n, .int .i64 yf.g, .string yf.nm, .string yf.fn, .int .i64 yf.ar, .slice sy ly cy, .string yf.bs, .int .i64 yf.bt].toList 10 we
  have X := Lib.hid (put_fld1 (y := ⟨yf, .slice sy ly cy⟩) (t := t) X3.out)
  have ew : we.setCells ms 10 #[.int .i64 yf.k, .int .i64 yf.n, .int .i64 yf.g, .string yf.nm, .string yf.fn, .int .i64 yf.ar, .slice sy ly cy, .string yf.bs, .int .i64 yf.bt].toList = we.setCells ms 10 (ftC ⟨yf, .slice sy ly cy⟩) := rfl
  rw [ew] at o6
  try rw [ew]
  clear ew
  generalize we.setCells ms 10 (ftC ⟨yf, .slice sy ly cy⟩) = w2 at *
  replace R := Lib.hid (R.out.only o6 (by simp; omega))
  replace FB := Lib.hid (FB.out.only o6 (by simp; omega))
  replace RB := Lib.hid (RB.out.only o6 (by simp; omega))
  have B := Lib.hid (B3.out.trans (o6.below (n := m) (by simp; omega) (by have := B3.out.size; have := HM.out; omega)))
  have G := Lib.hid (setF_at1 (G3.out.onlyB o6 (fun b hb _ => by simp; omega)) (TY.out.only o6 (fun b hb _ => by simp; omega)))
  clear o6 X3 B3 G3 TY HYF
  have HD := HD2
  have HF := HF2
  have HK := HK2
  clear HD2 HF2 HK2
  obtain ⟨s2, hs2⟩ : ∃ q, q = setF s1 t 1 := ⟨_, rfl⟩
  rw [← hs2] at HD HF HK X G
  clear hs2
  obtain ⟨x2, hx2⟩ : ∃ q, q = { x1 with b := ⟨yf, .slice sy ly cy⟩ } := ⟨_, rfl⟩
  rw [← hx2] at X G
  clear hx2
  have CR := Lib.hid (fun (W : World) (h : Blk W rb 69 #[.string R2, .bool b2]) => rterm29 (hasU u 2) b2 R2 rb W h hr2)
  have hok := rdT_ok (hasU u 2) (R2, b2) hr2
  have hsz := rdT_size (hasU u 2) (R2, b2)
  have HD2 : Hid (DR = finR u b (rdL u (from7 3) (setF s2 (rdT (hasU u 2) (R2, b2)).1 2) (rdT (hasU u 2) (R2, b2)).2)) := Lib.hid HD.out
  obtain ⟨F, hF⟩ : ∃ q, q = rdT (hasU u 2) (R2, b2) := ⟨_, rfl⟩
  rw [← hF] at CR hok hsz HD2
  clear hF HD
  obtain ⟨t, R3, b3⟩ := F
  dsimp only at CR hok hsz HD2
  have hr3 : R3.size ≤ 200000 := by omega
  have HF2 := Lib.hid (HF.out.setF hok 2)
  have HK2 : Hid ((setF s2 t 2).k = k) := Lib.hid (by rw [setF_k]; exact HK.out)
  clear hok hsz HF HK
  have cc := FB.out.cell 2
  simp only [List.getElem?_toArray, List.getElem?_cons_zero, List.getElem?_cons_succ] at cc
  go_wp2_with fail
  refine (CR.out w2 RB.out).mono ?_
  rintro e we ⟨y, rfl, ty, r5, o5⟩
  obtain ⟨_, sy, cy, vy⟩ := ty.its.2.form
  obtain ⟨yf, yv⟩ := y
  dsimp only at vy
  subst vy
  have HYF : Hid (yf = t.f) := Lib.hid ty.its.1
  obtain ⟨ly, hly⟩ : ∃ l, l = t.l.length := ⟨_, rfl⟩
  rw [← hly] at ty ⊢
  clear hly cc
  replace R := Lib.hid (R.out.only o5 (by simp; omega))
  replace FB := Lib.hid (FB.out.only o5 (by simp; omega))
  have X3 := Lib.hid (X.out.only o5 (by simp; omega))
  have B3 := Lib.hid (B.out.trans (o5.below (n := m) (by simp; omega) (by have := B.out.size; have := HM.out; omega)))
  have G3 := Lib.hid (G.out.onlyB o5 (fun b hb _ => by simp; omega))
  have TY := Lib.hid (ty.mono (S' := fun c => ms < c) (fun b hb _ => Nat.lt_of_lt_of_le X.out.lt hb))
  replace RB := Lib.hid r5
  clear o5 r5 ty CR X B G
  unfold ftV
  dsimp only
  have hfd : ∀ (W : World), (Instr.field 24 (.agg #[.int .i64 yf.k, .int .i64 yf.n, .int .i64 yf.g, .string yf.nm, .string yf.fn, .int .i64 yf.ar, .slice sy ly cy, .string yf.bs, .int .i64 yf.bt]) 3).run Tryz.prog W = .ok (.string yf.nm) W := field9_3 _ _ _ _ _ _ _ _ _
  go_upto_region 9 with (refine wpList_store_fld rfl 9 _ _ rfl rfl ms 19 _ 26 (.string yf.nm) rfl rfl X3.out (by rw [sgC_size]; omega) (by kernel_rfl) rfl ?_; intro w3 ew)
  have o6 : Only [ms] we w3 := by rw [ew]; exact Only.setCell we ⟨ms, 19, none⟩ _ (by simp)
  have X : Hid (Blk w3 ms 26 (sgC (setF s2 t 2) x2).toArray) := Lib.hid (by rw [ew]; exact put_fld2 HYF.out X3.out)
  clear ew
  replace R := Lib.hid (R.out.only o6 (by simp; omega))
  replace FB := Lib.hid (FB.out.only o6 (by simp; omega))
  replace RB := Lib.hid (RB.out.only o6 (by simp; omega))
  have B := Lib.hid (B3.out.trans (o6.below (n := m) (by simp; omega) (by have := B3.out.size; have := HM.out; omega)))
  have G := Lib.hid (setF_at2 (G3.out.onlyB o6 (fun b hb _ => by simp; omega)) (TY.out.only o6 (fun b hb _ => by simp; omega)))
  clear o6 X3 B3 G3 TY HYF
  have HD := HD2
  have HF := HF2
  have HK := HK2
  clear HD2 HF2 HK2
  obtain ⟨s3, hs3⟩ : ∃ q, q = setF s2 t 2 := ⟨_, rfl⟩
  rw [← hs3] at HD HF HK X G
  clear hs3
  obtain ⟨x3, hx3⟩ : ∃ q, q = x2 := ⟨_, rfl⟩
  rw [← hx3] at X G
  clear hx3
  have CR := Lib.hid (fun (W : World) (h : Blk W rb 69 #[.string R3, .bool b3]) => rterm29 (hasU u 3) b3 R3 rb W h hr3)
  have hok := rdT_ok (hasU u 3) (R3, b3) hr3
  have hsz := rdT_size (hasU u 3) (R3, b3)
  have HD2 : Hid (DR = finR u b (rdL u (from7 4) (setF s3 (rdT (hasU u 3) (R3, b3)).1 3) (rdT (hasU u 3) (R3, b3)).2)) := Lib.hid HD.out
  obtain ⟨F, hF⟩ : ∃ q, q = rdT (hasU u 3) (R3, b3) := ⟨_, rfl⟩
  rw [← hF] at CR hok hsz HD2
  clear hF HD
  obtain ⟨t, R4, b4⟩ := F
  dsimp only at CR hok hsz HD2
  have hr4 : R4.size ≤ 200000 := by omega
  have HF2 := Lib.hid (HF.out.setF hok 3)
  have HK2 : Hid ((setF s3 t 3).k = k) := Lib.hid (by rw [setF_k]; exact HK.out)
  clear hok hsz HF HK
  have cc := FB.out.cell 3
  simp only [List.getElem?_toArray, List.getElem?_cons_zero, List.getElem?_cons_succ] at cc
  go_wp2_with fail
  refine (CR.out w3 RB.out).mono ?_
  rintro e we ⟨y, rfl, ty, r5, o5⟩
  obtain ⟨_, sy, cy, vy⟩ := ty.its.2.form
  obtain ⟨yf, yv⟩ := y
  dsimp only at vy
  subst vy
  have HYF : Hid (yf = t.f) := Lib.hid ty.its.1
  obtain ⟨ly, hly⟩ : ∃ l, l = t.l.length := ⟨_, rfl⟩
  rw [← hly] at ty ⊢
  clear hly cc
  replace R := Lib.hid (R.out.only o5 (by simp; omega))
  replace FB := Lib.hid (FB.out.only o5 (by simp; omega))
  have X3 := Lib.hid (X.out.only o5 (by simp; omega))
  have B3 := Lib.hid (B.out.trans (o5.below (n := m) (by simp; omega) (by have := B.out.size; have := HM.out; omega)))
  have G3 := Lib.hid (G.out.onlyB o5 (fun b hb _ => by simp; omega))
  have TY := Lib.hid (ty.mono (S' := fun c => ms < c) (fun b hb _ => Nat.lt_of_lt_of_le X.out.lt hb))
  replace RB := Lib.hid r5
  clear o5 r5 ty CR X B G
  unfold ftV
  dsimp only
  have hfd : ∀ (W : World), (Instr.field 24 (.agg #[.int .i64 yf.k, .int .i64 yf.n, .int .i64 yf.g, .string yf.nm, .string yf.fn, .int .i64 yf.ar, .slice sy ly cy, .string yf.bs, .int .i64 yf.bt]) 3).run Tryz.prog W = .ok (.string yf.nm) W := field9_3 _ _ _ _ _ _ _ _ _
  go_upto_region 10 with (refine wpList_store_fld rfl 9 _ _ rfl rfl ms 20 _ 26 (.string yf.nm) rfl rfl X3.out (by rw [sgC_size]; omega) (by kernel_rfl) rfl ?_; intro w4 ew)
  have o6 : Only [ms] we w4 := by rw [ew]; exact Only.setCell we ⟨ms, 20, none⟩ _ (by simp)
  have X : Hid (Blk w4 ms 26 (sgC (setF s3 t 3) x3).toArray) := Lib.hid (by rw [ew]; exact put_fld3 HYF.out X3.out)
  clear ew
  replace R := Lib.hid (R.out.only o6 (by simp; omega))
  replace FB := Lib.hid (FB.out.only o6 (by simp; omega))
  replace RB := Lib.hid (RB.out.only o6 (by simp; omega))
  have B := Lib.hid (B3.out.trans (o6.below (n := m) (by simp; omega) (by have := B3.out.size; have := HM.out; omega)))
  have G := Lib.hid (setF_at3 (G3.out.onlyB o6 (fun b hb _ => by simp; omega)) (TY.out.only o6 (fun b hb _ => by simp; omega)))
  clear o6 X3 B3 G3 TY HYF
  have HD := HD2
  have HF := HF2
  have HK := HK2
  clear HD2 HF2 HK2
  obtain ⟨s4, hs4⟩ : ∃ q, q = setF s3 t 3 := ⟨_, rfl⟩
  rw [← hs4] at HD HF HK X G
  clear hs4
  obtain ⟨x4, hx4⟩ : ∃ q, q = x3 := ⟨_, rfl⟩
  rw [← hx4] at X G
  clear hx4
  have CR := Lib.hid (fun (W : World) (h : Blk W rb 69 #[.string R4, .bool b4]) => rterm29 (hasU u 4) b4 R4 rb W h hr4)
  have hok := rdT_ok (hasU u 4) (R4, b4) hr4
  have hsz := rdT_size (hasU u 4) (R4, b4)
  have HD2 : Hid (DR = finR u b (rdL u (from7 5) (setF s4 (rdT (hasU u 4) (R4, b4)).1 4) (rdT (hasU u 4) (R4, b4)).2)) := Lib.hid HD.out
  obtain ⟨F, hF⟩ : ∃ q, q = rdT (hasU u 4) (R4, b4) := ⟨_, rfl⟩
  rw [← hF] at CR hok hsz HD2
  clear hF HD
  obtain ⟨t, R5, b5⟩ := F
  dsimp only at CR hok hsz HD2
  have hr5 : R5.size ≤ 200000 := by omega
  have HF2 := Lib.hid (HF.out.setF hok 4)
  have HK2 : Hid ((setF s4 t 4).k = k) := Lib.hid (by rw [setF_k]; exact HK.out)
  clear hok hsz HF HK
  have cc := FB.out.cell 4
  simp only [List.getElem?_toArray, List.getElem?_cons_zero, List.getElem?_cons_succ] at cc
  go_wp2_with fail
  refine (CR.out w4 RB.out).mono ?_
  rintro e we ⟨y, rfl, ty, r5, o5⟩
  obtain ⟨_, sy, cy, vy⟩ := ty.its.2.form
  obtain ⟨yf, yv⟩ := y
  dsimp only at vy
  subst vy
  have HYF : Hid (yf = t.f) := Lib.hid ty.its.1
  obtain ⟨ly, hly⟩ : ∃ l, l = t.l.length := ⟨_, rfl⟩
  rw [← hly] at ty ⊢
  clear hly cc
  replace R := Lib.hid (R.out.only o5 (by simp; omega))
  replace FB := Lib.hid (FB.out.only o5 (by simp; omega))
  have X3 := Lib.hid (X.out.only o5 (by simp; omega))
  have B3 := Lib.hid (B.out.trans (o5.below (n := m) (by simp; omega) (by have := B.out.size; have := HM.out; omega)))
  have G3 := Lib.hid (G.out.onlyB o5 (fun b hb _ => by simp; omega))
  have TY := Lib.hid (ty.mono (S' := fun c => ms < c) (fun b hb _ => Nat.lt_of_lt_of_le X.out.lt hb))
  replace RB := Lib.hid r5
  clear o5 r5 ty CR X B G
  unfold ftV
  dsimp only
  go_upto_region 11 with (refine wpList_store_mid rfl 24 _ _ rfl ms 21 #[.int .i64 yf.k, .int .i64 yf.n, .int .i64 yf.g, .string yf.nm, .string yf.fn, .int .i64 yf.ar, .slice sy ly cy, .string yf.bs, .int .i64 yf.bt] rfl rfl (there_fld4 X3.out) info25 (by simp [Value.oneCell']) ?_)
  have o6 := only_setCells ms #[.int .i64 yf.k, .int .i64 yf.n, .int .i64 yf.g, .string yf.nm, .string yf.fn, .int .i64 yf.ar, .slice sy ly cy, .string yf.bs, .int .i64 yf.bt].toList 21 we
  have X := Lib.hid (put_fld4 (y := ⟨yf, .slice sy ly cy⟩) (t := t) X3.out)
  have ew : we.setCells ms 21 #[.int .i64 yf.k, .int .i64 yf.n, .int .i64 yf.g, .string yf.nm, .string yf.fn, .int .i64 yf.ar, .slice sy ly cy, .string yf.bs, .int .i64 yf.bt].toList = we.setCells ms 21 (ftC ⟨yf, .slice sy ly cy⟩) := rfl
  rw [ew] at o6
  try rw [ew]
  clear ew
  generalize we.setCells ms 21 (ftC ⟨yf, .slice sy ly cy⟩) = w5 at *
  replace R := Lib.hid (R.out.only o6 (by simp; omega))
  replace FB := Lib.hid (FB.out.only o6 (by simp; omega))
  replace RB := Lib.hid (RB.out.only o6 (by simp; omega))
  have B := Lib.hid (B3.out.trans (o6.below (n := m) (by simp; omega) (by have := B3.out.size; have := HM.out; omega)))
  have G := Lib.hid (setF_at4 (G3.out.onlyB o6 (fun b hb _ => by simp; omega)) (TY.out.only o6 (fun b hb _ => by simp; omega)))
  clear o6 X3 B3 G3 TY HYF
  have HD := HD2
  have HF := HF2
  have HK := HK2
  clear HD2 HF2 HK2
  obtain ⟨s5, hs5⟩ : ∃ q, q = setF s4 t 4 := ⟨_, rfl⟩
  rw [← hs5] at HD HF HK X G
  clear hs5
  obtain ⟨x5, hx5⟩ : ∃ q, q = { x4 with c := ⟨yf, .slice sy ly cy⟩ } := ⟨_, rfl⟩
  rw [← hx5] at X G
  clear hx5
  have CR := Lib.hid (fun (W : World) (h : Blk W rb 69 #[.string R5, .bool b5]) => rterm29 (hasU u 5) b5 R5 rb W h hr5)
  have hok := rdT_ok (hasU u 5) (R5, b5) hr5
  have hsz := rdT_size (hasU u 5) (R5, b5)
  have HD2 : Hid (DR = finR u b (rdL u (from7 6) (setF s5 (rdT (hasU u 5) (R5, b5)).1 5) (rdT (hasU u 5) (R5, b5)).2)) := Lib.hid HD.out
  obtain ⟨F, hF⟩ : ∃ q, q = rdT (hasU u 5) (R5, b5) := ⟨_, rfl⟩
  rw [← hF] at CR hok hsz HD2
  clear hF HD
  obtain ⟨t, R6, b6⟩ := F
  dsimp only at CR hok hsz HD2
  have hr6 : R6.size ≤ 200000 := by omega
  have HF2 := Lib.hid (HF.out.setF hok 5)
  have HK2 : Hid ((setF s5 t 5).k = k) := Lib.hid (by rw [setF_k]; exact HK.out)
  clear hok hsz HF HK
  have cc := FB.out.cell 5
  simp only [List.getElem?_toArray, List.getElem?_cons_zero, List.getElem?_cons_succ] at cc
  go_wp2_with fail
  refine (CR.out w5 RB.out).mono ?_
  rintro e we ⟨y, rfl, ty, r5, o5⟩
  obtain ⟨_, sy, cy, vy⟩ := ty.its.2.form
  obtain ⟨yf, yv⟩ := y
  dsimp only at vy
  subst vy
  have HYF : Hid (yf = t.f) := Lib.hid ty.its.1
  obtain ⟨ly, hly⟩ : ∃ l, l = t.l.length := ⟨_, rfl⟩
  rw [← hly] at ty ⊢
  clear hly cc
  replace R := Lib.hid (R.out.only o5 (by simp; omega))
  replace FB := Lib.hid (FB.out.only o5 (by simp; omega))
  have X3 := Lib.hid (X.out.only o5 (by simp; omega))
  have B3 := Lib.hid (B.out.trans (o5.below (n := m) (by simp; omega) (by have := B.out.size; have := HM.out; omega)))
  have G3 := Lib.hid (G.out.onlyB o5 (fun b hb _ => by simp; omega))
  have TY := Lib.hid (ty.mono (S' := fun c => ms < c) (fun b hb _ => Nat.lt_of_lt_of_le X.out.lt hb))
  replace RB := Lib.hid r5
  clear o5 r5 ty CR X B G
  unfold ftV
  dsimp only
  have hfd : ∀ (W : World), (Instr.field 24 (.agg #[.int .i64 yf.k, .int .i64 yf.n, .int .i64 yf.g, .string yf.nm, .string yf.fn, .int .i64 yf.ar, .slice sy ly cy, .string yf.bs, .int .i64 yf.bt]) 1).run Tryz.prog W = .ok (.int .i64 yf.n) W := field9_1 _ _ _ _ _ _ _ _ _
  go_upto_region 12 with (refine wpList_store_fld rfl 2 _ _ rfl rfl ms 30 _ 26 (.int .i64 yf.n) rfl rfl X3.out (by rw [sgC_size]; omega) (by kernel_rfl) rfl ?_; intro w6 ew)
  have o6 : Only [ms] we w6 := by rw [ew]; exact Only.setCell we ⟨ms, 30, none⟩ _ (by simp)
  have X : Hid (Blk w6 ms 26 (sgC (setF s5 t 5) x5).toArray) := Lib.hid (by rw [ew]; exact put_fld5 HYF.out X3.out)
  clear ew
  replace R := Lib.hid (R.out.only o6 (by simp; omega))
  replace FB := Lib.hid (FB.out.only o6 (by simp; omega))
  replace RB := Lib.hid (RB.out.only o6 (by simp; omega))
  have B := Lib.hid (B3.out.trans (o6.below (n := m) (by simp; omega) (by have := B3.out.size; have := HM.out; omega)))
  have G := Lib.hid (setF_at5 (G3.out.onlyB o6 (fun b hb _ => by simp; omega)) (TY.out.only o6 (fun b hb _ => by simp; omega)))
  clear o6 X3 B3 G3 TY HYF
  have HD := HD2
  have HF := HF2
  have HK := HK2
  clear HD2 HF2 HK2
  obtain ⟨s6, hs6⟩ : ∃ q, q = setF s5 t 5 := ⟨_, rfl⟩
  rw [← hs6] at HD HF HK X G
  clear hs6
  obtain ⟨x6, hx6⟩ : ∃ q, q = x5 := ⟨_, rfl⟩
  rw [← hx6] at X G
  clear hx6
  have CR := Lib.hid (fun (W : World) (h : Blk W rb 69 #[.string R6, .bool b6]) => rterm29 (hasU u 6) b6 R6 rb W h hr6)
  have hok := rdT_ok (hasU u 6) (R6, b6) hr6
  have hsz := rdT_size (hasU u 6) (R6, b6)
  have HD2 : Hid (DR = finR u b (rdL u (from7 7) (setF s6 (rdT (hasU u 6) (R6, b6)).1 6) (rdT (hasU u 6) (R6, b6)).2)) := Lib.hid HD.out
  obtain ⟨F, hF⟩ : ∃ q, q = rdT (hasU u 6) (R6, b6) := ⟨_, rfl⟩
  rw [← hF] at CR hok hsz HD2
  clear hF HD
  obtain ⟨t, R7, b7⟩ := F
  dsimp only at CR hok hsz HD2
  have hr7 : R7.size ≤ 200000 := by omega
  have HF2 := Lib.hid (HF.out.setF hok 6)
  have HK2 : Hid ((setF s6 t 6).k = k) := Lib.hid (by rw [setF_k]; exact HK.out)
  clear hok hsz HF HK
  have cc := FB.out.cell 6
  simp only [List.getElem?_toArray, List.getElem?_cons_zero, List.getElem?_cons_succ] at cc
  go_wp2_with fail
  refine (CR.out w6 RB.out).mono ?_
  rintro e we ⟨y, rfl, ty, r5, o5⟩
  obtain ⟨_, sy, cy, vy⟩ := ty.its.2.form
  obtain ⟨yf, yv⟩ := y
  dsimp only at vy
  subst vy
  have HYF : Hid (yf = t.f) := Lib.hid ty.its.1
  obtain ⟨ly, hly⟩ : ∃ l, l = t.l.length := ⟨_, rfl⟩
  rw [← hly] at ty ⊢
  clear hly cc
  replace R := Lib.hid (R.out.only o5 (by simp; omega))
  replace FB := Lib.hid (FB.out.only o5 (by simp; omega))
  have X3 := Lib.hid (X.out.only o5 (by simp; omega))
  have B3 := Lib.hid (B.out.trans (o5.below (n := m) (by simp; omega) (by have := B.out.size; have := HM.out; omega)))
  have G3 := Lib.hid (G.out.onlyB o5 (fun b hb _ => by simp; omega))
  have TY := Lib.hid (ty.mono (S' := fun c => ms < c) (fun b hb _ => Nat.lt_of_lt_of_le X.out.lt hb))
  replace RB := Lib.hid r5
  clear o5 r5 ty CR X B G
  unfold ftV
  dsimp only
  go_upto_region 13 with (refine wpList_store_mid rfl 24 _ _ rfl ms 31 #[.int .i64 yf.k, .int .i64 yf.n, .int .i64 yf.g, .string yf.nm, .string yf.fn, .int .i64 yf.ar, .slice sy ly cy, .string yf.bs, .int .i64 yf.bt] rfl rfl (there_fld6 X3.out) info25 (by simp [Value.oneCell']) ?_)
  have o6 := only_setCells ms #[.int .i64 yf.k, .int .i64 yf.n, .int .i64 yf.g, .string yf.nm, .string yf.fn, .int .i64 yf.ar, .slice sy ly cy, .string yf.bs, .int .i64 yf.bt].toList 31 we
  have X := Lib.hid (put_fld6 (y := ⟨yf, .slice sy ly cy⟩) (t := t) X3.out)
  have ew : we.setCells ms 31 #[.int .i64 yf.k, .int .i64 yf.n, .int .i64 yf.g, .string yf.nm, .string yf.fn, .int .i64 yf.ar, .slice sy ly cy, .string yf.bs, .int .i64 yf.bt].toList = we.setCells ms 31 (ftC ⟨yf, .slice sy ly cy⟩) := rfl
  rw [ew] at o6
  try rw [ew]
  clear ew
  generalize we.setCells ms 31 (ftC ⟨yf, .slice sy ly cy⟩) = w7 at *
  replace R := Lib.hid (R.out.only o6 (by simp; omega))
  replace FB := Lib.hid (FB.out.only o6 (by simp; omega))
  replace RB := Lib.hid (RB.out.only o6 (by simp; omega))
  have B := Lib.hid (B3.out.trans (o6.below (n := m) (by simp; omega) (by have := B3.out.size; have := HM.out; omega)))
  have G := Lib.hid (setF_at6 (G3.out.onlyB o6 (fun b hb _ => by simp; omega)) (TY.out.only o6 (fun b hb _ => by simp; omega)))
  clear o6 X3 B3 G3 TY HYF
  have HD := HD2
  have HF := HF2
  have HK := HK2
  clear HD2 HF2 HK2
  obtain ⟨s7, hs7⟩ : ∃ q, q = setF s6 t 6 := ⟨_, rfl⟩
  rw [← hs7] at HD HF HK X G
  clear hs7
  obtain ⟨x7, hx7⟩ : ∃ q, q = { x6 with d := ⟨yf, .slice sy ly cy⟩ } := ⟨_, rfl⟩
  rw [← hx7] at X G
  clear hx7
  have c0 := RB.out.cell 0
  have c1 := RB.out.cell 1
  simp only [List.getElem?_toArray, List.getElem?_cons_zero, List.getElem?_cons_succ] at c0 c1
  by_cases hbad : u = 0 ∨ b7 = true ∨ R7.size ≠ 0
  ·
   have HDR : Hid (DR = (zeroSg, 6)) := Lib.hid (by rw [HD.out]; show finR u b (s7, (R7, b7)) = _; unfold finR; rw [if_pos hbad])
   clear HD
   by_cases hu0 : u = 0
   ·
    have hun : (!decide (u = 0)) = false := by rw [decide_eq_true hu0]; rfl
    clear hbad hu0
    rw [hun]
    go_wp2_with (refine wpList_store_blk rfl 26 _ _ rfl rfl m #[.int .i64 0, .int .i64 0, .int .i64 0, .int .i64 0, .string ⟨#[]⟩, .string ⟨#[]⟩, .int .i64 0, .slice none 0 0, .string ⟨#[]⟩, .int .i64 0, .int .i64 0, .int .i64 0, .int .i64 0, .string ⟨#[]⟩, .string ⟨#[]⟩, .int .i64 0, .slice none 0 0, .string ⟨#[]⟩, .int .i64 0, .string ⟨#[]⟩, .string ⟨#[]⟩, .int .i64 0, .int .i64 0, .int .i64 0, .string ⟨#[]⟩, .string ⟨#[]⟩, .int .i64 0, .slice none 0 0, .string ⟨#[]⟩, .int .i64 0, .int .i64 0, .int .i64 0, .int .i64 0, .int .i64 0, .string ⟨#[]⟩, .string ⟨#[]⟩, .int .i64 0, .slice none 0 0, .string ⟨#[]⟩, .int .i64 0] _ 26 rfl rfl R.out rfl info26 (by simp [Value.oneCell']) ?_; intro vz bz oz)
    have BZ := Lib.hid (B.out.trans (oz.below (n := m) (by simp) (by have := B.out.size; have := HM.out; omega)))
    exact bodyPost_ret (results_c1t (a := 2) (b := 3) rfl _ _ m _ _ _ rfl rfl bz Tryz.underlying26 rfl info26) rfl (by rw [HDR.out]; exact ⟨by rw [← HM.out]; exact BZ.out, zerSf, rfl, zero_sg _ _ 0⟩)
   ·
    have hun : (!decide (u = 0)) = true := by rw [decide_eq_false hu0]; rfl
    rw [hun]
    clear hun
    cases b7 with
    | true =>
     clear hbad hu0
     go_wp2_with (refine wpList_store_blk rfl 26 _ _ rfl rfl m #[.int .i64 0, .int .i64 0, .int .i64 0, .int .i64 0, .string ⟨#[]⟩, .string ⟨#[]⟩, .int .i64 0, .slice none 0 0, .string ⟨#[]⟩, .int .i64 0, .int .i64 0, .int .i64 0, .int .i64 0, .string ⟨#[]⟩, .string ⟨#[]⟩, .int .i64 0, .slice none 0 0, .string ⟨#[]⟩, .int .i64 0, .string ⟨#[]⟩, .string ⟨#[]⟩, .int .i64 0, .int .i64 0, .int .i64 0, .string ⟨#[]⟩, .string ⟨#[]⟩, .int .i64 0, .slice none 0 0, .string ⟨#[]⟩, .int .i64 0, .int .i64 0, .int .i64 0, .int .i64 0, .int .i64 0, .string ⟨#[]⟩, .string ⟨#[]⟩, .int .i64 0, .slice none 0 0, .string ⟨#[]⟩, .int .i64 0] _ 26 rfl rfl R.out rfl info26 (by simp [Value.oneCell']) ?_; intro vz bz oz)
     have BZ := Lib.hid (B.out.trans (oz.below (n := m) (by simp) (by have := B.out.size; have := HM.out; omega)))
     exact bodyPost_ret (results_c1t (a := 2) (b := 3) rfl _ _ m _ _ _ rfl rfl bz Tryz.underlying26 rfl info26) rfl (by rw [HDR.out]; exact ⟨by rw [← HM.out]; exact BZ.out, zerSf, rfl, zero_sg _ _ 0⟩)
    | false =>
     have hre : R7.toList.isEmpty = false := isEmpty_no (by rcases hbad with h | h | h; exact absurd h hu0; cases h; exact h)
     clear hbad hu0
     go_wp2_with (refine wpList_store_blk rfl 26 _ _ rfl rfl m #[.int .i64 0, .int .i64 0, .int .i64 0, .int .i64 0, .string ⟨#[]⟩, .string ⟨#[]⟩, .int .i64 0, .slice none 0 0, .string ⟨#[]⟩, .int .i64 0, .int .i64 0, .int .i64 0, .int .i64 0, .string ⟨#[]⟩, .string ⟨#[]⟩, .int .i64 0, .slice none 0 0, .string ⟨#[]⟩, .int .i64 0, .string ⟨#[]⟩, .string ⟨#[]⟩, .int .i64 0, .int .i64 0, .int .i64 0, .string ⟨#[]⟩, .string ⟨#[]⟩, .int .i64 0, .slice none 0 0, .string ⟨#[]⟩, .int .i64 0, .int .i64 0, .int .i64 0, .int .i64 0, .int .i64 0, .string ⟨#[]⟩, .string ⟨#[]⟩, .int .i64 0, .slice none 0 0, .string ⟨#[]⟩, .int .i64 0] _ 26 rfl rfl R.out rfl info26 (by simp [Value.oneCell']) ?_; intro vz bz oz)
     have BZ := Lib.hid (B.out.trans (oz.below (n := m) (by simp) (by have := B.out.size; have := HM.out; omega)))
     exact bodyPost_ret (results_c1t (a := 2) (b := 3) rfl _ _ m _ _ _ rfl rfl bz Tryz.underlying26 rfl info26) rfl (by rw [HDR.out]; exact ⟨by rw [← HM.out]; exact BZ.out, zerSf, rfl, zero_sg _ _ 0⟩)
  ·
   have hu0 : u ≠ 0 := fun h => hbad (.inl h)
   have hun : (!decide (u = 0)) = true := by rw [decide_eq_false hu0]; rfl
   rw [hun]
   obtain rfl : b7 = false := by
    cases b7 with
    | false => rfl
    | true => exact absurd (.inr (.inl rfl)) hbad
   have hr0 : R7.size = 0 := Decidable.byContradiction fun h => hbad (.inr (.inr h))
   obtain rfl : R7 = ⟨#[]⟩ := by
    apply ByteArray.ext
    exact Array.eq_empty_of_size_eq_zero hr0
   have HDR2 : Hid (DR = if encE s7 ≠ 0 ∨ encB s7 ≠ b then (zeroSg, 6) else (s7, 0)) := Lib.hid (by rw [HD.out]; show finR u b (s7, (⟨#[]⟩, false)) = _; unfold finR; rw [if_neg hbad])
   clear HD hbad hu0 hun hr0 hr7
   have HSZ : Hid ((sgC s7 x7).toArray.size = 40) := Lib.hid rfl
   have HOC := Lib.hid (sgC_one G.out)
   have CV := Lib.hid (rencode9 _ s7 x7 w7 G.out HF.out (by rw [HK.out]; exact HKI.out))
   unfold sgV at CV
   obtain ⟨EB, hEB⟩ : ∃ q, q = encB s7 := ⟨_, rfl⟩
   obtain ⟨EE, hEE⟩ : ∃ q, q = encE s7 := ⟨_, rfl⟩
   have hee : EE = 0 ∨ EE = 2 := by
    rw [hEE]
    unfold encE
    split
    ·
     exact .inl rfl
    ·
     exact .inr rfl
   rw [← hEB, ← hEE] at CV HDR2
   obtain ⟨CS, hCS⟩ : ∃ q, q = (sgC s7 x7).toArray := ⟨_, rfl⟩
   have HCS := Lib.hid hCS
   rw [← hCS] at CV HSZ X HOC
   clear hEB hEE hCS
   go_wp2_with (refine wpList_load_blk rfl 26 _ rfl ms rfl _ 26 _ X.out Tryz.underlying26 rfl (by rw [HSZ.out]; exact info26) ?_)
   refine CV.out.mono ?_
   rintro e w8 ⟨rfl, b8⟩
   replace R := Lib.hid (R.out.below b8 R.out.lt)
   replace X := Lib.hid (X.out.below b8 X.out.lt)
   replace B := Lib.hid (HTR.out _ _ B.out b8)
   replace G := Lib.hid (G.out.below b8 (fun _ _ h => h))
   clear b8 CV FB RB c0 c1
   rcases hee with rfl | rfl
   ·
    by_cases heq : EB = b
    ·
     subst heq
     have HDR : Hid (DR = (s7, 0)) := Lib.hid (by rw [HDR2.out, if_neg (by rintro (h | h) <;> exact h rfl)])
     clear HDR2
     have hst : (EB.toList == EB.toList) = true := beq_self_eq_true _
     go_wp2_with (first | refine wpList_load_blk rfl 26 _ rfl ms rfl _ 26 _ X.out Tryz.underlying26 rfl (by rw [HSZ.out]; exact info26) ?_ | (refine wpList_store_blk rfl 26 _ _ rfl rfl m CS _ 26 rfl rfl R.out (by rw [HSZ.out]; rfl) (by rw [HSZ.out]; exact info26) HOC.out ?_; intro vz bz oz))
     have BZ := Lib.hid (B.out.trans (oz.below (n := m) (by simp) (by have := B.out.size; have := HM.out; omega)))
     exact bodyPost_ret (results_c1t (a := 2) (b := 3) rfl _ _ m _ _ _ rfl rfl bz Tryz.underlying26 rfl (by rw [HSZ.out]; exact info26)) rfl (by rw [HDR.out]; exact ⟨by rw [← HM.out]; exact BZ.out, x7, by rw [HCS.out]; rfl, ((G.out.onlyB oz (fun b hb _ => by simp; omega)).mono (fun b hb _ => by have := HM.out; omega))⟩)
    ·
     have HDR : Hid (DR = (zeroSg, 6)) := Lib.hid (by rw [HDR2.out, if_pos (.inr heq)])
     have hst : (EB.toList == b.toList) = false := by rw [beq_eq_false_iff_ne]; exact fun h => heq (bytes_ext h)
     clear HDR2 heq
     go_wp2_with (refine wpList_store_blk rfl 26 _ _ rfl rfl m #[.int .i64 0, .int .i64 0, .int .i64 0, .int .i64 0, .string ⟨#[]⟩, .string ⟨#[]⟩, .int .i64 0, .slice none 0 0, .string ⟨#[]⟩, .int .i64 0, .int .i64 0, .int .i64 0, .int .i64 0, .string ⟨#[]⟩, .string ⟨#[]⟩, .int .i64 0, .slice none 0 0, .string ⟨#[]⟩, .int .i64 0, .string ⟨#[]⟩, .string ⟨#[]⟩, .int .i64 0, .int .i64 0, .int .i64 0, .string ⟨#[]⟩, .string ⟨#[]⟩, .int .i64 0, .slice none 0 0, .string ⟨#[]⟩, .int .i64 0, .int .i64 0, .int .i64 0, .int .i64 0, .int .i64 0, .string ⟨#[]⟩, .string ⟨#[]⟩, .int .i64 0, .slice none 0 0, .string ⟨#[]⟩, .int .i64 0] _ 26 rfl rfl R.out rfl info26 (by simp [Value.oneCell']) ?_; intro vz bz oz)
     have BZ := Lib.hid (B.out.trans (oz.below (n := m) (by simp) (by have := B.out.size; have := HM.out; omega)))
     exact bodyPost_ret (results_c1t (a := 2) (b := 3) rfl _ _ m _ _ _ rfl rfl bz Tryz.underlying26 rfl info26) rfl (by rw [HDR.out]; exact ⟨by rw [← HM.out]; exact BZ.out, zerSf, rfl, zero_sg _ _ 0⟩)
   ·
    have HDR : Hid (DR = (zeroSg, 6)) := Lib.hid (by rw [HDR2.out, if_pos (.inl (by decide))])
    clear HDR2
    go_wp2_with (refine wpList_store_blk rfl 26 _ _ rfl rfl m #[.int .i64 0, .int .i64 0, .int .i64 0, .int .i64 0, .string ⟨#[]⟩, .string ⟨#[]⟩, .int .i64 0, .slice none 0 0, .string ⟨#[]⟩, .int .i64 0, .int .i64 0, .int .i64 0, .int .i64 0, .string ⟨#[]⟩, .string ⟨#[]⟩, .int .i64 0, .slice none 0 0, .string ⟨#[]⟩, .int .i64 0, .string ⟨#[]⟩, .string ⟨#[]⟩, .int .i64 0, .int .i64 0, .int .i64 0, .string ⟨#[]⟩, .string ⟨#[]⟩, .int .i64 0, .slice none 0 0, .string ⟨#[]⟩, .int .i64 0, .int .i64 0, .int .i64 0, .int .i64 0, .int .i64 0, .string ⟨#[]⟩, .string ⟨#[]⟩, .int .i64 0, .slice none 0 0, .string ⟨#[]⟩, .int .i64 0] _ 26 rfl rfl R.out rfl info26 (by simp [Value.oneCell']) ?_; intro vz bz oz)
    have BZ := Lib.hid (B.out.trans (oz.below (n := m) (by simp) (by have := B.out.size; have := HM.out; omega)))
    exact bodyPost_ret (results_c1t (a := 2) (b := 3) rfl _ _ m _ _ _ rfl rfl bz Tryz.underlying26 rfl info26) rfl (by rw [HDR.out]; exact ⟨by rw [← HM.out]; exact BZ.out, zerSf, rfl, zero_sg _ _ 0⟩)
end Go.Proofs.YtemlogadbopffaaGreat
namespace Go.Proofs.YtemlogadbopffaaGreat
open Go.RowKit Go.Rt Go.Rw

set_option maxRecDepth 100000 in
set_option maxHeartbeats 8000000 in
theorem decodes_walk (b : ByteArray) (w : World) (hz : b.size ≤ 9223372036854775807) : Calls Tryz.prog 4 #[.string b] w fun e w' => e = .returned (.bool true) ∧ Below w.heap.size w w' := by
 have HTR : Hid (∀ W W', Below w.heap.size w W → Below W.heap.size W W' → Below w.heap.size w W') := Lib.hid (fun W W' h1 h2 => h1.trans (h2.mono h1.size))
 by_cases hbig : 20000 < b.size
 ·
  have d1 : decide ((20000 : Int) < b.size) = true := decide_eq_true (by omega)
  go_enter Tryz.func4, Tryz.ntmps4
  go_wp2_with fail
  refine (shown6 w).mono ?_
  rintro e v1 ⟨rfl, b1⟩
  have B1 := Lib.hid b1
  clear b1
  go_wp2_with fail
  go_ret
  exact ⟨rfl, B1.out⟩
 ·
  have hle : b.size ≤ 200000 := by omega
  have d1 : decide ((20000 : Int) < b.size) = false := decide_eq_false (by omega)
  have C1 := Lib.hid (fun (W : World) => pdecode10 b hle W)
  have C2 := Lib.hid (fun (W : World) => rdec11 b hle W)
  obtain ⟨dr, hdr⟩ : ∃ f, f = decR b := ⟨_, rfl⟩
  rw [← hdr] at C1 C2
  obtain ⟨s, ec⟩ := dr
  clear hdr hbig hle
  go_enter Tryz.func4, Tryz.ntmps4
  go_wp2_with fail
  refine (shown6 w).mono ?_
  rintro e v1 ⟨rfl, b1⟩
  have B := Lib.hid b1
  clear b1
  go_wp2_with fail
  refine (C1.out v1).mono ?_
  rintro e v2 ⟨bb, xa, rfl, tx⟩
  replace B := Lib.hid (HTR.out _ _ B.out bb)
  have Ta := Lib.hid tx.old2s
  clear bb tx C1 d1
  dsimp only at Ta ⊢
  obtain ⟨Ca, hCa⟩ : ∃ q, q = (sgC s xa).toArray := ⟨_, rfl⟩
  have HVa : Hid (sgV s xa = .agg Ca) := Lib.hid (by rw [hCa]; rfl)
  have HZa : Hid (Ca.size = 40) := Lib.hid (by rw [hCa]; rfl)
  have HOa := Lib.hid (sgC_one Ta.out)
  rw [← hCa] at HOa
  rw [HVa.out]
  clear hCa
  obtain ⟨ma, hma⟩ : ∃ q, q = v2.heap.size := ⟨_, rfl⟩
  have HMa := Lib.hid hma
  have X0 := Lib.hid (Blk.new v2 26 #[.int .i64 0, .int .i64 0, .int .i64 0, .int .i64 0, .string ⟨#[]⟩, .string ⟨#[]⟩, .int .i64 0, .slice none 0 0, .string ⟨#[]⟩, .int .i64 0, .int .i64 0, .int .i64 0, .int .i64 0, .string ⟨#[]⟩, .string ⟨#[]⟩, .int .i64 0, .slice none 0 0, .string ⟨#[]⟩, .int .i64 0, .string ⟨#[]⟩, .string ⟨#[]⟩, .int .i64 0, .int .i64 0, .int .i64 0, .string ⟨#[]⟩, .string ⟨#[]⟩, .int .i64 0, .slice none 0 0, .string ⟨#[]⟩, .int .i64 0, .int .i64 0, .int .i64 0, .int .i64 0, .int .i64 0, .string ⟨#[]⟩, .string ⟨#[]⟩, .int .i64 0, .slice none 0 0, .string ⟨#[]⟩, .int .i64 0])
  have O0 := Lib.hid (Only.alloc [ma] v2 (.cells #[.int .i64 0, .int .i64 0, .int .i64 0, .int .i64 0, .string ⟨#[]⟩, .string ⟨#[]⟩, .int .i64 0, .slice none 0 0, .string ⟨#[]⟩, .int .i64 0, .int .i64 0, .int .i64 0, .int .i64 0, .string ⟨#[]⟩, .string ⟨#[]⟩, .int .i64 0, .slice none 0 0, .string ⟨#[]⟩, .int .i64 0, .string ⟨#[]⟩, .string ⟨#[]⟩, .int .i64 0, .int .i64 0, .int .i64 0, .string ⟨#[]⟩, .string ⟨#[]⟩, .int .i64 0, .slice none 0 0, .string ⟨#[]⟩, .int .i64 0, .int .i64 0, .int .i64 0, .int .i64 0, .int .i64 0, .string ⟨#[]⟩, .string ⟨#[]⟩, .int .i64 0, .slice none 0 0, .string ⟨#[]⟩, .int .i64 0] 26))
  rw [← hma] at X0
  go_upto_region 6 with (rw [← hma]; refine wpList_store_blk rfl 26 _ _ rfl rfl ma Ca _ 26 rfl rfl X0.out (by rw [HZa.out]; rfl) (by rw [HZa.out]; exact info26) HOa.out ?_; intro v3 bs os)
  have BV := Lib.hid (show Below ma v2 v3 from (O0.out.trans os).below (by simp) (by rw [HMa.out]; exact Nat.le_refl _))
  have BW := Lib.hid (show Below v2.heap.size v2 v3 by rw [← HMa.out]; exact BV.out)
  replace B := Lib.hid (HTR.out _ _ B.out BW.out)
  replace Ta := Lib.hid (Ta.out.below BW.out (fun b _ hb => hb))
  have Xa := Lib.hid bs
  clear BV BW bs os O0 X0 hma HOa
  go_wp2_with fail
  refine (C2.out v3).mono ?_
  rintro e v4 ⟨bb, xb, rfl, tx⟩
  replace B := Lib.hid (HTR.out _ _ B.out bb)
  replace Ta := Lib.hid (Ta.out.below bb (fun b _ hb => hb))
  replace Xa := Lib.hid (Xa.out.below bb Xa.out.lt)
  have Tb := Lib.hid tx.old2s
  clear bb tx C2
  dsimp only at Tb ⊢
  obtain ⟨Cb, hCb⟩ : ∃ q, q = (sgC s xb).toArray := ⟨_, rfl⟩
  have HVb : Hid (sgV s xb = .agg Cb) := Lib.hid (by rw [hCb]; rfl)
  have HZb : Hid (Cb.size = 40) := Lib.hid (by rw [hCb]; rfl)
  have HOb := Lib.hid (sgC_one Tb.out)
  rw [← hCb] at HOb
  rw [HVb.out]
  clear hCb
  obtain ⟨mb, hmb⟩ : ∃ q, q = v4.heap.size := ⟨_, rfl⟩
  have HMb := Lib.hid hmb
  have X0 := Lib.hid (Blk.new v4 26 #[.int .i64 0, .int .i64 0, .int .i64 0, .int .i64 0, .string ⟨#[]⟩, .string ⟨#[]⟩, .int .i64 0, .slice none 0 0, .string ⟨#[]⟩, .int .i64 0, .int .i64 0, .int .i64 0, .int .i64 0, .string ⟨#[]⟩, .string ⟨#[]⟩, .int .i64 0, .slice none 0 0, .string ⟨#[]⟩, .int .i64 0, .string ⟨#[]⟩, .string ⟨#[]⟩, .int .i64 0, .int .i64 0, .int .i64 0, .string ⟨#[]⟩, .string ⟨#[]⟩, .int .i64 0, .slice none 0 0, .string ⟨#[]⟩, .int .i64 0, .int .i64 0, .int .i64 0, .int .i64 0, .int .i64 0, .string ⟨#[]⟩, .string ⟨#[]⟩, .int .i64 0, .slice none 0 0, .string ⟨#[]⟩, .int .i64 0])
  have O0 := Lib.hid (Only.alloc [mb] v4 (.cells #[.int .i64 0, .int .i64 0, .int .i64 0, .int .i64 0, .string ⟨#[]⟩, .string ⟨#[]⟩, .int .i64 0, .slice none 0 0, .string ⟨#[]⟩, .int .i64 0, .int .i64 0, .int .i64 0, .int .i64 0, .string ⟨#[]⟩, .string ⟨#[]⟩, .int .i64 0, .slice none 0 0, .string ⟨#[]⟩, .int .i64 0, .string ⟨#[]⟩, .string ⟨#[]⟩, .int .i64 0, .int .i64 0, .int .i64 0, .string ⟨#[]⟩, .string ⟨#[]⟩, .int .i64 0, .slice none 0 0, .string ⟨#[]⟩, .int .i64 0, .int .i64 0, .int .i64 0, .int .i64 0, .int .i64 0, .string ⟨#[]⟩, .string ⟨#[]⟩, .int .i64 0, .slice none 0 0, .string ⟨#[]⟩, .int .i64 0] 26))
  rw [← hmb] at X0
  go_upto_region 7 with (rw [← hmb]; refine wpList_store_blk rfl 26 _ _ rfl rfl mb Cb _ 26 rfl rfl X0.out (by rw [HZb.out]; rfl) (by rw [HZb.out]; exact info26) HOb.out ?_; intro v5 bs os)
  have BV := Lib.hid (show Below mb v4 v5 from (O0.out.trans os).below (by simp) (by rw [HMb.out]; exact Nat.le_refl _))
  have BW := Lib.hid (show Below v4.heap.size v4 v5 by rw [← HMb.out]; exact BV.out)
  replace B := Lib.hid (HTR.out _ _ B.out BW.out)
  replace Ta := Lib.hid (Ta.out.below BW.out (fun b _ hb => hb))
  replace Xa := Lib.hid (Xa.out.below BW.out Xa.out.lt)
  replace Tb := Lib.hid (Tb.out.below BW.out (fun b _ hb => hb))
  have Xb := Lib.hid bs
  clear BV BW bs os O0 X0 hmb HOb
  have CS := Lib.hid (same12 _ _ s s xa xb v5 Ta.out Tb.out)
  rw [(sigEq_iff s s).2 rfl, HVa.out, HVb.out] at CS
  go_wp2_with (first | refine wpList_load_blk rfl 26 _ rfl ma rfl _ 26 _ Xa.out Tryz.underlying26 rfl (by rw [HZa.out]; exact info26) ?_ | refine wpList_load_blk rfl 26 _ rfl mb rfl _ 26 _ Xb.out Tryz.underlying26 rfl (by rw [HZb.out]; exact info26) ?_)
  refine CS.out.mono ?_
  rintro e v6 ⟨rfl, bb⟩
  replace B := Lib.hid (HTR.out _ _ B.out bb)
  clear bb CS
  go_wp2_with fail
  go_ret
  exact ⟨rfl, B.out⟩
end Go.Proofs.YtemlogadbopffaaGreat
namespace Go.Proofs.YtemlogadbopffaaGreat
open Go.RowKit Go.Rt Go.Rw
namespace peersDecodes
open Go.ChangeShapes Go.WideShapes Go.ChangeAt Go.RowKit
open Go.ChangeMaps (open_string shut_string)
theorem own : ownKnob Tryz.prog.godebug = none := by kernel_rfl
theorem laid : laidOutB Tryz.prog = true := by kernel_rfl

set_option maxRecDepth 100000 in
theorem lifted (os : Os) (started : os.Started) (H : Type) (enc : TypeId × Value → H) :
    ReturnsInHanded {} Tryz.checked os 4 .any (Rows.peersDecodesSpec.pre6 enc Tryz.prog Tryz.f4 Rows.peersDecodesRow.domain false) (Rows.peersDecodesSpec.post enc Tryz.prog Tryz.f4 false true false false) := by
  refine returnsInHanded_of_change (C := Tryz.checked) own started (by kernel_rfl) Tryz.func4
    (ChangeSpec.witness6 (enc := enc) (C := Tryz.checked) false ⟨#[], #[.string ByteArray.empty], []⟩ 8 (by kernel_rfl) (by kernel_rfl) (by kernel_rfl) (by kernel_rfl)) ?_
  intro W base args ds gs before hval0 hW hcnd _
  have hval : ∀ (j : Nat) t v, Tryz.f4.params[j]? = some t → args[j]? = some v → Value.okWide Tryz.prog W .any base t v := hval0
  have hW' := hW
  obtain ⟨p, q, hA0, hV, rfl, hfz, hnd⟩ := hW
  have hA : DataW.TrodAll enc Tryz.prog W 0 (fun _ => true) true Tryz.f4.params.toList args.toList ds p := hA0
  rw [Tryz.params4] at hA hval
  obtain ⟨v0, vs0, d0, ds0, p0, q0, hargs, rfl, rfl, h0, r0⟩ := trodAll_cons hA
  obtain ⟨rfl, rfl, rfl⟩ := trodAll_nil r0
  obtain rfl : args = #[v0] := by cases args; simp_all
  obtain ⟨rfl, rfl⟩ := trodVars_none hV
  have k0 := h0
  have hlt0 : ∀ x ∈ p0, x.block < W.heap.size := fun x hx => by simpa using hW'.lt x (by simp [hx])
  obtain ⟨a0, rfl, -, -, w0⟩ := open_string Tryz.underlying9 (hval 0 9 v0 rfl rfl) h0
  have z0 : a0.size ≤ 9223372036854775807 := by have := w0; unfold maxLen at this; omega
  clear hA0 hval0
  simp only [List.append_nil] at hW'
  refine (decodes_walk a0 W z0).mono fun e W' ⟨he, bel⟩ => ?_
  subst he
  exact ⟨_, rfl, _, _, _, [], _, [], hW', trodAll_mk1 (shut_bool Tryz.underlying4 _), trodAll_cons_mk (Below.trod laid (by kernel_rfl) (of_decide_eq_true (by kernel_rfl)) k0 bel hlt0) trodAll_mk0, rfl, bel.frame _, fun h => by cases h⟩

theorem over : Rows.peersDecodesRow.holds Tryz.pinned (OpenSpec.ofChange Rows.peersDecodesSpec) :=
  OpenClaim.holds_of_wide 4 Tryz.f4 rfl rfl rfl rfl rfl rfl rfl ⟨rfl, rfl, rfl, rfl, rfl⟩ rfl rfl rfl rfl rfl (by kernel_rfl) Tryz.func4 (by kernel_rfl)
    (of_decide_eq_true (by kernel_rfl)) (by unfold Func.isWrapper; first | (rw [if_pos (by decide +kernel)]; kernel_rfl) | (rw [if_neg (by decide +kernel)]; exact ⟨rfl, rfl⟩))
    (fun os started H enc _ => lifted os started H enc)
end peersDecodes
/-- The statement. -/
theorem peersDecodes_holds : Rows.PeersDecodesSaid := peersDecodes.over
#print axioms peersDecodes_holds
end Go.Proofs.YtemlogadbopffaaGreat
