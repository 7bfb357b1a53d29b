/- PeersX: a part of the proof. No condition beyond the premises of each theorem. -/
import Derived.Test.YtoaimoemaoinhaaGreatDoorQd30
namespace Go.Proofs.YtoaimoemaoinhaaGreatDoor
open Go.RowKit Go.Rt Go.Rw Go.Mp
theorem only_more {F G : List Nat} {w w1 w2 : World} (h : Only F w w1) (o : Only G w1 w2) (hG : ∀ b ∈ G, w.heap.size ≤ b) : Only F w w2 :=
 ⟨o.os.trans h.os, o.tape.trans h.tape, o.output.trans h.output, Nat.le_trans h.size o.size, fun k hk hn => (o.block k (Nat.lt_of_lt_of_le hk h.size) (fun q => by have := hG k q; omega)).trans (h.block k hk hn)⟩
theorem only_more2 {F G : List Nat} {w w1 w2 : World} (h : Only F w w1) (o : Only G w1 w2) (hG : ∀ b ∈ G, b ∈ F ∨ w.heap.size ≤ b) : Only F w w2 :=
 ⟨o.os.trans h.os, o.tape.trans h.tape, o.output.trans h.output, Nat.le_trans h.size o.size, fun k hk hn => (o.block k (Nat.lt_of_lt_of_le hk h.size) (fun q => by
  rcases hG k q with z | z
  ·
   exact hn z
  ·
   omega)).trans (h.block k hk hn)⟩
theorem add_nd {w w' : World} {base : Nat} {n : Nd} {a : Nm} (h : NdAt w base n a) (k : ByteArray) (x : Cx) (c B : Nat) (o : Only [a.mc] w w') (hm : MapAt w' a.mc strK ptrV (put (a.C.map fun p => (p.1, p.2.2.c)) k c))
  (hcon : Blk w' c 93 (cnC k x.dials x.num (ptrV B) (x.gen : Int) (.pointer none) (x.id : Int))) (hside : Blk w' B 141 (Sk.sdC x.side)) (hg : x.ms = [] ∧ x.gen = 0) (hB : B ∉ foot a) (hBb : base ≤ B) (hc : c ∉ foot a) (hcb : base ≤ c) :
  NdAt w' base (setC n k x) (setA a k x ⟨c, B, none⟩) ∧ ∀ b ∈ foot (setA a k x ⟨c, B, none⟩), b ∈ foot a ∨ b = c ∨ b = B := by
 have hsp := h.pm.sep
 have hp : (foot a).Perm ((a.mc :: oldC a k) ++ ([a.g, a.mo, a.ml] ++ (fC (del a.C k) ++ fO a.O))) := by
  rw [foot_eq]
  refine ((((perm_C a k).append_right _).append_left _)).trans ?_
  simp only [List.cons_append, List.nil_append]
  refine List.perm_iff_count.2 fun b => ?_
  simp only [List.count_cons, List.count_append]
  omega
 have hp' : (foot (setA a k x ⟨c, B, none⟩)).Perm ([a.mc, c, B] ++ ([a.g, a.mo, a.ml] ++ (fC (del a.C k) ++ fO a.O))) := by
  rw [foot_eq]
  refine ((((perm_C' a.C k (x, ⟨c, B, none⟩)).append_right _).append_left _)).trans ?_
  show (([a.g, a.mc, a.mo, a.ml]) ++ (([c, B] ++ fC (del a.C k)) ++ fO a.O)).Perm _
  simp only [List.cons_append, List.nil_append]
  refine List.perm_iff_count.2 fun b => ?_
  simp only [List.count_cons, List.count_append]
  omega
 have nd := hp.nodup_iff.1 h.nod
 have dis : ∀ b ∈ [a.g, a.mo, a.ml] ++ (fC (del a.C k) ++ fO a.O), b ≠ a.mc ∧ b ∈ foot a := fun b hb =>
  ⟨fun e => (List.nodup_append.1 nd).2.2 a.mc List.mem_cons_self b hb e.symm, hp.mem_iff.2 (List.mem_append_right _ hb)⟩
 have off : ∀ b ∈ [a.g, a.mo, a.ml] ++ (fC (del a.C k) ++ fO a.O), b ∉ [a.mc] := fun b hb q => (dis b hb).1 (List.mem_singleton.1 q)
 have hcB : c ≠ B := hcon.ne_ hside (by decide)
 have hmc : a.mc ∈ foot a := mem_foot.2 (.inr (.inl rfl))
 refine ⟨⟨?_, fun p hp => ?_, fun p hp => ?_, ?_, h.eO, ?_, fun b hb => ?_, Nat.le_trans h.bz o.size⟩, fun b hb => ?_⟩
 ·
  have e : ((put a.C k (x, (⟨c, B, none⟩ : Cm))).map fun p => (p.1, p.2.2.c)) = put (a.C.map fun p => (p.1, p.2.2.c)) k c := put_map (fun q : Cx × Cm => q.2.c) k (x, ⟨c, B, none⟩) a.C
  refine ⟨h.pm.blk.only o (off _ (by simp)), ?_, h.pm.om.of_heap (o.block _ h.pm.om.lt (off _ (by simp))), h.pm.lm.of_heap (o.block _ h.pm.lm.lt (off _ (by simp))), hsp⟩
  show MapAt w' a.mc strK ptrV ((put a.C k (x, (⟨c, B, none⟩ : Cm))).map fun p => (p.1, p.2.2.c))
  rw [e]
  exact hm
 ·
  rcases mem_put hp with rfl | hq
  ·
   exact ⟨hcon, hside, hg⟩
  ·
   refine (h.cs p (mem_del hq)).keep o (fun b hb => off b ?_)
   have : b ∈ fC (del a.C k) := mem_fC hq hb
   simp [this]
 ·
  refine (h.os p hp).only o (fun b hb => off b ?_)
  have : b ∈ fO a.O := mem_fO hp (by unfold ofoot; rw [hb]; simp)
  simp [this]
 ·
  show ((put a.C k (x, (⟨c, B, none⟩ : Cm))).map fun p => (p.1, Prod.fst p.2)) = put n.C k x
  rw [put_map, ← h.eC]
 ·
  rw [hp'.nodup_iff, List.nodup_append]
  refine ⟨?_, (List.nodup_append.1 nd).2.1, fun p hp q hq e => ?_⟩
  ·
   simp only [List.nodup_cons, List.mem_cons, List.not_mem_nil, or_false, not_false_eq_true, List.nodup_nil, and_true]
   refine ⟨fun q => ?_, hcB⟩
   rcases q with q | q
   ·
    exact hc (by rw [← q]; exact hmc)
   ·
    exact hB (by rw [← q]; exact hmc)
  ·
   subst e
   obtain ⟨q1, q2⟩ := dis p hq
   simp only [List.mem_cons, List.not_mem_nil, or_false] at hp
   rcases hp with rfl | rfl | rfl
   ·
    exact q1 rfl
   ·
    exact hc q2
   ·
    exact hB q2
 ·
  rcases List.mem_append.1 (hp'.mem_iff.1 hb) with q | q
  ·
   simp only [List.mem_cons, List.not_mem_nil, or_false] at q
   rcases q with rfl | rfl | rfl
   ·
    exact ⟨(h.low _ hmc).1, Nat.lt_of_lt_of_le (h.low _ hmc).2 o.size⟩
   ·
    exact ⟨hcb, hcon.lt⟩
   ·
    exact ⟨hBb, hside.lt⟩
  ·
   have := h.low b (dis b q).2
   exact ⟨this.1, Nat.lt_of_lt_of_le this.2 o.size⟩
 ·
  rcases List.mem_append.1 (hp'.mem_iff.1 hb) with q | q
  ·
   simp only [List.mem_cons, List.not_mem_nil, or_false] at q
   rcases q with rfl | rfl | rfl
   ·
    exact .inl hmc
   ·
    exact .inr (.inl rfl)
   ·
    exact .inr (.inr rfl)
  ·
   exact .inl (dis b q).2
def nextN (n : Nd) : Nd := { n with ch := n.ch + 1 }
theorem next_nd {w w' : World} {base : Nat} {n : Nd} {a : Nm} (h : NdAt w base n a) (e : w' = w.setCell ⟨a.g, 3, none⟩ (.int .u64 ((n.ch + 1 : Nat) : Int))) : NdAt w' base (nextN n) a ∧ Trail w w' a a := by
 have o : Only [a.g] w w' := by rw [e]; exact Only.setCell w ⟨a.g, 3, none⟩ _ (by simp)
 have hb : Blk w' a.g 58 (pC n.nm (n.gen : Int) n.ck (n.ch + 1) n.di a.mc a.mo a.ml) := by rw [e]; exact h.pm.blk.set_ 3 _
 have hsp := h.pm.sep
 refine h.step (A := [a.g]) (A' := [a.g]) (R := [a.mc, a.mo, a.ml] ++ (fC a.C ++ fO a.O)) ?_ ?_ o (by simp) (fun b hb => .inl hb) ?_ ?_ ?_ h.eC h.eO rfl
 ·
  rw [foot_eq]; exact List.Perm.refl _
 ·
  rw [foot_eq]; exact List.Perm.refl _
 ·
  exact ⟨hb, h.pm.cm.of_heap (o.block _ h.pm.cm.lt (by simp; omega)), h.pm.om.of_heap (o.block _ h.pm.om.lt (by simp; omega)), h.pm.lm.of_heap (o.block _ h.pm.lm.lt (by simp; omega)), hsp⟩
 ·
  intro q hq
  refine .inl ⟨hq, fun b hb => ?_⟩
  have : b ∈ fC a.C := mem_fC hq hb
  simp [this]
 ·
  intro q hq
  refine .inl ⟨hq, fun b hb => ?_⟩
  have : b ∈ fO a.O := mem_fO hq hb
  simp [this]
def conA (a : Nm) (k : ByteArray) : Value := match get a.C k with
 | none => .pointer none
 | some p => ptrV p.2.c
def busyB (n : Nd) (k : ByteArray) : Option Cx → Bool
 | none => false
 | some x => x.gen == 0 && x.dials && Op.bytesLess n.nm.toList k.toList
def howF (n : Nd) (k : ByteArray) (s : Sk.Sd) : Int := if (s.other.gen : Int) < (get n.L k).getD 0 then 3 else if busyB n k (get n.C k) then 2 else 1
def helS (n : Nd) (cont : ByteArray) : Sk.Res := Sk.takeF (Sk.listenS ⟨n.nm, n.gen⟩ n.ck n.ch) cont
def remO (k : ByteArray) : Option Cx → List Ev
 | none => []
 | some x => remE k x
def helloN (n : Nd) (k : ByteArray) (num : Nat) (cont : ByteArray) : Nd × List Ev :=
 let r := helS n cont
 if r.2.2 ≠ 0 ∨ r.1.other.name ≠ k then (sendN (nextN n) k (pkF false num 66 ⟨#[]⟩), [])
 else
  let an := Sk.answerF r.1 (howF n k r.1)
  if howF n k r.1 ≠ 1 then (sendN (nextN n) k (pkF false num 72 an.2.1), [])
  else (sendN (setC (remN (nextN n) k) k ⟨false, num, an.1, 0, [], 0⟩) k (pkF false num 72 an.2.1), remO k (get n.C k))
theorem fld52n (a : ByteArray) (g : Int) (W : World) : (Instr.field 52 (.agg #[.string a, .int .i64 g]) 0).run Tryz.prog W = .ok (.string a) W := by kernel_rfl
theorem look_last {w : World} {ml : Nat} {L : List (ByteArray × Int)} (h : MapAt w ml strK numV L) (k : ByteArray) : (Instr.lookup 56 (.map (some ml)) (.string k) false).run Tryz.prog w = .ok (.int .i64 ((get L k).getD 0)) w := by
 have := run_lookup1 (str_emb undS) und77 h (z := .int .i64 0) (by kernel_rfl) k
 cases hg : get L k <;> simp [hg] at this ⊢ <;> exact this
theorem EvsAt.keep {n0 : Nat} {w w' : World} {v : Value} {l : List Ev} {F : List Nat} (h : EvsAt n0 w v l) (o : Only F w w') (hF : ∀ b ∈ F, b < n0 ∨ w.heap.size ≤ b) : EvsAt n0 w' v l := by
 cases l with
 | nil => exact h
 | cons e r =>
  cases r with
  | nil =>
   obtain ⟨b, x, h1, h2, h3, h4⟩ := h
   refine ⟨b, x, h1, h2.only o (fun q => ?_), h3, h4.onlyB o (fun b hb hl q => ?_)⟩
   ·
    have := h2.lt
    rcases hF b q with z | z <;> omega
   ·
    rcases hF b q with z | z <;> omega
  | cons _ _ => exact h.elim
theorem foot_rem {w : World} {base : Nat} {n : Nd} {a : Nm} (_ : NdAt w base n a) (k : ByteArray) : ∀ b ∈ foot (remA a k), b ∈ foot a := by
 intro b hb
 rcases mem_foot.1 hb with q | q | q | q | ⟨p, hp, q⟩ | q
 ·
  exact mem_foot.2 (.inl q)
 ·
  exact mem_foot.2 (.inr (.inl q))
 ·
  exact mem_foot.2 (.inr (.inr (.inl q)))
 ·
  exact mem_foot.2 (.inr (.inr (.inr (.inl q))))
 ·
  exact mem_foot.2 (.inr (.inr (.inr (.inr (.inl ⟨p, mem_del hp, q⟩)))))
 ·
  exact mem_foot.2 (.inr (.inr (.inr (.inr (.inr q)))))
structure NdOk (n : Nd) : Prop where
 ok : newOk n.nm (n.gen : Int) = true
 ck : n.ck.size ≤ 6000
 ch : n.ch + 1 < 18446744073709551616
def HelR (w : World) (base : Nat) (n : Nd) (a : Nm) (bx B : Nat) (px : Px) (sd : Sk.Sd) (wc : World) : Prop := NdAt wc base (nextN n) a ∧ Trail w wc a a ∧ Blk wc bx 104 (pxC px) ∧ Blk wc B 141 (Sk.sdC sd)
set_option maxRecDepth 100000 in
set_option maxHeartbeats 16000000 in
theorem hello_any {w : World} {base : Nat} {n : Nd} {a : Nm} (h : NdAt w base n a) (hk : NdOk n) (k : ByteArray) (px : Px) (hc : px.cont.size ≤ 100000) (hl : ((get n.O k).getD []).length ≤ 99999999) (hT : Sk.Tabs w) (hb2 : 2 ≤ base) :
  Calls Tryz.prog 44 #[ptrV a.g, .string k, conA a k, .agg (pxC px)] w (Done w base a (helloN n k px.num px.cont).1 (helloN n k px.num px.cont).2) := by
 obtain ⟨RN, RE, hR⟩ : ∃ RN RE, helloN n k px.num px.cont = (RN, RE) := ⟨_, _, rfl⟩
 have HR := Lib.hid hR
 rw [hR]
 have HB2 := Lib.hid hb2
 have HB0 := Lib.hid h.bz
 clear hb2
 obtain ⟨cv, hcv⟩ : ∃ v, v = conA a k := ⟨_, rfl⟩
 have HCV := Lib.hid hcv
 rw [← hcv]
 clear hcv hR
 have AL := (Below.refl w.heap.size w).alloc (Nat.le_refl _) (.cells (pxC px) 104)
 have X := Lib.hid (Blk.new w 104 (pxC px))
 have H := Lib.hid (h.below AL)
 have T := Lib.hid (Trail.below a AL)
 have TT := Lib.hid (hT.below AL hT.two)
 obtain ⟨bx, hbx⟩ : ∃ q, q = w.heap.size := ⟨_, rfl⟩
 have HBX : Hid (bx ∉ foot a) := Lib.hid (fun q => by have := (h.low _ q).2; omega)
 rw [← hbx] at X
 clear AL hT h
 unfold pxC ptrV at *
 go_enter Tryz.func44, Tryz.ntmps44
 go_upto_region 1 with fail
 rw [← hbx]
 generalize w.alloc (.cells _ 104) = w1 at *
 clear hbx
 have g0 : w1.cell? ⟨a.g, 0, none⟩ = some (.string n.nm) := H.out.pm.blk.cell 0
 have g1 : w1.cell? ⟨a.g, 1, none⟩ = some (.int .i64 (n.gen : Int)) := H.out.pm.blk.cell 1
 have g2 : w1.cell? ⟨a.g, 2, none⟩ = some (.string n.ck) := H.out.pm.blk.cell 2
 have CN := Lib.hid (next_any a.g n.nm (n.gen : Int) n.ck n.ch n.di a.mc a.mo a.ml hk.ch w1.drew H.out.pm.blk.drew)
 have CL := Lib.hid (fun W => Sk.listen_yes n.nm n.gen n.ck n.ch hk.ok W)
 have HK := Lib.hid hk
 clear hk
 replace T : Hid (Trail w w1.drew a a) := Lib.hid (T.out.trans (Trail.below a (Below.refl _ w1).drew))
 replace H : Hid (NdAt w1.drew base n a) := Lib.hid (H.out.below (Below.refl _ w1).drew)
 replace X : Hid (Blk w1.drew bx 104 #[.bool px.dials, .int .u64 (px.num : Int), .int .u8 (px.kind : Int), .string px.cont]) := Lib.hid X.out.drew
 replace TT : Hid (Sk.Tabs w1.drew) := Lib.hid (TT.out.below (Below.refl _ w1).drew TT.out.two)
 go_region_held3 (fun w' => w'.cell? ⟨a.g, 0, none⟩ = some (.string n.nm) ∧ w'.cell? ⟨a.g, 1, none⟩ = some (.int .i64 (n.gen : Int)) ∧ w'.cell? ⟨a.g, 2, none⟩ = some (.string n.ck)) (first | exact ⟨g0, g1, g2⟩ | exact ⟨m0, m1, m2⟩)
  ((first
   | (go_at_call 33; refine CN.out.mono ?_; rintro e w2 ⟨rfl, e2⟩; have HN := Lib.hid (next_nd H.out e2); have m0 : w2.cell? ⟨a.g, 0, none⟩ = some (.string n.nm) := HN.out.1.pm.blk.cell 0; have m1 : w2.cell? ⟨a.g, 1, none⟩ = some (.int .i64 (n.gen : Int)) := HN.out.1.pm.blk.cell 1; have m2 : w2.cell? ⟨a.g, 2, none⟩ = some (.string n.ck) := HN.out.1.pm.blk.cell 2; clear e2)
   | (go_at_call 79; refine (CL.out _).mono ?_; rintro e w3 ⟨B, rfl, hB, xB, b3⟩; have HN3 := Lib.hid (HN.out.1.below b3); have m0 : w3.cell? ⟨a.g, 0, none⟩ = some (.string n.nm) := HN3.out.pm.blk.cell 0; have m1 : w3.cell? ⟨a.g, 1, none⟩ = some (.int .i64 (n.gen : Int)) := HN3.out.pm.blk.cell 1; have m2 : w3.cell? ⟨a.g, 2, none⟩ = some (.string n.ck) := HN3.out.pm.blk.cell 2)))
 have OW := HN.out.2.only
 have XW : Blk w2 bx 104 #[.bool px.dials, .int .u64 (px.num : Int), .int .u8 (px.kind : Int), .string px.cont] := X.out.only OW HBX.out
 have TW : Sk.Tabs w2 := Sk.Tabs.only TT.out OW (fun q => by have := (H.out.low _ q).1; have := HB2.out; omega) (fun q => by have := (H.out.low _ q).1; have := HB2.out; omega)
 have X3 : Hid (Blk w3 bx 104 #[.bool px.dials, .int .u64 (px.num : Int), .int .u8 (px.kind : Int), .string px.cont]) := Lib.hid (XW.below b3 XW.lt)
 have TT3 := Lib.hid (TW.below b3 TW.two)
 have T3 := Lib.hid ((T.out.trans HN.out.2).trans (Trail.below a b3))
 have HBn : Hid (w.heap.size ≤ B ∧ B ∉ foot a ∧ B ≠ bx) := Lib.hid ⟨Nat.le_trans T.out.only.size (Nat.le_trans OW.size hB), fun q => by have := (HN.out.1.low _ q).2; omega, fun q => by have := XW.lt; omega⟩
 have HXB := Lib.hid xB
 have H3 := Lib.hid HN3.out
 clear OW XW TW hB xB b3 HN3 m0 m1 m2 HN T H X TT g0 g1 g2 CN CL
 have hok := HK.out.ok
 unfold newOk Sk.genI at hok
 simp only [Bool.and_eq_true, decide_eq_true_eq] at hok
 have HFI : Hid (Sk.Fine (Sk.listenS ⟨n.nm, n.gen⟩ n.ck n.ch)) := Lib.hid (Sk.Fine.listenS ⟨hok.1, by show 1 ≤ n.gen; omega, by show n.gen ≤ 2147483647; omega⟩ HK.out.ck (by have := HK.out.ch; omega))
 have CT := Lib.hid (Sk.take1_any _ HFI.out.1 rfl px.cont hc B w3 HXB.out TT3.out)
 have HFT := Lib.hid (HFI.out.take px.cont)
 obtain ⟨r, hr⟩ : ∃ r, r = helS n px.cont := ⟨_, rfl⟩
 have hr2 : Sk.takeF (Sk.listenS ⟨n.nm, n.gen⟩ n.ck n.ch) px.cont = r := hr.symm
 rw [hr2] at CT HFT
 have HRQ := Lib.hid hr
 clear hok hr hr2 HFI TT3
 obtain ⟨sd, out, err⟩ := r
 have c3 : w3.cell? ⟨bx, 3, none⟩ = some (.string px.cont) := X3.out.cell 3
 go_wp2_with fail
 refine CT.out.mono ?_
 rintro e w4 ⟨rfl, q1, q2⟩
 have hbf : ∀ b ∈ foot a, b ∉ [B] := fun b hb q => HBn.out.2.1 (by rw [← List.mem_singleton.1 q]; exact hb)
 have H4 := Lib.hid (H3.out.keep q2 hbf)
 have T4 : Hid (Trail w w4 a a) := Lib.hid ⟨only_more T3.out.only q2 (fun b hb => by rw [List.mem_singleton.1 hb]; exact HBn.out.1), T3.out.new, rfl⟩
 have X4 := Lib.hid (X3.out.only q2 (fun q => HBn.out.2.2 (List.mem_singleton.1 q).symm))
 have XB := Lib.hid q1
 clear q1 q2 hbf CT HXB X3 T3 H3 c3
 have hF : helloN n k px.num px.cont = if err ≠ 0 ∨ sd.other.name ≠ k then (sendN (nextN n) k (pkF false px.num 66 ⟨#[]⟩), []) else if howF n k sd ≠ 1 then (sendN (nextN n) k (pkF false px.num 72 (Sk.answerF sd (howF n k sd)).2.1), [])
   else (sendN (setC (remN (nextN n) k) k ⟨false, px.num, (Sk.answerF sd (howF n k sd)).1, 0, [], 0⟩) k (pkF false px.num 72 (Sk.answerF sd (howF n k sd)).2.1), remO k (get n.C k)) := by
  unfold helloN
  rw [← HRQ.out]
 rw [HR.out] at hF
 have FB : Hid (err ≠ 0 ∨ sd.other.name ≠ k → RN = sendN (nextN n) k (pkF false px.num 66 ⟨#[]⟩) ∧ RE = []) := Lib.hid (fun q => by rw [if_pos q] at hF; exact Prod.mk.inj hF)
 have FO : Hid (¬ (err ≠ 0 ∨ sd.other.name ≠ k) → ∀ H : Int, howF n k sd = H → H ≠ 1 → RN = sendN (nextN n) k (pkF false px.num 72 (Sk.answerF sd H).2.1) ∧ RE = []) := Lib.hid (fun q H e q2 => by rw [if_neg q, e, if_pos q2] at hF; exact Prod.mk.inj hF)
 have FA : Hid (¬ (err ≠ 0 ∨ sd.other.name ≠ k) → howF n k sd = 1 → RN = sendN (setC (remN (nextN n) k) k ⟨false, px.num, (Sk.answerF sd 1).1, 0, [], 0⟩) k (pkF false px.num 72 (Sk.answerF sd 1).2.1) ∧ RE = remO k (get n.C k)) := Lib.hid (fun q q2 => by rw [if_neg q, if_neg (fun z => z q2), q2] at hF; exact Prod.mk.inj hF)
 have HLQ : Hid (((get (nextN n).O k).getD []).length ≤ 99999999) := Lib.hid hl
 have CP := Lib.hid (Sk.peerP_any sd B w4 XB.out)
 have hfd := fld52n sd.other.name (sd.other.gen : Int)
 clear hF HR HRQ hl
 by_cases hbad : err ≠ 0 ∨ sd.other.name ≠ k
 ·
  obtain ⟨rfl, rfl⟩ := FB.out hbad
  clear FB FO FA
  have HBAD := Lib.hid hbad
  clear hbad
  by_cases he : err = 0
  case' pos =>
   have hne : sd.other.name ≠ k := HBAD.out.resolve_left (fun q => q he)
   have he1 : ((err : Int) != 0) = false := by rw [he]; rfl
   have hst : (sd.other.name.toList == k.toList) = false := by rw [beq_eq_false_iff_ne]; exact fun q => hne (WideShapes.bytes_inj (by simpa [ByteArray.toList_eq] using q))
   clear hne he
   go_wp2_with fail
   refine CP.out.mono ?_
   rintro e w5 ⟨rfl, b5⟩
   have H5 := Lib.hid (H4.out.below b5)
   have T5 := Lib.hid (T4.out.trans (Trail.below a b5))
   have X5 := Lib.hid (X4.out.below b5 X4.out.lt)
   have c1 : w5.cell? ⟨bx, 1, none⟩ = some (.int .u64 (px.num : Int)) := X5.out.cell 1
   clear b5 CP H4 T4 X4
   go_upto_region 5 with fail
  case' neg =>
   have he1 : ((err : Int) != 0) = true := by rw [bne_iff_ne]; omega
   have H5 := H4
   have T5 := T4
   have c1 : w4.cell? ⟨bx, 1, none⟩ = some (.int .u64 (px.num : Int)) := X4.out.cell 1
   clear he CP H4 T4
   go_upto_region 5 with fail
  all_goals
   have CS := Lib.hid (send_nd H5.out k false px.num 66 ⟨#[]⟩ (by decide) (by have := HLQ.out; omega))
   unfold ptrV at CS
   go_wp2_with fail
   refine CS.out.mono ?_
   rintro e w6 ⟨rfl, v, h1, h2⟩
   have D : Hid (Done w base a (sendN (nextN n) k (pkF false px.num 66 ⟨#[]⟩)) [] (.returned (.slice none 0 0)) w6) := Lib.hid ⟨_, _, rfl, rfl, h1, T5.out.trans h2⟩
   clear h1 h2 CS H5 T5
   go_wp2_with fail
   go_ret
   exact D.out
 ·
  have HGD := Lib.hid hbad
  have FO2 := Lib.hid (FO.out hbad)
  have FA2 := Lib.hid (FA.out hbad)
  have he : err = 0 := Classical.not_not.1 (fun q => hbad (.inl q))
  have hn : sd.other.name = k := Classical.not_not.1 (fun q => hbad (.inr q))
  have he1 : ((err : Int) != 0) = false := by rw [he]; rfl
  have hst : (sd.other.name.toList == k.toList) = true := by rw [beq_iff_eq, hn]
  have hfd1 := fld52 sd.other.name (sd.other.gen : Int)
  clear hbad FB FO FA he hn
  obtain ⟨LV, hLV⟩ : ∃ v, v = (get n.L k).getD 0 := ⟨_, rfl⟩
  have HLV := Lib.hid hLV
  clear hLV
  go_wp2_with fail
  refine CP.out.mono ?_
  rintro e w5 ⟨rfl, b5⟩
  have XB5 := Lib.hid (XB.out.below b5 XB.out.lt)
  have H5 := Lib.hid (H4.out.below b5)
  have T5 := Lib.hid (T4.out.trans (Trail.below a b5))
  have X5 := Lib.hid (X4.out.below b5 X4.out.lt)
  clear b5 CP H4 T4 X4 XB
  obtain ⟨HV, hHV⟩ : ∃ v, v = howF n k sd := ⟨_, rfl⟩
  have HHV := Lib.hid hHV
  rw [← hHV] at FA2
  clear hHV
  have FO3 := Lib.hid (FO2.out HV HHV.out.symm)
  clear FO2
  go_upto_block 0 with fail
  clear hfd hst he1
  go_cut [11] from 53 (fun s11 wx => s11 = .int .i64 HV ∧ Hid (HelR w base n a bx B px sd wx))
  case first =>
   replace H5 : Hid (NdAt w5.drew base (nextN n) a) := Lib.hid (H5.out.below (Below.refl _ w5).drew)
   replace T5 : Hid (Trail w w5.drew a a) := Lib.hid (T5.out.trans (Trail.below a (Below.refl _ w5).drew))
   replace X5 : Hid (Blk w5.drew bx 104 #[.bool px.dials, .int .u64 (px.num : Int), .int .u8 (px.kind : Int), .string px.cont]) := Lib.hid X5.out.drew
   replace XB5 : Hid (Blk w5.drew B 141 (Sk.sdC sd)) := Lib.hid XB5.out.drew
   have CP := Lib.hid (Sk.peerP_any sd B w5.drew XB5.out)
   have c7 : w5.drew.cell? ⟨a.g, 7, none⟩ = some (.map (some a.ml)) := H5.out.pm.blk.cell 7
   have lk : (Instr.lookup 56 (.map (some a.ml)) (.string k) false).run Tryz.prog w5.drew = .ok (.int .i64 LV) w5.drew := by rw [HLV.out]; exact look_last H5.out.pm.lm k
   clear FA2 FO3 HLQ
   go_upto_region 8 with fail
   go_region_held3 (fun w' => w'.cell? ⟨a.g, 7, none⟩ = some (.map (some a.ml)) ∧ (Instr.lookup 56 (.map (some a.ml)) (.string k) false).run Tryz.prog w' = .ok (.int .i64 LV) w') (first | exact ⟨c7, lk⟩ | exact ⟨d7, ld⟩)
    ((go_at_call 75; refine CP.out.mono ?_; rintro e w6 ⟨rfl, b6⟩; have H6 := Lib.hid (H5.out.below b6); have T6 := Lib.hid (T5.out.trans (Trail.below a b6)); have X6 := Lib.hid (X5.out.below b6 X5.out.lt); have XB6 := Lib.hid (XB5.out.below b6 XB5.out.lt); have d7 : w6.cell? ⟨a.g, 7, none⟩ = some (.map (some a.ml)) := H6.out.pm.blk.cell 7; have ld : (Instr.lookup 56 (.map (some a.ml)) (.string k) false).run Tryz.prog w6 = .ok (.int .i64 LV) w6 := (by rw [HLV.out]; exact look_last H6.out.pm.lm k)))
   all_goals
    clear c7 lk d7 ld CP H5 T5 X5 XB5 hfd1 b6
    by_cases hL : (sd.other.gen : Int) < LV
    ·
     have HW : Hid (HV = 3) := Lib.hid (by rw [HHV.out]; unfold howF; rw [← HLV.out, if_pos hL])
     have dL : decide ((sd.other.gen : Int) < LV) = true := decide_eq_true hL
     rw [dL]
     clear hL dL
     go_wp2_with fail
     go_meet
     case rel => exact ⟨by rw [HW.out], Lib.hid ⟨H6.out, T6.out, X6.out, XB6.out⟩⟩
    ·
     have dL : decide ((sd.other.gen : Int) < LV) = false := decide_eq_false hL
     rw [dL]
     clear dL
     cases hq : get a.C k with
     | none =>
      have hcv : cv = .pointer none := by rw [HCV.out]; unfold conA; rw [hq]
      have hqn : get n.C k = none := by have := H6.out.getC k; rw [hq] at this; exact this
      have HW : Hid (HV = 1) := Lib.hid (by rw [HHV.out]; unfold howF; rw [← HLV.out, if_neg hL, hqn]; rfl)
      have hp0 := ptr_nil0
      obtain rfl := hcv
      clear hq hqn hL
      go_wp2_with fail
      go_meet
      case rel => exact ⟨by rw [HW.out], Lib.hid ⟨H6.out, T6.out, X6.out, XB6.out⟩⟩
     | some p =>
      obtain ⟨x, m⟩ := p
      have hcv : cv = .pointer (some ⟨m.c, 0, none⟩) := by rw [HCV.out]; unfold conA; rw [hq]; rfl
      have hqn : get n.C k = some x := by have := H6.out.getC k; rw [hq] at this; exact this
      obtain ⟨-, -, c4⟩ := lookB (H6.out.conn hq)
      have k1 : w6.cell? ⟨m.c, 1, none⟩ = some (.bool x.dials) := (H6.out.conn hq).con.cell 1
      have g0 : w6.cell? ⟨a.g, 0, none⟩ = some (.string n.nm) := H6.out.pm.blk.cell 0
      have hp1 := ptr_nil1 ⟨m.c, 0, none⟩
      have hBu : busyB n k (get n.C k) = (x.gen == 0 && x.dials && Op.bytesLess n.nm.toList k.toList) := by rw [hqn]; rfl
      have HWX : Hid (HV = if (x.gen == 0 && x.dials && Op.bytesLess n.nm.toList k.toList) = true then 2 else 1) := Lib.hid (by rw [HHV.out]; unfold howF; rw [← HLV.out, if_neg hL, hBu])
      obtain rfl := hcv
      clear hq hqn hBu hL
      obtain ⟨b3, hb3⟩ : ∃ y, y = Op.bytesLess n.nm.toList k.toList := ⟨_, rfl⟩
      obtain ⟨b2, hb2⟩ : ∃ y, y = x.dials := ⟨_, rfl⟩
      rw [← hb3, ← hb2] at HWX
      rw [← hb2] at k1
      have HB3 := hb3.symm
      clear hb3 hb2
      by_cases hg : x.gen = 0
      ·
       have hg2 : (x.gen == 0) = true := by rw [hg]; rfl
       rw [hg2] at HWX
       have c4' : w6.cell? ⟨m.c, 4, none⟩ = some (.int .i64 0) := by rw [c4, hg]; rfl
       clear c4 hg hg2
       cases b2 with
       | true =>
        cases b3 with
        | true =>
         have HW : Hid (HV = 2) := Lib.hid HWX.out
         clear HWX
         go_wp2_with fail
         go_meet
         case rel => exact ⟨by rw [HW.out], Lib.hid ⟨H6.out, T6.out, X6.out, XB6.out⟩⟩
        | false =>
         have HW : Hid (HV = 1) := Lib.hid HWX.out
         clear HWX
         go_wp2_with fail
         go_meet
         case rel => exact ⟨by rw [HW.out], Lib.hid ⟨H6.out, T6.out, X6.out, XB6.out⟩⟩
       | false =>
        have HW : Hid (HV = 1) := Lib.hid HWX.out
        clear HWX
        go_wp2_with fail
        go_meet
        case rel => exact ⟨by rw [HW.out], Lib.hid ⟨H6.out, T6.out, X6.out, XB6.out⟩⟩
      ·
       have hg1 : ((x.gen : Int) == 0) = false := by rw [beq_eq_false_iff_ne]; omega
       have hg2 : (x.gen == 0) = false := by rw [beq_eq_false_iff_ne]; omega
       rw [hg2] at HWX
       have HW : Hid (HV = 1) := Lib.hid HWX.out
       clear HWX hg hg2
       go_wp2_with fail
       go_meet
       case rel => exact ⟨by rw [HW.out], Lib.hid ⟨H6.out, T6.out, X6.out, XB6.out⟩⟩
  case rest =>
   obtain ⟨rfl, hR⟩ := hcut
   have H6 := Lib.hid hR.out.1
   have T6 := Lib.hid hR.out.2.1
   have X6 := Lib.hid hR.out.2.2.1
   have XB6 := Lib.hid hR.out.2.2.2
   clear hR H5 T5 X5 XB5 HLV hfd1 HHV HGD
   have hHo := Sk.answer_out sd HFT.out HV
   have CB := Lib.hid (Sk.answer_any sd HFT.out.1 HFT.out.2 HV B wc XB6.out)
   by_cases hH : HV = 1
   ·
    obtain ⟨rfl, rfl⟩ := FA2.out hH
    obtain rfl := hH
    obtain ⟨an, han⟩ : ∃ y, y = Sk.answerF sd 1 := ⟨_, rfl⟩
    rw [← han] at hHo CB
    have HAN := Lib.hid han.symm
    clear han FO3 FA2
    obtain ⟨sd2, o2, e2⟩ := an
    have HO : Hid (o2.size ≤ 100) := Lib.hid hHo
    clear hHo
    go_wp2_with fail
    refine CB.out.mono ?_
    rintro e w7 ⟨rfl, q1, q2⟩
    have H7 := Lib.hid (H6.out.keep q2 (fun b hb q => HBn.out.2.1 (by rw [← List.mem_singleton.1 q]; exact hb)))
    have T7 : Hid (Trail w w7 a a) := Lib.hid ⟨only_more T6.out.only q2 (fun b hb => by rw [List.mem_singleton.1 hb]; exact HBn.out.1), T6.out.new, rfl⟩
    have X7 := Lib.hid (X6.out.only q2 (fun q => HBn.out.2.2 (List.mem_singleton.1 q).symm))
    have XB7 := Lib.hid q1
    clear q1 q2 CB H6 T6 X6 XB6
    have HLT : Hid (∀ b ∈ foot a, b < w7.heap.size) := Lib.hid (fun b hb => (H7.out.low b hb).2)
    have HBW : Hid (B < w7.heap.size) := Lib.hid XB7.out.lt
    obtain ⟨N0, hN0⟩ : ∃ y, y = w7.heap.size := ⟨_, rfl⟩
    have HN0 : Hid (w.heap.size ≤ N0) := Lib.hid (by rw [hN0]; exact T7.out.only.size)
    have HN1 : Hid (N0 = w7.heap.size) := Lib.hid hN0
    rw [← hN0] at HLT HBW
    clear hN0
    rcases hq : get a.C k with _ | ⟨x, m⟩
    case' none =>
     have hcv : cv = .pointer none := by rw [HCV.out]; unfold conA; rw [hq]
     have hqn : get n.C k = none := by have := H7.out.getC k; rw [hq] at this; exact this
     have hp0 := ptr_nil0
     have hnn : remN (nextN n) k = nextN n := by
      show ({ nextN n with C := del n.C k } : Nd) = _
      rw [del_none _ _ hqn]
      rfl
     obtain ⟨ev, hev⟩ : ∃ y, y = Value.slice none 0 0 := ⟨_, rfl⟩
     have HEV := Lib.hid hev
     have HQN := Lib.hid hqn
     obtain ⟨a8, ha8⟩ : ∃ y, y = a := ⟨_, rfl⟩
     have H8 : Hid (NdAt w7 base (remN (nextN n) k) a8) := Lib.hid (by rw [hnn, ha8]; exact H7.out)
     have EV : Hid (EvsAt N0 w7 ev (remO k (get n.C k))) := Lib.hid (by rw [hqn]; exact hev)
     have F8 : Hid (∀ b ∈ foot a8, b ∈ foot a) := Lib.hid (fun _ h => by rw [← ha8]; exact h)
     have A8 : Hid (a8.g = a.g) := Lib.hid (by rw [ha8])
     have T8 : Hid (Trail w w7 a a8) := Lib.hid (by rw [ha8]; exact T7.out)
     have X8 := X7
     have XB8 := XB7
     have HNS : Hid (N0 ≤ w7.heap.size) := Lib.hid (by have := HN1.out; omega)
     obtain rfl := hcv
     clear hq hqn hnn hev ha8
     go_upto_region 17 with fail
     clear H7 T7 X7 XB7 hp0 HN1
     generalize w7 = w8 at *
    case' some =>
     have hcv : cv = .pointer (some ⟨m.c, 0, none⟩) := by rw [HCV.out]; unfold conA; rw [hq]; rfl
     have hqn : get n.C k = some x := by have := H7.out.getC k; rw [hq] at this; exact this
     have hp1 := ptr_nil1 ⟨m.c, 0, none⟩
     have CR := Lib.hid (remove_nd H7.out k x m (H7.out.conn hq) (H7.out.con_ne hq))
     unfold ptrV at CR
     have HQN := Lib.hid hqn
     obtain rfl := hcv
     clear hq hqn
     go_wp2_with fail
     refine CR.out.mono ?_
     rintro e w8 ⟨ev, rfl, h1, h2, h3⟩
     have EV : Hid (EvsAt N0 w8 ev (remO k (get n.C k))) := Lib.hid (by rw [HQN.out, HN1.out]; exact h1)
     have H8 := Lib.hid h2
     have F8 := Lib.hid (foot_rem H7.out k)
     have A8 : Hid ((remA a k).g = a.g) := Lib.hid rfl
     have T8 := Lib.hid (T7.out.trans h3)
     have X8 := Lib.hid (X7.out.only h3.only HBX.out)
     have XB8 := Lib.hid (XB7.out.only h3.only HBn.out.2.1)
     have HNS : Hid (N0 ≤ w8.heap.size) := Lib.hid (by rw [HN1.out]; exact h3.only.size)
     clear h1 h2 h3 CR H7 T7 X7 XB7 HN1
     go_upto_region 17 with fail
     clear hp1
     generalize remA a k = a8 at *
    all_goals
     have c5 : w8.cell? ⟨a.g, 5, none⟩ = some (.map (some a8.mc)) := by have := H8.out.pm.blk.cell 5; rw [A8.out] at this; exact this
     have c1 : w8.cell? ⟨bx, 1, none⟩ = some (.int .u64 (px.num : Int)) := X8.out.cell 1
     have AL := (Below.refl w8.heap.size w8.drew).alloc (Nat.le_refl _) (.cells (cnC k false px.num (ptrV B) 0 (.pointer none) 0) 93)
     have BC := Blk.new w8.drew 93 (cnC k false px.num (ptrV B) 0 (.pointer none) 0)
     have HM9 : Hid (NdAt (w8.drew.alloc (.cells (cnC k false px.num (ptrV B) 0 (.pointer none) 0) 93)) base (remN (nextN n) k) a8) := Lib.hid ((H8.out.below (Below.refl _ w8).drew).below AL)
     have O9 : Hid (Only [a8.mc] w8 (w8.drew.alloc (.cells (cnC k false px.num (ptrV B) 0 (.pointer none) 0) 93))) := Lib.hid ((Only.drew _ w8).trans (Only.of_below AL))
     have XB9 := Lib.hid ((XB8.out.drew).below AL XB8.out.lt)
     have X9 := Lib.hid ((X8.out.drew).below AL X8.out.lt)
     have XC := Lib.hid BC
     clear AL BC
     unfold cnC ptrV at HM9 O9 XB9 XC X9
     have d5 : (w8.drew.alloc (.cells #[.string k, .bool false, .int .u64 (px.num : Int), .pointer (some ⟨B, 0, none⟩), .int .i64 0, .pointer none, .int .i64 0] 93)).cell? ⟨a.g, 5, none⟩ = some (.map (some a8.mc)) := by have := HM9.out.pm.blk.cell 5; rw [A8.out] at this; exact this
     have d1 : (w8.drew.alloc (.cells #[.string k, .bool false, .int .u64 (px.num : Int), .pointer (some ⟨B, 0, none⟩), .int .i64 0, .pointer none, .int .i64 0] 93)).cell? ⟨bx, 1, none⟩ = some (.int .u64 (px.num : Int)) := X9.out.cell 1
     obtain ⟨o, hu, hm⟩ := run_update (P := Tryz.prog) (str_emb undS) und75 HM9.out.pm.cm k w8.heap.size
     replace hu : (Instr.mapUpdate 54 (.map (some a8.mc)) (.string k) (.pointer (some ⟨w8.heap.size, 0, none⟩))).run Tryz.prog (w8.alloc (.cells #[.string k, .bool false, .int .u64 (px.num : Int), .pointer (some ⟨B, 0, none⟩), .int .i64 0, .pointer none, .int .i64 0] 93)).drew = .ok () ((w8.alloc (.cells #[.string k, .bool false, .int .u64 (px.num : Int), .pointer (some ⟨B, 0, none⟩), .int .i64 0, .pointer none, .int .i64 0] 93)).drew.putObj a8.mc o) := hu
     have hB8 : B ∉ foot a8 := fun q => HBn.out.2.1 (F8.out _ q)
     have hbx8 : bx ∉ foot a8 := fun q => HBX.out (F8.out _ q)
     have hm8 : a8.mc ∈ foot a8 := mem_foot.2 (.inr (.inl rfl))
     have hc8 : w8.heap.size ∉ foot a8 := fun q => by have := (H8.out.low _ q).2; omega
     have OP := Only.putObj (bs := [a8.mc]) (w8.alloc (.cells #[.string k, .bool false, .int .u64 (px.num : Int), .pointer (some ⟨B, 0, none⟩), .int .i64 0, .pointer none, .int .i64 0] 93)).drew a8.mc o (by simp)
     have HN9 := Lib.hid (add_nd HM9.out k ⟨false, px.num, sd2, 0, [], 0⟩ w8.heap.size B OP hm (XC.out.only OP (fun q => hc8 (by rw [show w8.heap.size = a8.mc from List.mem_singleton.1 q]; exact hm8))) (XB9.out.only OP (fun q => hB8 (by rw [List.mem_singleton.1 q]; exact hm8))) ⟨rfl, rfl⟩ hB8 (by have := HBn.out.1; have := T8.out.only.size; have := H8.out.bz; have := HB0.out; omega) hc8 H8.out.bz)
     have X10 := Lib.hid (X9.out.only OP (fun q => hbx8 (by rw [List.mem_singleton.1 q]; exact hm8)))
     have e5 : ((w8.alloc (.cells #[.string k, .bool false, .int .u64 (px.num : Int), .pointer (some ⟨B, 0, none⟩), .int .i64 0, .pointer none, .int .i64 0] 93)).drew.putObj a8.mc o).cell? ⟨a.g, 5, none⟩ = some (.map (some a8.mc)) := by have := HN9.out.1.pm.blk.cell 5; rw [show (setA a8 k ⟨false, px.num, sd2, 0, [], 0⟩ ⟨w8.heap.size, B, none⟩).g = a8.g from rfl, A8.out] at this; exact this
     have e1 : ((w8.alloc (.cells #[.string k, .bool false, .int .u64 (px.num : Int), .pointer (some ⟨B, 0, none⟩), .int .i64 0, .pointer none, .int .i64 0] 93)).drew.putObj a8.mc o).cell? ⟨bx, 1, none⟩ = some (.int .u64 (px.num : Int)) := X10.out.cell 1
     have O10 := Lib.hid (O9.out.trans OP)
     clear hm OP hm8
     go_region_held3 (fun w' => w'.cell? ⟨a.g, 5, none⟩ = some (.map (some a8.mc)) ∧ w'.cell? ⟨bx, 1, none⟩ = some (.int .u64 (px.num : Int))) (first | exact ⟨c5, c1⟩ | exact ⟨d5, d1⟩ | exact ⟨e5, e1⟩) (fail)
     clear c5 c1 d5 d1 hu X9 XB9 XC HM9 O9 e5 X8 XB8 H8
     have HC8 := Lib.hid hc8
     have HB8 := Lib.hid hB8
     clear hc8 hB8 hbx8
     generalize (w8.alloc _).drew.putObj a8.mc o = w9 at *
     have CS := Lib.hid (send_nd HN9.out.1 k false px.num 72 o2 (by have := HO.out; omega) (by have : ((get (setC (remN (nextN n) k) k ⟨false, px.num, sd2, 0, [], 0⟩).O k).getD []).length ≤ 99999999 := HLQ.out; omega))
     rw [show ptrV (setA a8 k ⟨false, px.num, sd2, 0, [], 0⟩ ⟨w8.heap.size, B, none⟩).g = .pointer (some ⟨a.g, 0, none⟩) by rw [← A8.out]; rfl] at CS
     have T9 : Hid (Trail w w9 a (setA a8 k ⟨false, px.num, sd2, 0, [], 0⟩ ⟨w8.heap.size, B, none⟩)) := Lib.hid ⟨only_more2 T8.out.only O10.out (fun b hb => T8.out.new b (by rw [List.mem_singleton.1 hb]; exact mem_foot.2 (.inr (.inl rfl)))), fun b hb => by
      rcases HN9.out.2 b hb with q | rfl | rfl
      ·
       exact T8.out.new b q
      ·
       exact .inr T8.out.only.size
      ·
       exact .inr HBn.out.1, A8.out⟩
     go_wp2_with fail
     refine CS.out.mono ?_
     rintro e w10 ⟨rfl, v, h1, h2⟩
     have OO : Only (foot (setA a8 k ⟨false, px.num, sd2, 0, [], 0⟩ ⟨w8.heap.size, B, none⟩)) w8 w10 := (O10.out.mono (fun b hb => .inl (by rw [List.mem_singleton.1 hb]; exact mem_foot.2 (.inr (.inl rfl))))).trans h2.only
     have EV2 := EV.out.keep OO (fun b hb => by
      rcases HN9.out.2 b hb with q | rfl | rfl
      ·
       exact .inl (HLT.out b (F8.out b q))
      ·
       exact .inr (Nat.le_refl _)
      ·
       exact .inl HBW.out)
     have D : Hid (Done w base a (sendN (setC (remN (nextN n) k) k ⟨false, px.num, (Sk.answerF sd 1).1, 0, [], 0⟩) k (pkF false px.num 72 (Sk.answerF sd 1).2.1)) (remO k (get n.C k)) (.returned ev) w10) := Lib.hid (by rw [HAN.out]; exact ⟨_, _, rfl, EV2.mono HN0.out, h1, T9.out.trans h2⟩)
     clear h1 h2 CS EV2 OO T9 HN9 O10 EV
     go_wp2_with fail
     go_ret
     first
      | exact D.out
      | (have D2 := D.out; rw [HEV.out] at D2; exact D2)
   ·
    obtain ⟨rfl, rfl⟩ := FO3.out hH
    have hH1 : (HV == 1) = false := by rw [beq_eq_false_iff_ne]; exact hH
    obtain ⟨an, han⟩ : ∃ y, y = Sk.answerF sd HV := ⟨_, rfl⟩
    rw [← han] at hHo CB
    have HAN := Lib.hid han.symm
    clear han FO3 FA2 hH
    obtain ⟨sd2, o2, e2⟩ := an
    have HO : Hid (o2.size ≤ 100) := Lib.hid hHo
    clear hHo
    go_wp2_with fail
    refine CB.out.mono ?_
    rintro e w7 ⟨rfl, q1, q2⟩
    have H7 := Lib.hid (H6.out.keep q2 (fun b hb q => HBn.out.2.1 (by rw [← List.mem_singleton.1 q]; exact hb)))
    have T7 : Hid (Trail w w7 a a) := Lib.hid ⟨only_more T6.out.only q2 (fun b hb => by rw [List.mem_singleton.1 hb]; exact HBn.out.1), T6.out.new, rfl⟩
    have X7 := Lib.hid (X6.out.only q2 (fun q => HBn.out.2.2 (List.mem_singleton.1 q).symm))
    clear q1 q2 CB H6 T6 X6 XB6
    have c1 : w7.cell? ⟨bx, 1, none⟩ = some (.int .u64 (px.num : Int)) := X7.out.cell 1
    have CS := Lib.hid (send_nd H7.out k false px.num 72 o2 (by have := HO.out; omega) (by have := HLQ.out; omega))
    unfold ptrV at CS
    go_wp2_with fail
    refine CS.out.mono ?_
    rintro e w8 ⟨rfl, v, h1, h2⟩
    have D : Hid (Done w base a (sendN (nextN n) k (pkF false px.num 72 (Sk.answerF sd HV).2.1)) [] (.returned (.slice none 0 0)) w8) := Lib.hid (by rw [HAN.out]; exact ⟨_, _, rfl, rfl, h1, T7.out.trans h2⟩)
    clear h1 h2 CS H7 T7
    go_wp2_with fail
    go_ret
    exact D.out
def outQ (n : Nd) (k : ByteArray) : List ByteArray := (get n.O k).getD []
def dropO (n : Nd) (k : ByteArray) : Nd := { n with O := del n.O k }
def dropA (a : Nm) (k : ByteArray) : Nm := { a with O := del a.O k }
theorem drop_nd {w w' : World} {base : Nat} {n : Nd} {a : Nm} (h : NdAt w base n a) (k : ByteArray) (o : Only [a.mo] w w') (pm : PM w' a.g a.mc a.mo a.ml n.nm (n.gen : Int) n.ck n.ch n.di (a.C.map fun p => (p.1, p.2.2.c)) (del (a.O.map fun p => (p.1, p.2.1)) k) n.L) :
  NdAt w' base (dropO n k) (dropA a k) ∧ Trail w w' a (dropA a k) ∧ Sl w' base 9 1 strC (outV (a.O.map fun p => (p.1, p.2.1)) k) (outQ n k) ∧ ∀ b, (outV (a.O.map fun p => (p.1, p.2.1)) k).ownBlock = some b → b ∈ foot a ∧ b ∉ foot (dropA a k) := by
 have hp : (foot a).Perm ((a.mo :: oldO a k) ++ ([a.g, a.mc, a.ml] ++ (fC a.C ++ fO (del a.O k)))) := by
  rw [foot_eq]
  refine ((((perm_O a k).append_left _).append_left _)).trans ?_
  simp only [List.cons_append, List.nil_append]
  refine List.perm_iff_count.2 fun b => ?_
  simp only [List.count_cons, List.count_append]
  omega
 have hp' : (foot (dropA a k)).Perm ([a.mo] ++ ([a.g, a.mc, a.ml] ++ (fC a.C ++ fO (del a.O k)))) := by
  rw [foot_eq]
  unfold dropA
  simp only [List.cons_append, List.nil_append]
  refine List.perm_iff_count.2 fun b => ?_
  simp only [List.count_cons, List.count_append]
  omega
 have nd := hp.nodup_iff.1 h.nod
 have hown : ∀ b, (outV (a.O.map fun p => (p.1, p.2.1)) k).ownBlock = some b → b ∈ oldO a k := fun b hb => by rw [← outV_own]; exact Option.mem_toList.2 hb
 have hst := h.step (A := a.mo :: oldO a k) (A' := [a.mo]) (n' := dropO n k) hp hp' (o.mono (fun b hb => .inl (by rw [List.mem_singleton.1 hb]; exact List.mem_cons_self))) (by simp) (fun b hb => .inl (by rw [List.mem_singleton.1 hb]; exact List.mem_cons_self)) (by
   show PM w' a.g a.mc a.mo a.ml n.nm (n.gen : Int) n.ck n.ch n.di _ ((del a.O k).map fun p => (p.1, Prod.fst p.2)) n.L
   rw [del_map]
   exact pm) (fun q hq => by
   refine .inl ⟨hq, fun b hb => ?_⟩
   have : b ∈ fC a.C := mem_fC hq hb
   simp [this]) (fun q hq => by
   refine .inl ⟨mem_del hq, fun b hb => ?_⟩
   have : b ∈ fO (del a.O k) := mem_fO hq hb
   simp [this]) h.eC (by
   show ((del a.O k).map fun p => (p.1, Prod.snd p.2)) = del n.O k
   rw [del_map, ← h.eO]) rfl
 refine ⟨hst.1, hst.2, (h.outV k).only o (fun b hb q => ?_), fun b hb => ⟨hp.mem_iff.2 (List.mem_append_left _ (List.mem_cons_of_mem _ (hown b hb))), fun q => ?_⟩⟩
 ·
  have := (List.nodup_append.1 nd).1
  rw [List.nodup_cons] at this
  exact this.1 (by rw [← List.mem_singleton.1 q]; exact hown b hb)
 ·
  rcases List.mem_append.1 (hp'.mem_iff.1 q) with z | z
  ·
   have := (List.nodup_append.1 nd).1
   rw [List.nodup_cons] at this
   exact this.1 (by rw [← List.mem_singleton.1 z]; exact hown b hb)
  ·
   exact (List.nodup_append.1 nd).2.2 b (List.mem_cons_of_mem _ (hown b hb)) b z rfl
theorem out_nd {w : World} {base : Nat} {n : Nd} {a : Nm} (h : NdAt w base n a) (k : ByteArray) :
  Calls Tryz.prog 21 #[ptrV a.g, .string k] w fun e w' => ∃ v, e = .returned v ∧ Sl w' base 9 1 strC v (outQ n k) ∧ (∀ b, v.ownBlock = some b → b ∈ foot a ∧ b ∉ foot (dropA a k)) ∧ NdAt w' base (dropO n k) (dropA a k) ∧ Trail w w' a (dropA a k) :=
 (out_any h.pm k).mono fun _ _ ⟨h1, h2, h3⟩ => by
  obtain ⟨q1, q2, q3, q4⟩ := drop_nd h k h3 h2
  exact ⟨_, h1, q3, q4, q1, q2⟩
end Go.Proofs.YtoaimoemaoinhaaGreatDoor
