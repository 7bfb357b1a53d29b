/- PeersX: a part of the proof. No condition beyond the premises of each theorem. -/
import Derived.Test.YtoaimoemaoinhaaGreatDoorQp26
import Derived.Test.YtoaimoemaoinhaaGreatDoorQp00
set_option maxRecDepth 100000
namespace Go.Proofs.YtoaimoemaoinhaaGreatDoor
open Go.RowKit Go.Rt Go.Rw Go.Mp
theorem only_more {F G:List Nat} {w w1 w2:World} (h:Only F w w1) (o:Only G w1 w2) (hG:∀ b∈G,w.heap.size≤b):Only F w w2:=
 ⟨o.os.trans h.os,o.tape.trans h.tape,o.output.trans h.output,Nat.le_trans h.size o.size,fun k hk hn=>(o.block k (Nat.lt_of_lt_of_le hk h.size) (fun q=>by have:=hG k q;omega)).trans (h.block k hk hn)⟩
theorem only_more2 {F G:List Nat} {w w1 w2:World} (h:Only F w w1) (o:Only G w1 w2) (hG:∀ b∈G,b∈F∨w.heap.size≤b):Only F w w2:=
 ⟨o.os.trans h.os,o.tape.trans h.tape,o.output.trans h.output,Nat.le_trans h.size o.size,fun k hk hn=>(o.block k (Nat.lt_of_lt_of_le hk h.size) (fun q=>by
  rcases hG k q with z|z
  ·
   exact hn z
  ·
   omega)).trans (h.block k hk hn)⟩
theorem add_nd {w w':World} {base:Nat} {n:Nd} {a:Nm} (h:NdAt w base n a) (k:ByteArray) (x:Cx) (c B:Nat) (o:Only [a.mc] w w') (hm:MapAt w' a.mc strK ptrV (put (a.C.map fun p=>(p.1,p.2.2.c)) k c))
  (hcon:Blk w' c 93 (cnC k x.dials x.num (ptrV B) (x.gen:Int) (.pointer none) (x.id:Int))) (hside:Blk w' B 141 (Sk.sdC x.side)) (hg:x.ms = []∧x.gen=0) (hB:B∉foot a) (hBb:base≤B) (hc:c∉foot a) (hcb:base≤c) :
  NdAt w' base (setC n k x) (setA a k x ⟨c,B,none⟩)∧∀ b∈foot (setA a k x ⟨c,B,none⟩),b∈foot a∨b=c∨b=B:=by
 have hsp:=h.pm.sep;have hp:(foot a).Perm ((a.mc::oldC a k)++([a.g,a.mo,a.ml]++(fC (del a.C k)++fO a.O))):=by
  rw[foot_eq];refine((((perm_C a k).append_right _).append_left _)).trans ?_;simp only[List.cons_append,List.nil_append];refine List.perm_iff_count.2 fun b=>?_
  simp only[List.count_cons,List.count_append];omega
 have hp':(foot (setA a k x ⟨c,B,none⟩)).Perm ([a.mc,c,B]++([a.g,a.mo,a.ml]++(fC (del a.C k)++fO a.O))):=by
  rw[foot_eq];refine((((perm_C' a.C k (x,⟨c,B,none⟩)).append_right _).append_left _)).trans ?_;show (([a.g,a.mc,a.mo,a.ml])++(([c,B]++fC (del a.C k))++fO a.O)).Perm _;simp only[List.cons_append,List.nil_append];refine List.perm_iff_count.2 fun b=>?_
  simp only[List.count_cons,List.count_append];omega
 have nd:=hp.nodup_iff.1 h.nod;have dis:∀ b∈[a.g,a.mo,a.ml]++(fC (del a.C k)++fO a.O),b≠a.mc∧b∈foot a:=fun b hb=>
  ⟨fun e=>(List.nodup_append.1 nd).2.2 a.mc List.mem_cons_self b hb e.symm,hp.mem_iff.2 (List.mem_append_right _ hb)⟩
 have off:∀ b∈[a.g,a.mo,a.ml]++(fC (del a.C k)++fO a.O),b∉[a.mc]:=fun b hb q=>(dis b hb).1 (List.mem_singleton.1 q)
 have hcB:c≠B:=hcon.ne_ hside (by decide);have hmc:a.mc∈foot a:=mem_foot.2 (.inr (.inl rfl));refine⟨⟨?_,fun p hp=>?_,fun p hp=>?_,?_,h.eO,?_,fun b hb=>?_,Nat.le_trans h.bz o.size⟩,fun b hb=>?_⟩
 ·
  have e:((put a.C k (x,(⟨c,B,none⟩:Cm))).map fun p=>(p.1,p.2.2.c))=put (a.C.map fun p=>(p.1,p.2.2.c)) k c:=put_map (fun q:Cx×Cm=>q.2.c) k (x,⟨c,B,none⟩) a.C;refine⟨h.pm.blk.only o (off _ (by simp)),?_,h.pm.om.of_heap (o.block _ h.pm.om.lt (off _ (by simp))),h.pm.lm.of_heap (o.block _ h.pm.lm.lt (off _ (by simp))),hsp⟩;show MapAt w' a.mc strK ptrV ((put a.C k (x,(⟨c,B,none⟩:Cm))).map fun p=>(p.1,p.2.2.c))
  rw[e];exact hm
 ·
  rcases mem_put hp with rfl|hq
  ·
   exact⟨hcon,hside,hg⟩
  ·
   refine(h.cs p (mem_del hq)).keep o (fun b hb=>off b ?_)
   have:b∈fC (del a.C k):=mem_fC hq hb
   simp[this]
 ·
  refine(h.os p hp).only o (fun b hb=>off b ?_)
  have:b∈fO a.O:=mem_fO hp (by unfold ofoot;rw[hb];simp)
  simp[this]
 ·
  show ((put a.C k (x,(⟨c,B,none⟩:Cm))).map fun p=>(p.1,Prod.fst p.2))=put n.C k x;rw[put_map,←h.eC]
 ·
  rw[hp'.nodup_iff,List.nodup_append];refine⟨?_,(List.nodup_append.1 nd).2.1,fun p hp q hq e=>?_⟩
  ·
   simp only[List.nodup_cons,List.mem_cons,List.not_mem_nil,or_false,not_false_eq_true,List.nodup_nil,and_true];refine⟨fun q=>?_,hcB⟩;rcases q with q|q
   ·
    exact hc (by rw[←q];exact hmc)
   ·
    exact hB (by rw[←q];exact hmc)
  ·
   subst e;obtain⟨q1,q2⟩:=dis p hq;simp only[List.mem_cons,List.not_mem_nil,or_false] at hp;rcases hp with rfl|rfl|rfl
   ·
    exact q1 rfl
   ·
    exact hc q2
   ·
    exact hB q2
 ·
  rcases List.mem_append.1 (hp'.mem_iff.1 hb) with q|q
  ·
   simp only[List.mem_cons,List.not_mem_nil,or_false] at q;rcases q with rfl|rfl|rfl
   ·
    exact⟨(h.low _ hmc).1,Nat.lt_of_lt_of_le (h.low _ hmc).2 o.size⟩
   ·
    exact⟨hcb,hcon.lt⟩
   ·
    exact⟨hBb,hside.lt⟩
  ·
   have:=h.low b (dis b q).2
   exact⟨this.1,Nat.lt_of_lt_of_le this.2 o.size⟩
 ·
  rcases List.mem_append.1 (hp'.mem_iff.1 hb) with q|q
  ·
   simp only[List.mem_cons,List.not_mem_nil,or_false] at q;rcases q with rfl|rfl|rfl
   ·
    exact .inl hmc
   ·
    exact .inr (.inl rfl)
   ·
    exact .inr (.inr rfl)
  ·
   exact .inl (dis b q).2
def nextN (n:Nd):Nd:={ n with ch:=n.ch+1 }
theorem next_nd {w w':World} {base:Nat} {n:Nd} {a:Nm} (h:NdAt w base n a) (e:w'=w.setCell ⟨a.g,3,none⟩ (.int .u64 ((n.ch+1:Nat):Int))):NdAt w' base (nextN n) a∧Trail w w' a a:=by
 have o:Only [a.g] w w':=by rw[e];exact Only.setCell w ⟨a.g,3,none⟩ _ (by simp)
 have hb:Blk w' a.g 58 (pC n.nm (n.gen:Int) n.ck (n.ch+1) n.di a.mc a.mo a.ml):=by rw[e];exact h.pm.blk.set_ 3 _
 have hsp:=h.pm.sep;refine h.step (A:=[a.g]) (A':=[a.g]) (R:=[a.mc,a.mo,a.ml]++(fC a.C++fO a.O)) ?_ ?_ o (by simp) (fun b hb=>.inl hb) ?_ ?_ ?_ h.eC h.eO rfl
 ·
  rw[foot_eq];exact List.Perm.refl _
 ·
  rw[foot_eq];exact List.Perm.refl _
 ·
  exact⟨hb,h.pm.cm.of_heap (o.block _ h.pm.cm.lt (by simp;omega)),h.pm.om.of_heap (o.block _ h.pm.om.lt (by simp;omega)),h.pm.lm.of_heap (o.block _ h.pm.lm.lt (by simp;omega)),hsp⟩
 ·
  intro q hq;refine .inl ⟨hq,fun b hb=>?_⟩
  have:b∈fC a.C:=mem_fC hq hb
  simp[this]
 ·
  intro q hq;refine .inl ⟨hq,fun b hb=>?_⟩
  have:b∈fO a.O:=mem_fO hq hb
  simp[this]
def conA (a:Nm) (k:ByteArray):Value:=match get a.C k with
 | none=>.pointer none
 | some p=>ptrV p.2.c
def busyB (n:Nd) (k:ByteArray):Option Cx→Bool
 | none=>false
 | some x=>x.gen==0&&x.dials&&Op.bytesLess n.nm.toList k.toList
def howF (n:Nd) (k:ByteArray) (s:Sk.Sd):Int:=if (s.other.gen:Int)<(get n.L k).getD 0 then 3 else if busyB n k (get n.C k) then 2 else 1
def helS (n:Nd) (cont:ByteArray):Sk.Res:=Sk.takeF (Sk.listenS ⟨n.nm,n.gen⟩ n.ck n.ch) cont
def remO (k:ByteArray):Option Cx→List Ev
 | none=>[]
 | some x=>remE k x
def helloN (n:Nd) (k:ByteArray) (num:Nat) (cont:ByteArray):Nd×List Ev:=
 let r:=helS n cont
 if r.2.2≠0∨r.1.other.name≠k then (sendN (nextN n) k (pkF false num 66 ⟨#[]⟩),[])
 else
  let an:=Sk.answerF r.1 (howF n k r.1)
  if howF n k r.1≠1 then (sendN (nextN n) k (pkF false num 72 an.2.1),[])
  else (sendN (setC (remN (nextN n) k) k ⟨false,num,an.1,0,[],0⟩) k (pkF false num 72 an.2.1),remO k (get n.C k))
theorem fld52n (a:ByteArray) (g:Int) (W:World):(Instr.field 52 (.agg #[.string a,.int .i64 g]) 0).run Tryz.prog W = .ok (.string a) W:=by kernel_rfl
theorem look_last {w:World} {ml:Nat} {L:List (ByteArray×Int)} (h:MapAt w ml strK numV L) (k:ByteArray):(Instr.lookup 56 (.map (some ml)) (.string k) false).run Tryz.prog w = .ok (.int .i64 ((get L k).getD 0)) w:=by
 have:=run_lookup1 (str_emb undS) und77 h (z:=.int .i64 0) (by kernel_rfl) k
 cases hg:get L k<;>simp[hg] at this ⊢<;>exact this
theorem EvsAt.keep {n0:Nat} {w w':World} {v:Value} {l:List Ev} {F:List Nat} (h:EvsAt n0 w v l) (o:Only F w w') (hF:∀ b∈F,b<n0∨w.heap.size≤b):EvsAt n0 w' v l:=by
 cases l with
 | nil=>exact h
 | cons e r=>
  cases r with
  | nil=>
   obtain⟨b,x,h1,h2,h3,h4⟩:=h;refine⟨b,x,h1,h2.only o (fun q=>?_),h3,h4.onlyB o (fun b hb hl q=>?_)⟩
   ·
    have:=h2.lt
    rcases hF b q with z|z<;>omega
   ·
    rcases hF b q with z|z<;>omega
  | cons _ _=>exact h.elim
theorem foot_rem {w:World} {base:Nat} {n:Nd} {a:Nm} (_:NdAt w base n a) (k:ByteArray):∀ b∈foot (remA a k),b∈foot a:=by
 intro b hb;rcases mem_foot.1 hb with q|q|q|q|⟨p,hp,q⟩|q
 ·
  exact mem_foot.2 (.inl q)
 ·
  exact mem_foot.2 (.inr (.inl q))
 ·
  exact mem_foot.2 (.inr (.inr (.inl q)))
 ·
  exact mem_foot.2 (.inr (.inr (.inr (.inl q))))
 ·
  exact mem_foot.2 (.inr (.inr (.inr (.inr (.inl ⟨p,mem_del hp,q⟩)))))
 ·
  exact mem_foot.2 (.inr (.inr (.inr (.inr (.inr q)))))
structure NdOk (n:Nd):Prop where
 ok:newOk n.nm (n.gen:Int)=true
 ck:n.ck.size≤6000
 ch:n.ch+1<18446744073709551616
def HelR (w:World) (base:Nat) (n:Nd) (a:Nm) (bx B:Nat) (px:Px) (sd:Sk.Sd) (wc:World):Prop:=NdAt wc base (nextN n) a∧Trail w wc a a∧Blk wc bx 104 (pxC px)∧Blk wc B 141 (Sk.sdC sd)
set_option maxHeartbeats 16000000 in
theorem hello_any {w:World} {base:Nat} {n:Nd} {a:Nm} (h:NdAt w base n a) (hk:NdOk n) (k:ByteArray) (px:Px) (hc:px.cont.size≤100000) (hl:((get n.O k).getD []).length≤99999999) (hT:Sk.Tabs w) (hb2:2≤base) :
  Calls Tryz.prog 44 #[ptrV a.g,.string k,conA a k,.agg (pxC px)] w (Done w base a (helloN n k px.num px.cont).1 (helloN n k px.num px.cont).2):=by
 obtain⟨RN,RE,hR⟩:∃ RN RE,helloN n k px.num px.cont=(RN,RE):=⟨_,_,rfl⟩;have HR:=qH hR;rw[hR];have HB2:=qH hb2;have HB0:=qH h.bz;clear hb2;obtain⟨cv,hcv⟩:∃ v,v=conA a k:=⟨_,rfl⟩;have HCV:=qH hcv;rw[←hcv];clear hcv hR;have AL:=(Below.refl w.heap.size w).alloc (Nat.le_refl _) (.cells (pxC px) 104);have X:=qH (Blk.new w 104 (pxC px));have H:=qH (h.below AL);have T:=qH (Trail.below a AL);have TT:=qH (hT.below AL hT.two)
 obtain⟨bx,hbx⟩:∃ q,q=w.heap.size:=⟨_,rfl⟩;have HBX:Hid (bx∉foot a):=qH (fun q=>by have:=(h.low _ q).2;omega);rw[←hbx] at X;clear AL hT h;unfold pxC ptrV at *;go_enter Tryz.func44,Tryz.ntmps44;go_upto_region 1 with fail
 rw[←hbx];generalize w.alloc (.cells _ 104)=w1 at *;clear hbx;have g0:w1.cell? ⟨a.g,0,none⟩=some (.string n.nm):=H.out.pm.blk.cell 0;have g1:w1.cell? ⟨a.g,1,none⟩=some (.int .i64 (n.gen:Int)):=H.out.pm.blk.cell 1;have g2:w1.cell? ⟨a.g,2,none⟩=some (.string n.ck):=H.out.pm.blk.cell 2;have CN:=qH (next_any a.g n.nm (n.gen:Int) n.ck n.ch n.di a.mc a.mo a.ml hk.ch w1.drew H.out.pm.blk.drew);have CL:=qH (fun W=>Sk.listen_yes n.nm n.gen n.ck n.ch hk.ok W)
 have HK:=qH hk;clear hk;replace T:Hid (Trail w w1.drew a a):=qH (T.out.trans (Trail.below a (Below.refl _ w1).drew));replace H:Hid (NdAt w1.drew base n a):=qH (H.out.below (Below.refl _ w1).drew);replace X:Hid (Blk w1.drew bx 104 #[.bool px.dials,.int .u64 (px.num:Int),.int .u8 (px.kind:Int),.string px.cont]):=qH X.out.drew;replace TT:Hid (Sk.Tabs w1.drew):=qH (TT.out.below (Below.refl _ w1).drew TT.out.two)
 go_region_held3 (fun w'=>w'.cell? ⟨a.g,0,none⟩=some (.string n.nm)∧w'.cell? ⟨a.g,1,none⟩=some (.int .i64 (n.gen:Int))∧w'.cell? ⟨a.g,2,none⟩=some (.string n.ck)) (first|exact⟨g0,g1,g2⟩|exact⟨m0,m1,m2⟩)
  ((first
   | (go_at_call 33;refine CN.out.mono ?_;rintro e w2 ⟨rfl,e2⟩;have HN:=qH (next_nd H.out e2);have m0:w2.cell? ⟨a.g,0,none⟩=some (.string n.nm):=HN.out.1.pm.blk.cell 0;have m1:w2.cell? ⟨a.g,1,none⟩=some (.int .i64 (n.gen:Int)):=HN.out.1.pm.blk.cell 1;have m2:w2.cell? ⟨a.g,2,none⟩=some (.string n.ck):=HN.out.1.pm.blk.cell 2;clear e2)
   | (go_at_call 79;refine(CL.out _).mono ?_;rintro e w3 ⟨B,rfl,hB,xB,b3⟩;have HN3:=qH (HN.out.1.below b3);have m0:w3.cell? ⟨a.g,0,none⟩=some (.string n.nm):=HN3.out.pm.blk.cell 0;have m1:w3.cell? ⟨a.g,1,none⟩=some (.int .i64 (n.gen:Int)):=HN3.out.pm.blk.cell 1;have m2:w3.cell? ⟨a.g,2,none⟩=some (.string n.ck):=HN3.out.pm.blk.cell 2)))
 have OW:=HN.out.2.only;have XW:Blk w2 bx 104 #[.bool px.dials,.int .u64 (px.num:Int),.int .u8 (px.kind:Int),.string px.cont]:=X.out.only OW HBX.out;have TW:Sk.Tabs w2:=Sk.Tabs.only TT.out OW (fun q=>by have:=(H.out.low _ q).1;have:=HB2.out;omega) (fun q=>by have:=(H.out.low _ q).1;have:=HB2.out;omega);have X3:Hid (Blk w3 bx 104 #[.bool px.dials,.int .u64 (px.num:Int),.int .u8 (px.kind:Int),.string px.cont]):=qH (XW.below b3 XW.lt)
 have TT3:=qH (TW.below b3 TW.two);have T3:=qH ((T.out.trans HN.out.2).trans (Trail.below a b3));have HBn:Hid (w.heap.size≤B∧B∉foot a∧B≠bx):=qH ⟨Nat.le_trans T.out.only.size (Nat.le_trans OW.size hB),fun q=>by have:=(HN.out.1.low _ q).2;omega,fun q=>by have:=XW.lt;omega⟩;have HXB:=qH xB;have H3:=qH HN3.out;clear OW XW TW hB xB b3 HN3 m0 m1 m2 HN T H X TT g0 g1 g2 CN CL;have hok:=HK.out.ok;unfold newOk Sk.genI at hok
 simp only[Bool.and_eq_true,decide_eq_true_eq] at hok;have HFI:Hid (Sk.Fine (Sk.listenS ⟨n.nm,n.gen⟩ n.ck n.ch)):=qH (Sk.Fine.listenS ⟨hok.1,by show 1≤n.gen;omega,by show n.gen≤2147483647;omega⟩ HK.out.ck (by have:=HK.out.ch;omega));have CT:=qH (Sk.take1_any _ HFI.out.1 rfl px.cont hc B w3 HXB.out TT3.out);have HFT:=qH (HFI.out.take px.cont);obtain⟨r,hr⟩:∃ r,r=helS n px.cont:=⟨_,rfl⟩;have hr2:Sk.takeF (Sk.listenS ⟨n.nm,n.gen⟩ n.ck n.ch) px.cont=r:=hr.symm
 rw[hr2] at CT HFT;have HRQ:=qH hr;clear hok hr hr2 HFI TT3;obtain⟨sd,out,err⟩:=r;have c3:w3.cell? ⟨bx,3,none⟩=some (.string px.cont):=X3.out.cell 3;go_wp2_with fail;refine CT.out.mono ?_;rintro e w4 ⟨rfl,q1,q2⟩;have hbf:∀ b∈foot a,b∉[B]:=fun b hb q=>HBn.out.2.1 (by rw[←List.mem_singleton.1 q];exact hb)
 have H4:=qH (H3.out.keep q2 hbf);have T4:Hid (Trail w w4 a a):=qH ⟨only_more T3.out.only q2 (fun b hb=>by rw[List.mem_singleton.1 hb];exact HBn.out.1),T3.out.new,rfl⟩;have X4:=qH (X3.out.only q2 (fun q=>HBn.out.2.2 (List.mem_singleton.1 q).symm));have XB:=qH q1;clear q1 q2 hbf CT HXB X3 T3 H3 c3;have hF:helloN n k px.num px.cont=if err≠0∨sd.other.name≠k then (sendN (nextN n) k (pkF false px.num 66 ⟨#[]⟩),[]) else if howF n k sd≠1 then (sendN (nextN n) k (pkF false px.num 72 (Sk.answerF sd (howF n k sd)).2.1),[])
   else (sendN (setC (remN (nextN n) k) k ⟨false,px.num,(Sk.answerF sd (howF n k sd)).1,0,[],0⟩) k (pkF false px.num 72 (Sk.answerF sd (howF n k sd)).2.1),remO k (get n.C k)):=by
  unfold helloN;rw[←HRQ.out]
 rw[HR.out] at hF;have FB:Hid (err≠0∨sd.other.name≠k→RN=sendN (nextN n) k (pkF false px.num 66 ⟨#[]⟩)∧RE = []):=qH (fun q=>by rw[if_pos q] at hF;exact Prod.mk.inj hF);have FO:Hid (¬(err≠0∨sd.other.name≠k)→∀ H:Int,howF n k sd=H→H≠1→RN=sendN (nextN n) k (pkF false px.num 72 (Sk.answerF sd H).2.1)∧RE = []):=qH (fun q H e q2=>by rw[if_neg q,e,if_pos q2] at hF;exact Prod.mk.inj hF);have FA:Hid (¬(err≠0∨sd.other.name≠k)→howF n k sd=1→RN=sendN (setC (remN (nextN n) k) k ⟨false,px.num,(Sk.answerF sd 1).1,0,[],0⟩) k (pkF false px.num 72 (Sk.answerF sd 1).2.1)∧RE=remO k (get n.C k)):=qH (fun q q2=>by rw[if_neg q,if_neg (fun z=>z q2),q2] at hF;exact Prod.mk.inj hF)
 have HLQ:Hid (((get (nextN n).O k).getD []).length≤99999999):=qH hl;have CP:=qH (Sk.peerP_any sd B w4 XB.out);have hfd:=fld52n sd.other.name (sd.other.gen:Int);clear hF HR HRQ hl
 by_cases hbad:err≠0∨sd.other.name≠k
 ·
  obtain⟨rfl,rfl⟩:=FB.out hbad;clear FB FO FA;have HBAD:=qH hbad;clear hbad
  by_cases he:err=0
  case' pos=>
   have hne:sd.other.name≠k:=HBAD.out.resolve_left (fun q=>q he);have he1:((err:Int) != 0)=false:=by rw[he];rfl
   have hst:(sd.other.name.toList==k.toList)=false:=by rw[beq_eq_false_iff_ne];exact fun q=>hne (WideShapes.bytes_inj (by simpa [ByteArray.toList_eq] using q))
   clear hne he;go_wp2_with fail;refine CP.out.mono ?_;rintro e w5 ⟨rfl,b5⟩;have H5:=qH (H4.out.below b5);have T5:=qH (T4.out.trans (Trail.below a b5));have X5:=qH (X4.out.below b5 X4.out.lt);have c1:w5.cell? ⟨bx,1,none⟩=some (.int .u64 (px.num:Int)):=X5.out.cell 1;clear b5 CP H4 T4 X4;go_upto_region 5 with fail
  case' neg=>
   have he1:((err:Int) != 0)=true:=by rw[bne_iff_ne];omega
   have H5:=H4;have T5:=T4;have c1:w4.cell? ⟨bx,1,none⟩=some (.int .u64 (px.num:Int)):=X4.out.cell 1;clear he CP H4 T4;go_upto_region 5 with fail
  all_goals
   have CS:=qH (send_nd H5.out k false px.num 66 ⟨#[]⟩ (by decide) (by have:=HLQ.out;omega));unfold ptrV at CS;go_wp2_with fail;refine CS.out.mono ?_;rintro e w6 ⟨rfl,v,h1,h2⟩;have D:Hid (Done w base a (sendN (nextN n) k (pkF false px.num 66 ⟨#[]⟩)) [] (.returned (.slice none 0 0)) w6):=qH ⟨_,_,rfl,rfl,h1,T5.out.trans h2⟩;clear h1 h2 CS H5 T5;go_wp2_with fail;go_ret;exact D.out
 ·
  have HGD:=qH hbad;have FO2:=qH (FO.out hbad);have FA2:=qH (FA.out hbad);have he:err=0:=Classical.not_not.1 (fun q=>hbad (.inl q));have hn:sd.other.name=k:=Classical.not_not.1 (fun q=>hbad (.inr q));have he1:((err:Int) != 0)=false:=by rw[he];rfl
  have hst:(sd.other.name.toList==k.toList)=true:=by rw[beq_iff_eq,hn]
  have hfd1:=fld52 sd.other.name (sd.other.gen:Int);clear hbad FB FO FA he hn;obtain⟨LV,hLV⟩:∃ v,v=(get n.L k).getD 0:=⟨_,rfl⟩;have HLV:=qH hLV;clear hLV;go_wp2_with fail;refine CP.out.mono ?_;rintro e w5 ⟨rfl,b5⟩;have XB5:=qH (XB.out.below b5 XB.out.lt);have H5:=qH (H4.out.below b5);have T5:=qH (T4.out.trans (Trail.below a b5));have X5:=qH (X4.out.below b5 X4.out.lt);clear b5 CP H4 T4 X4 XB;obtain⟨HV,hHV⟩:∃ v,v=howF n k sd:=⟨_,rfl⟩
  have HHV:=qH hHV;rw[←hHV] at FA2;clear hHV;have FO3:=qH (FO2.out HV HHV.out.symm);clear FO2;go_upto_block 0 with fail
  clear hfd hst he1;go_cut [11] from 53 (fun s11 wx=>s11 = .int .i64 HV∧Hid (HelR w base n a bx B px sd wx))
  case first=>
   replace H5:Hid (NdAt w5.drew base (nextN n) a):=qH (H5.out.below (Below.refl _ w5).drew);replace T5:Hid (Trail w w5.drew a a):=qH (T5.out.trans (Trail.below a (Below.refl _ w5).drew));replace X5:Hid (Blk w5.drew bx 104 #[.bool px.dials,.int .u64 (px.num:Int),.int .u8 (px.kind:Int),.string px.cont]):=qH X5.out.drew;replace XB5:Hid (Blk w5.drew B 141 (Sk.sdC sd)):=qH XB5.out.drew;have CP:=qH (Sk.peerP_any sd B w5.drew XB5.out)
   have c7:w5.drew.cell? ⟨a.g,7,none⟩=some (.map (some a.ml)):=H5.out.pm.blk.cell 7;have lk:(Instr.lookup 56 (.map (some a.ml)) (.string k) false).run Tryz.prog w5.drew = .ok (.int .i64 LV) w5.drew:=by rw[HLV.out];exact look_last H5.out.pm.lm k
   clear FA2 FO3 HLQ;go_upto_region 8 with fail
   go_region_held3 (fun w'=>w'.cell? ⟨a.g,7,none⟩=some (.map (some a.ml))∧(Instr.lookup 56 (.map (some a.ml)) (.string k) false).run Tryz.prog w' = .ok (.int .i64 LV) w') (first|exact⟨c7,lk⟩|exact⟨d7,ld⟩)
    ((go_at_call 75;refine CP.out.mono ?_;rintro e w6 ⟨rfl,b6⟩;have H6:=qH (H5.out.below b6);have T6:=qH (T5.out.trans (Trail.below a b6));have X6:=qH (X5.out.below b6 X5.out.lt);have XB6:=qH (XB5.out.below b6 XB5.out.lt);have d7:w6.cell? ⟨a.g,7,none⟩=some (.map (some a.ml)):=H6.out.pm.blk.cell 7;have ld:(Instr.lookup 56 (.map (some a.ml)) (.string k) false).run Tryz.prog w6 = .ok (.int .i64 LV) w6:=(by rw[HLV.out];exact look_last H6.out.pm.lm k)))
   all_goals
    clear c7 lk d7 ld CP H5 T5 X5 XB5 hfd1 b6
    by_cases hL:(sd.other.gen:Int)<LV
    ·
     have HW:Hid (HV=3):=qH (by rw[HHV.out];unfold howF;rw[←HLV.out,if_pos hL]);have dL:decide ((sd.other.gen:Int)<LV)=true:=decide_eq_true hL;rw[dL];clear hL dL;go_wp2_with fail;go_meet
     case rel=>exact⟨by rw[HW.out],qH ⟨H6.out,T6.out,X6.out,XB6.out⟩⟩
    ·
     have dL:decide ((sd.other.gen:Int)<LV)=false:=decide_eq_false hL;rw[dL];clear dL;cases hq:get a.C k with
     | none=>
      have hcv:cv = .pointer none:=by rw[HCV.out];unfold conA;rw[hq]
      have hqn:get n.C k=none:=by have:=H6.out.getC k;rw[hq] at this;exact this
      have HW:Hid (HV=1):=qH (by rw[HHV.out];unfold howF;rw[←HLV.out,if_neg hL,hqn];rfl);have hp0:=ptr_nil0;obtain rfl:=hcv;clear hq hqn hL;go_wp2_with fail;go_meet
      case rel=>exact⟨by rw[HW.out],qH ⟨H6.out,T6.out,X6.out,XB6.out⟩⟩
     | some p=>
      obtain⟨x,m⟩:=p;have hcv:cv = .pointer (some ⟨m.c,0,none⟩):=by rw[HCV.out];unfold conA;rw[hq];rfl
      have hqn:get n.C k=some x:=by have:=H6.out.getC k;rw[hq] at this;exact this
      obtain⟨-,-,c4⟩:=lookB (H6.out.conn hq);have k1:w6.cell? ⟨m.c,1,none⟩=some (.bool x.dials):=(H6.out.conn hq).con.cell 1;have g0:w6.cell? ⟨a.g,0,none⟩=some (.string n.nm):=H6.out.pm.blk.cell 0;have hp1:=ptr_nil1 ⟨m.c,0,none⟩;have hBu:busyB n k (get n.C k)=(x.gen==0&&x.dials&&Op.bytesLess n.nm.toList k.toList):=by rw[hqn];rfl
      have HWX:Hid (HV=if (x.gen==0&&x.dials&&Op.bytesLess n.nm.toList k.toList)=true then 2 else 1):=qH (by rw[HHV.out];unfold howF;rw[←HLV.out,if_neg hL,hBu]);obtain rfl:=hcv;clear hq hqn hBu hL;obtain⟨b3,hb3⟩:∃ y,y=Op.bytesLess n.nm.toList k.toList:=⟨_,rfl⟩;obtain⟨b2,hb2⟩:∃ y,y=x.dials:=⟨_,rfl⟩;rw[←hb3,←hb2] at HWX;rw[←hb2] at k1;have HB3:=hb3.symm;clear hb3 hb2
      by_cases hg:x.gen=0
      ·
       have hg2:(x.gen==0)=true:=by rw[hg];rfl
       rw[hg2] at HWX;have c4':w6.cell? ⟨m.c,4,none⟩=some (.int .i64 0):=by rw[c4,hg];rfl
       clear c4 hg hg2;cases b2 with
       | true=>
        cases b3 with
        | true=>
         have HW:Hid (HV=2):=qH HWX.out;clear HWX;go_wp2_with fail;go_meet
         case rel=>exact⟨by rw[HW.out],qH ⟨H6.out,T6.out,X6.out,XB6.out⟩⟩
        | false=>
         have HW:Hid (HV=1):=qH HWX.out;clear HWX;go_wp2_with fail;go_meet
         case rel=>exact⟨by rw[HW.out],qH ⟨H6.out,T6.out,X6.out,XB6.out⟩⟩
       | false=>
        have HW:Hid (HV=1):=qH HWX.out;clear HWX;go_wp2_with fail;go_meet
        case rel=>exact⟨by rw[HW.out],qH ⟨H6.out,T6.out,X6.out,XB6.out⟩⟩
      ·
       have hg1:((x.gen:Int)==0)=false:=by rw[beq_eq_false_iff_ne];omega
       have hg2:(x.gen==0)=false:=by rw[beq_eq_false_iff_ne];omega
       rw[hg2] at HWX;have HW:Hid (HV=1):=qH HWX.out;clear HWX hg hg2;go_wp2_with fail;go_meet
       case rel=>exact⟨by rw[HW.out],qH ⟨H6.out,T6.out,X6.out,XB6.out⟩⟩
  case rest=>
   obtain⟨rfl,hR⟩:=hcut;have H6:=qH hR.out.1;have T6:=qH hR.out.2.1;have X6:=qH hR.out.2.2.1;have XB6:=qH hR.out.2.2.2;clear hR H5 T5 X5 XB5 HLV hfd1 HHV HGD;have hHo:=Sk.answer_out sd HFT.out HV;have CB:=qH (Sk.answer_any sd HFT.out.1 HFT.out.2 HV B wc XB6.out)
   by_cases hH:HV=1
   ·
    obtain⟨rfl,rfl⟩:=FA2.out hH;obtain rfl:=hH;obtain⟨an,han⟩:∃ y,y=Sk.answerF sd 1:=⟨_,rfl⟩;rw[←han] at hHo CB;have HAN:=qH han.symm;clear han FO3 FA2;obtain⟨sd2,o2,e2⟩:=an;have HO:Hid (o2.size≤100):=qH hHo;clear hHo;go_wp2_with fail;refine CB.out.mono ?_;rintro e w7 ⟨rfl,q1,q2⟩;have H7:=qH (H6.out.keep q2 (fun b hb q=>HBn.out.2.1 (by rw[←List.mem_singleton.1 q];exact hb)));have T7:Hid (Trail w w7 a a):=qH ⟨only_more T6.out.only q2 (fun b hb=>by rw[List.mem_singleton.1 hb];exact HBn.out.1),T6.out.new,rfl⟩
    have X7:=qH (X6.out.only q2 (fun q=>HBn.out.2.2 (List.mem_singleton.1 q).symm));have XB7:=qH q1;clear q1 q2 CB H6 T6 X6 XB6;have HLT:Hid (∀ b∈foot a,b<w7.heap.size):=qH (fun b hb=>(H7.out.low b hb).2);have HBW:Hid (B<w7.heap.size):=qH XB7.out.lt;obtain⟨N0,hN0⟩:∃ y,y=w7.heap.size:=⟨_,rfl⟩;have HN0:Hid (w.heap.size≤N0):=qH (by rw[hN0];exact T7.out.only.size);have HN1:Hid (N0=w7.heap.size):=qH hN0
    rw[←hN0] at HLT HBW;clear hN0;rcases hq:get a.C k with _|⟨x,m⟩
    case' none=>
     have hcv:cv = .pointer none:=by rw[HCV.out];unfold conA;rw[hq]
     have hqn:get n.C k=none:=by have:=H7.out.getC k;rw[hq] at this;exact this
     have hp0:=ptr_nil0;have hnn:remN (nextN n) k=nextN n:=by
      show ({ nextN n with C:=del n.C k } : Nd)=_;rw[del_none _ _ hqn];rfl
     obtain⟨ev,hev⟩:∃ y,y=Value.slice none 0 0:=⟨_,rfl⟩;have HEV:=qH hev;have HQN:=qH hqn;obtain⟨a8,ha8⟩:∃ y,y=a:=⟨_,rfl⟩;have H8:Hid (NdAt w7 base (remN (nextN n) k) a8):=qH (by rw[hnn,ha8];exact H7.out);have EV:Hid (EvsAt N0 w7 ev (remO k (get n.C k))):=qH (by rw[hqn];exact hev);have F8:Hid (∀ b∈foot a8,b∈foot a):=qH (fun _ h=>by rw[←ha8];exact h);have A8:Hid (a8.g=a.g):=qH (by rw[ha8]);have T8:Hid (Trail w w7 a a8):=qH (by rw[ha8];exact T7.out)
     have X8:=X7;have XB8:=XB7;have HNS:Hid (N0≤w7.heap.size):=qH (by have:=HN1.out;omega);obtain rfl:=hcv;clear hq hqn hnn hev ha8;go_upto_region 17 with fail
     clear H7 T7 X7 XB7 hp0 HN1;generalize w7=w8 at *
    case' some=>
     have hcv:cv = .pointer (some ⟨m.c,0,none⟩):=by rw[HCV.out];unfold conA;rw[hq];rfl
     have hqn:get n.C k=some x:=by have:=H7.out.getC k;rw[hq] at this;exact this
     have hp1:=ptr_nil1 ⟨m.c,0,none⟩;have CR:=qH (remove_nd H7.out k x m (H7.out.conn hq) (H7.out.con_ne hq));unfold ptrV at CR;have HQN:=qH hqn;obtain rfl:=hcv;clear hq hqn;go_wp2_with fail;refine CR.out.mono ?_;rintro e w8 ⟨ev,rfl,h1,h2,h3⟩;have EV:Hid (EvsAt N0 w8 ev (remO k (get n.C k))):=qH (by rw[HQN.out,HN1.out];exact h1);have H8:=qH h2;have F8:=qH (foot_rem H7.out k);have A8:Hid ((remA a k).g=a.g):=qH rfl
     have T8:=qH (T7.out.trans h3);have X8:=qH (X7.out.only h3.only HBX.out);have XB8:=qH (XB7.out.only h3.only HBn.out.2.1);have HNS:Hid (N0≤w8.heap.size):=qH (by rw[HN1.out];exact h3.only.size);clear h1 h2 h3 CR H7 T7 X7 XB7 HN1;go_upto_region 17 with fail
     clear hp1;generalize remA a k=a8 at *
    all_goals
     have c5:w8.cell? ⟨a.g,5,none⟩=some (.map (some a8.mc)):=by have:=H8.out.pm.blk.cell 5;rw[A8.out] at this;exact this
     have c1:w8.cell? ⟨bx,1,none⟩=some (.int .u64 (px.num:Int)):=X8.out.cell 1;have AL:=(Below.refl w8.heap.size w8.drew).alloc (Nat.le_refl _) (.cells (cnC k false px.num (ptrV B) 0 (.pointer none) 0) 93);have BC:=Blk.new w8.drew 93 (cnC k false px.num (ptrV B) 0 (.pointer none) 0);have HM9:Hid (NdAt (w8.drew.alloc (.cells (cnC k false px.num (ptrV B) 0 (.pointer none) 0) 93)) base (remN (nextN n) k) a8):=qH ((H8.out.below (Below.refl _ w8).drew).below AL)
     have O9:Hid (Only [a8.mc] w8 (w8.drew.alloc (.cells (cnC k false px.num (ptrV B) 0 (.pointer none) 0) 93))):=qH ((Only.drew _ w8).trans (Only.of_below AL));have XB9:=qH ((XB8.out.drew).below AL XB8.out.lt);have X9:=qH ((X8.out.drew).below AL X8.out.lt);have XC:=qH BC;clear AL BC;unfold cnC ptrV at HM9 O9 XB9 XC X9;have d5:(w8.drew.alloc (.cells #[.string k,.bool false,.int .u64 (px.num:Int),.pointer (some ⟨B,0,none⟩),.int .i64 0,.pointer none,.int .i64 0] 93)).cell? ⟨a.g,5,none⟩=some (.map (some a8.mc)):=by have:=HM9.out.pm.blk.cell 5;rw[A8.out] at this;exact this
     have d1:(w8.drew.alloc (.cells #[.string k,.bool false,.int .u64 (px.num:Int),.pointer (some ⟨B,0,none⟩),.int .i64 0,.pointer none,.int .i64 0] 93)).cell? ⟨bx,1,none⟩=some (.int .u64 (px.num:Int)):=X9.out.cell 1;obtain⟨o,hu,hm⟩:=run_update (P:=Tryz.prog) (str_emb undS) und75 HM9.out.pm.cm k w8.heap.size;replace hu:(Instr.mapUpdate 54 (.map (some a8.mc)) (.string k) (.pointer (some ⟨w8.heap.size,0,none⟩))).run Tryz.prog (w8.alloc (.cells #[.string k,.bool false,.int .u64 (px.num:Int),.pointer (some ⟨B,0,none⟩),.int .i64 0,.pointer none,.int .i64 0] 93)).drew = .ok () ((w8.alloc (.cells #[.string k,.bool false,.int .u64 (px.num:Int),.pointer (some ⟨B,0,none⟩),.int .i64 0,.pointer none,.int .i64 0] 93)).drew.putObj a8.mc o):=hu
     have hB8:B∉foot a8:=fun q=>HBn.out.2.1 (F8.out _ q)
     have hbx8:bx∉foot a8:=fun q=>HBX.out (F8.out _ q)
     have hm8:a8.mc∈foot a8:=mem_foot.2 (.inr (.inl rfl));have hc8:w8.heap.size∉foot a8:=fun q=>by have:=(H8.out.low _ q).2;omega
     have OP:=Only.putObj (bs:=[a8.mc]) (w8.alloc (.cells #[.string k,.bool false,.int .u64 (px.num:Int),.pointer (some ⟨B,0,none⟩),.int .i64 0,.pointer none,.int .i64 0] 93)).drew a8.mc o (by simp);have HN9:=qH (add_nd HM9.out k ⟨false,px.num,sd2,0,[],0⟩ w8.heap.size B OP hm (XC.out.only OP (fun q=>hc8 (by rw[show w8.heap.size=a8.mc from List.mem_singleton.1 q];exact hm8))) (XB9.out.only OP (fun q=>hB8 (by rw[List.mem_singleton.1 q];exact hm8))) ⟨rfl,rfl⟩ hB8 (by have:=HBn.out.1;have:=T8.out.only.size;have:=H8.out.bz;have:=HB0.out;omega) hc8 H8.out.bz)
     have X10:=qH (X9.out.only OP (fun q=>hbx8 (by rw[List.mem_singleton.1 q];exact hm8)));have e5:((w8.alloc (.cells #[.string k,.bool false,.int .u64 (px.num:Int),.pointer (some ⟨B,0,none⟩),.int .i64 0,.pointer none,.int .i64 0] 93)).drew.putObj a8.mc o).cell? ⟨a.g,5,none⟩=some (.map (some a8.mc)):=by have:=HN9.out.1.pm.blk.cell 5;rw[show (setA a8 k ⟨false,px.num,sd2,0,[],0⟩ ⟨w8.heap.size,B,none⟩).g=a8.g from rfl,A8.out] at this;exact this
     have e1:((w8.alloc (.cells #[.string k,.bool false,.int .u64 (px.num:Int),.pointer (some ⟨B,0,none⟩),.int .i64 0,.pointer none,.int .i64 0] 93)).drew.putObj a8.mc o).cell? ⟨bx,1,none⟩=some (.int .u64 (px.num:Int)):=X10.out.cell 1;have O10:=qH (O9.out.trans OP);clear hm OP hm8;go_region_held3 (fun w'=>w'.cell? ⟨a.g,5,none⟩=some (.map (some a8.mc))∧w'.cell? ⟨bx,1,none⟩=some (.int .u64 (px.num:Int))) (first|exact⟨c5,c1⟩|exact⟨d5,d1⟩|exact⟨e5,e1⟩) (fail)
     clear c5 c1 d5 d1 hu X9 XB9 XC HM9 O9 e5 X8 XB8 H8;have HC8:=qH hc8;have HB8:=qH hB8;clear hc8 hB8 hbx8;generalize (w8.alloc _).drew.putObj a8.mc o=w9 at *;have CS:=qH (send_nd HN9.out.1 k false px.num 72 o2 (by have:=HO.out;omega) (by have:((get (setC (remN (nextN n) k) k ⟨false,px.num,sd2,0,[],0⟩).O k).getD []).length≤99999999:=HLQ.out;omega));rw[show ptrV (setA a8 k ⟨false,px.num,sd2,0,[],0⟩ ⟨w8.heap.size,B,none⟩).g = .pointer (some ⟨a.g,0,none⟩) by rw[←A8.out];rfl] at CS
     have T9:Hid (Trail w w9 a (setA a8 k ⟨false,px.num,sd2,0,[],0⟩ ⟨w8.heap.size,B,none⟩)):=qH ⟨only_more2 T8.out.only O10.out (fun b hb=>T8.out.new b (by rw[List.mem_singleton.1 hb];exact mem_foot.2 (.inr (.inl rfl)))),fun b hb=>by
      rcases HN9.out.2 b hb with q|rfl|rfl
      ·
       exact T8.out.new b q
      ·
       exact .inr T8.out.only.size
      ·
       exact .inr HBn.out.1,A8.out⟩
     go_wp2_with fail;refine CS.out.mono ?_;rintro e w10 ⟨rfl,v,h1,h2⟩;have OO:Only (foot (setA a8 k ⟨false,px.num,sd2,0,[],0⟩ ⟨w8.heap.size,B,none⟩)) w8 w10:=(O10.out.mono (fun b hb=>.inl (by rw[List.mem_singleton.1 hb];exact mem_foot.2 (.inr (.inl rfl))))).trans h2.only;have EV2:=EV.out.keep OO (fun b hb=>by
      rcases HN9.out.2 b hb with q|rfl|rfl
      ·
       exact .inl (HLT.out b (F8.out b q))
      ·
       exact .inr (Nat.le_refl _)
      ·
       exact .inl HBW.out)
     have D:Hid (Done w base a (sendN (setC (remN (nextN n) k) k ⟨false,px.num,(Sk.answerF sd 1).1,0,[],0⟩) k (pkF false px.num 72 (Sk.answerF sd 1).2.1)) (remO k (get n.C k)) (.returned ev) w10):=qH (by rw[HAN.out];exact⟨_,_,rfl,EV2.mono HN0.out,h1,T9.out.trans h2⟩);clear h1 h2 CS EV2 OO T9 HN9 O10 EV;go_wp2_with fail;go_ret
     first
      | exact D.out
      | (have D2:=D.out;rw[HEV.out] at D2;exact D2)
   ·
    obtain⟨rfl,rfl⟩:=FO3.out hH;have hH1:(HV==1)=false:=by rw[beq_eq_false_iff_ne];exact hH
    obtain⟨an,han⟩:∃ y,y=Sk.answerF sd HV:=⟨_,rfl⟩;rw[←han] at hHo CB;have HAN:=qH han.symm;clear han FO3 FA2 hH;obtain⟨sd2,o2,e2⟩:=an;have HO:Hid (o2.size≤100):=qH hHo;clear hHo;go_wp2_with fail;refine CB.out.mono ?_;rintro e w7 ⟨rfl,q1,q2⟩;have H7:=qH (H6.out.keep q2 (fun b hb q=>HBn.out.2.1 (by rw[←List.mem_singleton.1 q];exact hb)));have T7:Hid (Trail w w7 a a):=qH ⟨only_more T6.out.only q2 (fun b hb=>by rw[List.mem_singleton.1 hb];exact HBn.out.1),T6.out.new,rfl⟩
    have X7:=qH (X6.out.only q2 (fun q=>HBn.out.2.2 (List.mem_singleton.1 q).symm));clear q1 q2 CB H6 T6 X6 XB6;have c1:w7.cell? ⟨bx,1,none⟩=some (.int .u64 (px.num:Int)):=X7.out.cell 1;have CS:=qH (send_nd H7.out k false px.num 72 o2 (by have:=HO.out;omega) (by have:=HLQ.out;omega));unfold ptrV at CS;go_wp2_with fail;refine CS.out.mono ?_;rintro e w8 ⟨rfl,v,h1,h2⟩;have D:Hid (Done w base a (sendN (nextN n) k (pkF false px.num 72 (Sk.answerF sd HV).2.1)) [] (.returned (.slice none 0 0)) w8):=qH (by rw[HAN.out];exact⟨_,_,rfl,rfl,h1,T7.out.trans h2⟩)
    clear h1 h2 CS H7 T7;go_wp2_with fail;go_ret;exact D.out
def outQ (n:Nd) (k:ByteArray):List ByteArray:=(get n.O k).getD []
def dropO (n:Nd) (k:ByteArray):Nd:={ n with O:=del n.O k }
def dropA (a:Nm) (k:ByteArray):Nm:={ a with O:=del a.O k }
theorem drop_nd {w w':World} {base:Nat} {n:Nd} {a:Nm} (h:NdAt w base n a) (k:ByteArray) (o:Only [a.mo] w w') (pm:PM w' a.g a.mc a.mo a.ml n.nm (n.gen:Int) n.ck n.ch n.di (a.C.map fun p=>(p.1,p.2.2.c)) (del (a.O.map fun p=>(p.1,p.2.1)) k) n.L) :
  NdAt w' base (dropO n k) (dropA a k)∧Trail w w' a (dropA a k)∧Sl w' base 9 1 strC (outV (a.O.map fun p=>(p.1,p.2.1)) k) (outQ n k)∧∀ b,(outV (a.O.map fun p=>(p.1,p.2.1)) k).ownBlock=some b→b∈foot a∧b∉foot (dropA a k):=by
 have hp:(foot a).Perm ((a.mo::oldO a k)++([a.g,a.mc,a.ml]++(fC a.C++fO (del a.O k)))):=by
  rw[foot_eq];refine((((perm_O a k).append_left _).append_left _)).trans ?_;simp only[List.cons_append,List.nil_append];refine List.perm_iff_count.2 fun b=>?_
  simp only[List.count_cons,List.count_append];omega
 have hp':(foot (dropA a k)).Perm ([a.mo]++([a.g,a.mc,a.ml]++(fC a.C++fO (del a.O k)))):=by
  rw[foot_eq];unfold dropA;simp only[List.cons_append,List.nil_append];refine List.perm_iff_count.2 fun b=>?_
  simp only[List.count_cons,List.count_append];omega
 have nd:=hp.nodup_iff.1 h.nod;have hown:∀ b,(outV (a.O.map fun p=>(p.1,p.2.1)) k).ownBlock=some b→b∈oldO a k:=fun b hb=>by rw[←outV_own];exact Option.mem_toList.2 hb
 have hst:=h.step (A:=a.mo::oldO a k) (A':=[a.mo]) (n':=dropO n k) hp hp' (o.mono (fun b hb=>.inl (by rw[List.mem_singleton.1 hb];exact List.mem_cons_self))) (by simp) (fun b hb=>.inl (by rw[List.mem_singleton.1 hb];exact List.mem_cons_self)) (by
   show PM w' a.g a.mc a.mo a.ml n.nm (n.gen:Int) n.ck n.ch n.di _ ((del a.O k).map fun p=>(p.1,Prod.fst p.2)) n.L;rw[del_map];exact pm) (fun q hq=>by
   refine .inl ⟨hq,fun b hb=>?_⟩
   have:b∈fC a.C:=mem_fC hq hb
   simp[this]) (fun q hq=>by
   refine .inl ⟨mem_del hq,fun b hb=>?_⟩
   have:b∈fO (del a.O k):=mem_fO hq hb
   simp[this]) h.eC (by
   show ((del a.O k).map fun p=>(p.1,Prod.snd p.2))=del n.O k;rw[del_map,←h.eO]) rfl
 refine⟨hst.1,hst.2,(h.outV k).only o (fun b hb q=>?_),fun b hb=>⟨hp.mem_iff.2 (List.mem_append_left _ (List.mem_cons_of_mem _ (hown b hb))),fun q=>?_⟩⟩
 ·
  have:=(List.nodup_append.1 nd).1
  rw[List.nodup_cons] at this;exact this.1 (by rw[←List.mem_singleton.1 q];exact hown b hb)
 ·
  rcases List.mem_append.1 (hp'.mem_iff.1 q) with z|z
  ·
   have:=(List.nodup_append.1 nd).1
   rw[List.nodup_cons] at this;exact this.1 (by rw[←List.mem_singleton.1 z];exact hown b hb)
  ·
   exact(List.nodup_append.1 nd).2.2 b (List.mem_cons_of_mem _ (hown b hb)) b z rfl
theorem out_nd {w:World} {base:Nat} {n:Nd} {a:Nm} (h:NdAt w base n a) (k:ByteArray) :
  Calls Tryz.prog 21 #[ptrV a.g,.string k] w fun e w'=>∃ v,e = .returned v∧Sl w' base 9 1 strC v (outQ n k)∧(∀ b,v.ownBlock=some b→b∈foot a∧b∉foot (dropA a k))∧NdAt w' base (dropO n k) (dropA a k)∧Trail w w' a (dropA a k):=
 (out_any h.pm k).mono fun _ _ ⟨h1,h2,h3⟩=>by
  obtain⟨q1,q2,q3,q4⟩:=drop_nd h k h3 h2;exact⟨_,h1,q3,q4,q1,q2⟩
def cutN (n:Nd) (k:ByteArray):Nd:=remN (dropO n k) k
set_option maxHeartbeats 4000000 in
theorem cut_any {w:World} {base:Nat} {n:Nd} {a:Nm} (h:NdAt w base n a) (k:ByteArray):Calls Tryz.prog 15 #[ptrV a.g,.string k] w (Done w base a (cutN n k) (remO k (get n.C k))):=by
 have CO:=qH (out_nd h k);have HCN:=qH (h.getC k);clear h;unfold ptrV at *;go_enter Tryz.func15,Tryz.ntmps15;go_wp2_with fail;refine CO.out.mono ?_;rintro e w1 ⟨v,rfl,-,-,h1,h2⟩;have H1:=qH h1;have T1:=qH h2;clear h1 h2 CO;have c5:w1.cell? ⟨a.g,5,none⟩=some (.map (some a.mc)):=H1.out.pm.blk.cell 5;have CN:=qH (none_no a.g a.mc w1 c5);have lk:=look_con H1.out.pm.cm k;go_wp2_with fail;refine CN.out.mono ?_
 rintro e w2 ⟨rfl,rfl⟩;have hgm:get ((dropA a k).C.map fun p=>(p.1,p.2.2.c)) k=(get a.C k).map fun q=>q.2.c:=get_map (fun q:Cx×Cm=>q.2.c) k a.C
 unfold conV at lk;rw[hgm] at lk;rcases hq:get a.C k with _|⟨x,m⟩
 ·
  rw[hq] at lk;have lk2:(Instr.lookup 54 (.map (some a.mc)) (.string k) false).run Tryz.prog w2 = .ok (.pointer none) w2:=lk;have hp:∀ W,(binOp .eql 86 (.pointer none) (.pointer none)).run Tryz.prog W = .ok (.bool true) W:=fun W=>by kernel_rfl
  have hqn:get n.C k=none:=by have:=HCN.out;rw[hq] at this;exact this
  have HE:Hid (remO k (get n.C k) = []):=qH (by rw[hqn];rfl);have HN:Hid (cutN n k=dropO n k):=qH (by
   show ({ dropO n k with C:=del n.C k } : Nd)=_;rw[del_none _ _ hqn];rfl)
  have D:Hid (Done w base a (cutN n k) (remO k (get n.C k)) (.returned (.slice none 0 0)) w2):=qH (by rw[HE.out,HN.out];exact⟨_,_,rfl,rfl,H1.out,T1.out⟩);clear lk hgm hq hqn CN HCN H1 T1;go_wp2_with fail;go_ret;exact D.out
 ·
  rw[hq] at lk;have lk2:(Instr.lookup 54 (.map (some a.mc)) (.string k) false).run Tryz.prog w2 = .ok (.pointer (some ⟨m.c,0,none⟩)) w2:=lk;have hp:=ptr_eq0 ⟨m.c,0,none⟩;have hqn:get n.C k=some x:=by have:=HCN.out;rw[hq] at this;exact this
  have HE:Hid (remO k (get n.C k)=remE k x):=qH (by rw[hqn];rfl);have CR:=qH (remove_any H1.out k x m hq);unfold ptrV at CR;clear lk hgm hq hqn CN HCN;go_wp2_with fail;refine CR.out.mono ?_;rintro e w3 ⟨v2,a2,rfl,h2,h3,h4⟩;have D:Hid (Done w base a (cutN n k) (remO k (get n.C k)) (.returned v2) w3):=qH (by rw[HE.out];exact Done.from T1.out ⟨v2,a2,rfl,h2,h3,h4⟩);clear h2 h3 h4 CR;go_wp2_with fail;go_ret
  exact D.out
def diaX (n:Nd) (k:ByteArray):Cx:=⟨true,n.di+1,Sk.dialS ⟨n.nm,n.gen⟩ k n.ck n.ch,0,[],0⟩
def otherB (n:Nd) (k:ByteArray):Bool:=nameF k && !(k.toList==n.nm.toList)
def dialN (n:Nd) (k:ByteArray):Nd×Int:=
 if otherB n k=false then (n,2)
 else if (get n.C k).isSome then (n,8)
 else (sendN { n with ch:=n.ch+1,di:=n.di+1,C:=put n.C k (diaX n k) } k (pkF true (n.di+1) 72 (Sk.helloF ⟨n.nm,n.gen⟩ k)),0)
theorem dialed_nd {w w':World} {base:Nat} {n:Nd} {a:Nm} (h:NdAt w base n a) (k:ByteArray) (hg:get a.C k=none)
  (hd:Dialed w base a.g a.mc a.mo a.ml n.nm n.gen n.ck n.ch n.di (a.C.map fun p=>(p.1,p.2.2.c)) (a.O.map fun p=>(p.1,p.2.1)) n.L k ((get n.O k).getD []) w') :
  ∃ a',NdAt w' base (sendN { n with ch:=n.ch+1,di:=n.di+1,C:=put n.C k (diaX n k) } k (pkF true (n.di+1) 72 (Sk.helloF ⟨n.nm,n.gen⟩ k))) a'∧Trail w w' a a':=by
 obtain⟨B,c,v',hB,hc,wB,wc,hpm,hsl,ho,hown⟩:=hd;rw[outV_own] at ho;have e0:oldC a k = []:=by unfold oldC;rw[hg];rfl
 have hcB:c≠B:=hc.ne_ hB (by decide);have hgl:=(h.low a.g (mem_foot.2 (.inl rfl))).2;have hml:=(h.low a.mc (mem_foot.2 (.inr (.inl rfl)))).2;have hol:=(h.low a.mo (mem_foot.2 (.inr (.inr (.inl rfl))))).2;have hoff1:=sl_off hsl hpm.blk (by decide);have hoff2:=sl_offm hsl hpm.cm;have hoff3:=sl_offm hsl hpm.om;have hoff4:=sl_off hsl hB (by decide);have hoff5:=sl_off hsl hc (by decide);refine⟨{ a with C:=put a.C k (diaX n k,⟨c,B,none⟩),O:=put a.O k (v',(get n.O k).getD [] ++ [pkF true (n.di+1) 72 (Sk.helloF ⟨n.nm,n.gen⟩ k)]) },h.step (A:=a.g::a.mc::a.mo::oldO a k) (A':=a.g::a.mc::a.mo::c::B::v'.ownBlock.toList) (R:=[a.ml]++(fC (del a.C k)++fO (del a.O k))) ?_ ?_ ho ?_ ?_ ?_ ?_ ?_ ?_ ?_ rfl⟩
 ·
  rw[foot_eq];refine(((perm_C a k).append (perm_O a k)).append_left _).trans ?_;rw[e0];simp only[List.cons_append,List.nil_append];refine List.perm_iff_count.2 fun b=>?_
  simp only[List.count_cons,List.count_append];omega
 ·
  rw[foot_eq];refine(((perm_C' a.C k (diaX n k,⟨c,B,none⟩)).append (perm_O' a.O k _)).append_left _).trans ?_;show ([a.g,a.mc,a.mo,a.ml]++(([c,B]++fC (del a.C k))++(v'.ownBlock.toList++fO (del a.O k)))).Perm _;simp only[List.cons_append,List.nil_append];refine List.perm_iff_count.2 fun b=>?_
  simp only[List.count_cons,List.count_append];omega
 ·
  have hsp:=h.pm.sep;simp only[List.nodup_cons,List.mem_cons,not_or];have no:∀ q,(∀ g,v'.ownBlock=some g→g≠q)→q∉v'.ownBlock.toList:=fun q hq hm=>hq q (Option.mem_toList.1 hm) rfl
  refine⟨⟨by omega,by omega,by omega,by omega,no _ hoff1⟩,⟨by omega,by omega,by omega,no _ hoff2⟩,⟨by omega,by omega,no _ hoff3⟩,⟨hcB,no _ hoff5⟩,no _ hoff4,by cases v'.ownBlock<;>simp⟩
 ·
  intro b hb;simp only[List.mem_cons] at hb;rcases hb with rfl|rfl|rfl|rfl|rfl|q
  ·
   exact .inl (by simp)
  ·
   exact .inl (by simp)
  ·
   exact .inl (by simp)
  ·
   exact .inr ⟨wc,hc.lt⟩
  ·
   exact .inr ⟨wB,hB.lt⟩
  ·
   have q:=Option.mem_toList.1 q;rcases hown with e|e
   ·
    rw[e] at q;refine .inl ?_
    have:b∈oldO a k:=by rw[←outV_own];exact Option.mem_toList.2 q
    simp[this]
   ·
    exact .inr ⟨e b q,(hsl.lt b q).2⟩
 ·
  have e1:((put a.C k (diaX n k,(⟨c,B,none⟩:Cm))).map fun p=>(p.1,p.2.2.c))=put (a.C.map fun p=>(p.1,p.2.2.c)) k c:=put_map (fun q:Cx×Cm=>q.2.c) k (diaX n k,⟨c,B,none⟩) a.C;have e2:((put a.O k (v',(get n.O k).getD [] ++ [pkF true (n.di+1) 72 (Sk.helloF ⟨n.nm,n.gen⟩ k)])).map fun p=>(p.1,p.2.1))=put (a.O.map fun p=>(p.1,p.2.1)) k v':=put_map (Prod.fst:Value×List ByteArray→Value) k _ a.O;show PM w' a.g a.mc a.mo a.ml n.nm (n.gen:Int) n.ck (n.ch+1) (n.di+1) ((put a.C k (diaX n k,(⟨c,B,none⟩:Cm))).map fun p=>(p.1,p.2.2.c)) ((put a.O k (v',(get n.O k).getD [] ++ [pkF true (n.di+1) 72 (Sk.helloF ⟨n.nm,n.gen⟩ k)])).map fun p=>(p.1,p.2.1)) n.L
  rw[e1,e2];exact hpm
 ·
  intro p hp;rcases mem_put hp with rfl|hq
  ·
   exact .inr ⟨hc,hB,rfl,rfl⟩
  ·
   refine .inl ⟨mem_del hq,fun b hb=>?_⟩
   have:b∈fC (del a.C k):=mem_fC hq hb
   simp[this]
 ·
  intro p hp;rcases mem_put hp with rfl|hq
  ·
   exact .inr hsl
  ·
   refine .inl ⟨mem_del hq,fun b hb=>?_⟩
   have:b∈fO (del a.O k):=mem_fO hq hb
   simp[this]
 ·
  show ((put a.C k (diaX n k,(⟨c,B,none⟩:Cm))).map fun p=>(p.1,Prod.fst p.2))=put n.C k (diaX n k);rw[put_map,←h.eC]
 ·
  show ((put a.O k (v',(get n.O k).getD [] ++ [pkF true (n.di+1) 72 (Sk.helloF ⟨n.nm,n.gen⟩ k)])).map fun p=>(p.1,Prod.snd p.2))=put n.O k _;rw[put_map,←h.eO]
theorem dial_any {w:World} {base:Nat} {n:Nd} {a:Nm} (h:NdAt w base n a) (hk:NdOk n) (hdi:n.di+1<18446744073709551616) (k:ByteArray) (hl:((get n.O k).getD []).length≤100000000) :
  Calls Tryz.prog 10 #[ptrV a.g,.string k] w fun e w'=>e = .returned (.int .i64 (dialN n k).2)∧∃ a',NdAt w' base (dialN n k).1 a'∧Trail w w' a a':=by
 unfold dialN;cases ho:otherB n k with
 | false=>exact(pdial_arg h.pm k ho).mono fun _ _ ⟨h1,h2⟩=>⟨h1,a,h.below h2,Trail.below a h2⟩
 | true=>
  simp only[Bool.true_eq_false,if_false];have hgm:get (a.C.map fun p=>(p.1,p.2.2.c)) k=(get a.C k).map fun q=>q.2.c:=get_map (fun q:Cx×Cm=>q.2.c) k a.C
  rw[h.getC k];rcases hq:get a.C k with _|⟨x,m⟩
  ·
   simp only[Option.map_none,Option.isSome_none,Bool.false_eq_true,if_false];exact(pdial_yes h.pm base h.bz k hk.ok ho (by rw[hgm,hq];rfl) hk.ch hdi _ (h.outV k) hl).mono fun _ _ ⟨h1,h2⟩=>⟨h1,dialed_nd h k hq h2⟩
  ·
   simp only[Option.map_some,Option.isSome_some,if_true];exact(pdial_twice h.pm k ho m.c (by rw[hgm,hq];rfl)).mono fun _ _ ⟨h1,h2⟩=>⟨h1,a,h.below h2,Trail.below a h2⟩
end Go.Proofs.YtoaimoemaoinhaaGreatDoor
