/- PeersX: a part of the proof. No condition beyond the premises of each theorem. -/
import Derived.Test.YtoaimoemaoinhaaGreatDoorQp05
import Derived.Test.YtoaimoemaoinhaaGreatDoorQp04
import Derived.Test.YtoaimoemaoinhaaGreatDoorQp00
set_option maxRecDepth 100000
namespace Go.Proofs.YtoaimoemaoinhaaGreatDoor
open Go.RowKit Go.Rt Go.Rw
set_option maxHeartbeats 2000000 in
theorem kinds_any (w:World):Calls Tryz.prog 206 #[] w fun e w'=>e = .returned (.agg #[.func (.func 226) #[] #[],.func (.func 227) #[] #[],.func (.func 228) #[] #[],.func (.func 224) #[] #[],.func (.func 229) #[] #[],.func (.func 230) #[] #[],.func (.func 224) #[] #[],.func (.func 231) #[] #[],.func (.func 232) #[] #[],.func (.func 233) #[] #[],.func (.func 234) #[] #[]])∧Below w.heap.size w w':=by
 go_enter Tryz.func206,Tryz.ntmps206;have NB:=qH (Blk.new w 277 #[.nilFunc,.nilFunc,.nilFunc,.nilFunc,.nilFunc,.nilFunc,.nilFunc,.nilFunc,.nilFunc,.nilFunc,.nilFunc]);go_wp2_with (refine wpList_store_blk rfl 277 _ _ rfl rfl w.heap.size #[.func (.func 226) #[] #[],.func (.func 227) #[] #[],.func (.func 228) #[] #[],.func (.func 224) #[] #[],.func (.func 229) #[] #[],.func (.func 230) #[] #[],.func (.func 224) #[] #[],.func (.func 231) #[] #[],.func (.func 232) #[] #[],.func (.func 233) #[] #[],.func (.func 234) #[] #[]] _ 277 rfl rfl NB.out rfl (by kernel_rfl) (by simp[Value.oneCell']) ?_)
 intro v bv ov;go_wp2_with fail;refine bodyPost_ret (results_blk rfl _ _ w.heap.size _ _ rfl bv Tryz.underlying277 rfl (by kernel_rfl)) rfl ⟨rfl,?_⟩;exact((Below.refl _ _).alloc (Nat.le_refl _) _).trans (ov.below (by simp) (by simp))
def sumV (t:Tm):Value:=.tuple #[.int .i64 (if formed t then sizeT t else 0:Nat),.bool (formed t)]
set_option maxHeartbeats 2000000 in
theorem sum_any (S:Nat→Prop) (t:Tm) (b o cap:Nat) (w:World) (hl:ItsAt S w [t] (.slice (some ⟨b,o,none⟩) 1 cap)) (hS:∀ b,S b→b<w.heap.size) (hfit:fitW t) (hz:bulk t≤4611686018427387904) :
  Calls Tryz.prog 178 #[.slice (some ⟨b,o,none⟩) 1 cap] w fun e w'=>e = .returned (sumV t)∧Below w.heap.size w w':=by
 unfold sumV;obtain⟨F,hF⟩:∃ F,F=formed t:=⟨_,rfl⟩;have OF:=qH (fun(x:Ft) (bm:Nat) (W:World) (hx:TmAt S W t x) (hS:∀ b,S b→b≠bm) (hM:Ms W bm 0)=>of_any t S x bm 0 W hx hS hM hfit (by omega));rw[←hF] at OF ⊢;clear hF;generalize sizeT t=sz at OF ⊢;have HS:=qH hS;have HL:=qH hl;obtain⟨b',o',e',hb,hsb,hc⟩:=hl.get (by simp);cases e';obtain⟨x,hx,hcx⟩:=hc 0 (by simp);change TmAt S w t x at hx;obtain⟨_,sx,cx,vx⟩:=hx.its.2.form
 obtain⟨xf,xv⟩:=x;dsimp only at vx;subst vx;generalize t.l.length=lx at *;have HX:=qH hx;have HCX:=qH hcx;have HBB:=qH hb;clear hl hS hc hx hcx hb hfit hz;have hmf:∀ (fn:Fn) (first cap:Array Value) (w:World),(Instr.makeFunc fn first cap).run Tryz.prog w = .ok (.func fn first cap) w:=fun _ _ _ _=>rfl
 go_enter Tryz.func178,Tryz.ntmps178;go_wp2_with fail;refine(kinds_any w).mono ?_;rintro e w1 ⟨rfl,b1⟩;have B1:=qH b1;clear b1;have bA:Below w.heap.size w (w1.alloc (.cells (kcells 0) 280)):=B1.out.trans ((Below.refl _ _).alloc B1.out.size _);have M2:Hid (Ms (w1.alloc (.cells (kcells 0) 280)) w1.heap.size 0):=qH (Blk.new w1 280 (kcells 0));have B2:=qH bA;have G2:Hid (w.heap.size≤w1.heap.size):=qH B1.out.size
 clear bA B1;go_wp2_with fail;change Code.wp _ _ _ _ (w1.alloc (.cells (kcells 0) 280));generalize w1.alloc (.cells (kcells 0) 280)=w2 at M2 B2 ⊢;generalize w1.heap.size=bm at M2 G2 ⊢;have A2:=qH (HX.out.below B2.out (fun b hb _=>HS.out b hb));obtain⟨p0,p1,p2,p3,p4,p5,p6,p7,p8⟩:=cells9 (W:=w2) (b:=b) (p:=o) (x:=⟨xf,.slice sx lx cx⟩) (fun j hj=>by rw[show o+j=o+0*9+j by omega,←HCX.out j hj];exact B2.out.cell (p:=⟨b,_,none⟩) HBB.out)
 refine wp_loop_rounds 2 ?_;rw[rounds_succ];go_wp2_with fail;have A3:=qH (fun o=>A2.out.below ((Below.refl w2.heap.size w2).alloc (Nat.le_refl _) o) (fun _ _ h=>h));have B3:=qH (fun o=>B2.out.trans ((Below.refl w.heap.size w2).alloc B2.out.size o));have M3:=qH (fun o=>M2.out.alloc o);refine(OF.out ⟨xf,.slice sx lx cx⟩ bm _ (A3.out _) (fun b hb=>by have:=HS.out b hb;have:=G2.out;omega) (M3.out _)).mono ?_
 rintro e w4 ⟨rfl,o4,n4,m4,h4⟩;have O4:=qH ((B3.out _).trans (o4.below (by simpa using G2.out) (B3.out _).size));have M4:=qH m4;have H4:=qH h4;clear o4 m4 h4 A3 B3 M3 A2 B2 M2 p0 p1 p2 p3 p4 p5 p6 p7 p8;cases F with
 | false=>
  go_wp2_with fail;refine bodyPost_ret (v:=.tuple #[.int .i64 0,.bool false]) (by simp[results,Tryz.results178,go_sem]) rfl ⟨rfl,O4.out⟩
 | true=>
  have e4:=H4.out rfl;rw[Nat.zero_add] at e4;subst e4;have m11:w4.cell? ⟨bm,11,none⟩=some (.int .i64 n4):=M4.out.cell 11;go_wp2_with fail;rw[rounds_succ];go_wp2_with fail;refine bodyPost_ret (v:=.tuple #[.int .i64 n4,.bool true]) (by simp[results,Tryz.results178,go_sem]) rfl ⟨rfl,O4.out⟩
def checkF (t:Tm):Int:=if formed t then (if sizeT t≤2000 then 0 else 3) else 2
theorem checkF_zero (t:Tm):decide (checkF t=0)=validB t:=by
 unfold checkF validB;cases formed t with
 | false=>simp
 | true=>by_cases h:sizeT t≤2000<;>simp[h]
set_option maxHeartbeats 2000000 in
theorem check_any (S:Nat→Prop) (t:Tm) (x:Ft) (w:World) (hx:TmAt S w t x) (hfit:fitW t) (hz:bulk t≤4611686018427387904) :
  Calls Tryz.prog 133 #[ftV x] w fun e w'=>e = .returned (.int .i64 (checkF t))∧Below w.heap.size w w':=by
 obtain⟨e1,i1⟩:=hx.its;obtain⟨_,sa,cap,v1⟩:=i1.form;obtain⟨xf,xv⟩:=x;dsimp only at v1;subst v1;generalize hll:t.l.length=len at *;have CS:=qH (fun(W:World) (b cap':Nat) (hl:ItsAt (fun b=>b<W.heap.size) W [t] (.slice (some ⟨b,0,none⟩) 1 cap'))=>sum_any _ t b 0 cap' W hl (fun _ h=>h) hfit hz);have HT:Hid (∀ (W:World) (b:Nat) (cap':Nat),Below w.heap.size w W→b<W.heap.size→(∀ j,j<9→W.cell? ⟨b,j,none⟩=(ftC ⟨xf,.slice sa len cap⟩)[j]?)→ItsAt (fun b=>b<W.heap.size) W [t] (.slice (some ⟨b,0,none⟩) 1 cap')):=qH (by
  intro W b cap' hb hlt hc;refine⟨[⟨xf,.slice sa len cap⟩],.inr ⟨b,0,cap',rfl,by simp,hlt,?_⟩,fun b o n c e _=>by cases e;exact hlt,?_⟩
  ·
   intro i j hi hj;obtain rfl:i=0:=by simpa using hi
   have:=hc j hj
   simpa using this
  ·
   unfold TmsAt;refine⟨_,[],rfl,?_,by unfold TmsAt;rfl⟩;exact hx.map hb.size (fun b _ hl=>hb.block b hl) (fun b _ hl=>by have:=hb.size;omega))
 obtain⟨RE,hRE⟩:∃ RE,RE=checkF t:=⟨_,rfl⟩;rw[←hRE];unfold checkF at hRE;unfold sumV at CS;generalize formed t=F at CS hRE;generalize sizeT t=sz at CS hRE;clear hx e1 i1 hll hfit hz;unfold ftV;go_enter Tryz.func133,Tryz.ntmps133;go_wp2_with fail;have L:=HT.out ((w.alloc (.cells #[.int .i64 xf.k,.int .i64 xf.n,.int .i64 xf.g,.string xf.nm,.string xf.fn,.int .i64 xf.ar,.slice sa len cap,.string xf.bs,.int .i64 xf.bt] 48)).alloc (.cells #[.int .i64 xf.k,.int .i64 xf.n,.int .i64 xf.g,.string xf.nm,.string xf.fn,.int .i64 xf.ar,.slice sa len cap,.string xf.bs,.int .i64 xf.bt] 48)) (w.heap.size+1) 1
  (((Below.refl _ _).alloc (Nat.le_refl _) _).alloc (by simp) _) (by simp) (by
   intro j hj;have q:=Blk.new (w.alloc (.cells #[.int .i64 xf.k,.int .i64 xf.n,.int .i64 xf.g,.string xf.nm,.string xf.fn,.int .i64 xf.ar,.slice sa len cap,.string xf.bs,.int .i64 xf.bt] 48)) 48 #[.int .i64 xf.k,.int .i64 xf.n,.int .i64 xf.g,.string xf.nm,.string xf.fn,.int .i64 xf.ar,.slice sa len cap,.string xf.bs,.int .i64 xf.bt];simp only[World.size_alloc] at q;rw[q.cell j];simp[ftC])
 refine(CS.out _ _ _ L).mono ?_;rintro e w1 ⟨rfl,b1⟩;have B1:=qH ((((Below.refl w.heap.size w).alloc (Nat.le_refl _) _).alloc (by simp) _).trans (b1.mono (by simp;omega)));clear b1 L CS HT;cases F with
 | false=>
  obtain rfl:RE=2:=by rw[hRE];rfl
  clear hRE;go_wp2_with fail;go_ret;exact⟨rfl,B1.out⟩
 | true=>
  by_cases h:sz≤2000
  ·
   obtain rfl:RE=0:=by rw[hRE];simp[h]
   have d:decide (2000<sz)=false:=by simpa using h
   clear hRE;go_wp2_with fail;go_ret;exact⟨rfl,B1.out⟩
  ·
   obtain rfl:RE=3:=by rw[hRE];simp[h]
   have d:decide (2000<sz)=true:=by simpa using h
   clear hRE;go_wp2_with fail;go_ret;exact⟨rfl,B1.out⟩
set_option maxHeartbeats 2000000 in
theorem valid_anyW (S:Nat→Prop) (t:Tm) (x:Ft) (w:World) (hx:TmAt S w t x) (hfit:fitW t) (hz:bulk t≤4611686018427387904) :
  Calls Tryz.prog 81 #[ftV x] w fun e w'=>e = .returned (.bool (validB t))∧Below w.heap.size w w':=by
 obtain⟨e1,i1⟩:=hx.its;obtain⟨e2,sa,cap,v1⟩:=i1.form;clear e2;have hv:=checkF_zero t;have CC:=qH (fun(W:World) (hb:Below w.heap.size w W)=>check_any (fun b=>b<w.heap.size) t x W (hx.map hb.size (fun b _ hl=>hb.block b hl) (fun b _ hl=>hl)) hfit hz);obtain⟨xf,xv⟩:=x;dsimp only at v1;subst v1;generalize t.l.length=len at *;clear hx e1 i1 hfit hz;rw[←hv];clear hv;generalize checkF t=c at CC ⊢;unfold ftV at CC ⊢
 by_cases hc:c=0
 ·
  subst hc;go_enter Tryz.func81,Tryz.ntmps81;go_wp2_with fail;refine(CC.out _ ((Below.refl _ _).alloc (Nat.le_refl _) _)).mono ?_;rintro e w1 ⟨rfl,b1⟩;have B1:=qH (((Below.refl w.heap.size w).alloc (Nat.le_refl _) _).trans (b1.mono (by simp)));clear b1 CC;go_wp2_with fail;go_ret;exact⟨rfl,B1.out⟩
 ·
  have d:(c==0)=false:=by simpa using hc
  have e0:decide (c=0)=false:=by simpa using hc
  rw[e0];clear hc e0;go_enter Tryz.func81,Tryz.ntmps81;go_wp2_with fail;refine(CC.out _ ((Below.refl _ _).alloc (Nat.le_refl _) _)).mono ?_;rintro e w1 ⟨rfl,b1⟩;have B1:=qH (((Below.refl w.heap.size w).alloc (Nat.le_refl _) _).trans (b1.mono (by simp)));clear b1 CC;go_wp2_with fail;go_ret;exact⟨rfl,B1.out⟩
theorem valid_any (S:Nat→Prop) (t:Tm) (x:Ft) (w:World) (hx:TmAt S w t x) (hfit:fitT t) (hz:bulk t≤4611686018427387904) :
  Calls Tryz.prog 81 #[ftV x] w fun e w'=>e = .returned (.bool (validB t))∧Below w.heap.size w w':=valid_anyW S t x w hx (fitW_of t hfit) hz
def fldC : Array Value:=#[.int .i64 1,.int .i64 6,.func (.func 103) #[] #[],.func (.func 104) #[] #[],.int .i64 2,.int .i64 6,.func (.func 105) #[] #[],.func (.func 106) #[] #[],.int .i64 4,.int .i64 2,.func (.func 107) #[] #[],.func (.func 109) #[] #[],.int .i64 8,.int .i64 2,.func (.func 110) #[] #[],.func (.func 111) #[] #[],.int .i64 16,.int .i64 3,.func (.func 112) #[] #[],.func (.func 113) #[] #[],.int .i64 32,.int .i64 1,.func (.func 114) #[] #[],.func (.func 116) #[] #[],.int .i64 64,.int .i64 0,.func (.func 117) #[] #[],.func (.func 118) #[] #[]]
set_option maxHeartbeats 8000000 in
theorem fields20 (w:World):Calls Tryz.prog 61 #[] w fun e w'=>e = .returned (.slice (some ⟨w.heap.size,0,none⟩) 7 7)∧w'=w.alloc (.cells fldC 131):=by
 unfold fldC;go_enter Tryz.func61,Tryz.ntmps61;go_wp2_with fail;go_ret;exact⟨rfl,rfl⟩
def sameS (s t:Sg):Bool:=decide (s.node=t.node)&&(decide (s.name=t.name)&&(decide (s.num=t.num)&&(eqT s.fr t.fr&&(eqT s.tt t.tt&&(eqT s.ref t.ref&&eqT s.val t.val)))))
set_option maxHeartbeats 8000000 in
theorem same44 (S S2:Nat→Prop) (s t:Sg) (x y:Sf) (w:World) (h:SgAt S w s x) (h2:SgAt S2 w t y):Calls Tryz.prog 82 #[sgV s x,sgV t y] w fun e w'=>e = .returned (.bool (sameS s t))∧Below w.heap.size w w':=by
 obtain⟨k,fr,tt,node,name,ref,num,val⟩:=s;obtain⟨⟨fa,va⟩,⟨fb,vb⟩,⟨fc,vc⟩,⟨fd,vd⟩⟩:=x;obtain⟨_,sa,ca,ea⟩:=h.fr.its.2.form;obtain⟨_,sb,cb,eb⟩:=h.tt.its.2.form;obtain⟨_,sc,cc,ec⟩:=h.ref.its.2.form;obtain⟨_,sd,cd,ed⟩:=h.val.its.2.form;dsimp only at ea eb ec ed;obtain⟨na,hna⟩:∃ q,q=fr.l.length:=⟨_,rfl⟩;rw[←hna] at ea;clear hna;obtain⟨nb,hnb⟩:∃ q,q=tt.l.length:=⟨_,rfl⟩;rw[←hnb] at eb;clear hnb;obtain⟨nc,hnc⟩:∃ q,q=ref.l.length:=⟨_,rfl⟩
 rw[←hnc] at ec;clear hnc;obtain⟨nd,hnd⟩:∃ q,q=val.l.length:=⟨_,rfl⟩;rw[←hnd] at ed;clear hnd;subst ea eb ec ed;obtain⟨k',fr',tt',node',name',ref',num',val'⟩:=t;obtain⟨⟨fa',va'⟩,⟨fb',vb'⟩,⟨fc',vc'⟩,⟨fd',vd'⟩⟩:=y;obtain⟨_,sa',ca',ea'⟩:=h2.fr.its.2.form;obtain⟨_,sb',cb',eb'⟩:=h2.tt.its.2.form;obtain⟨_,sc',cc',ec'⟩:=h2.ref.its.2.form;obtain⟨_,sd',cd',ed'⟩:=h2.val.its.2.form;dsimp only at ea' eb' ec' ed'
 obtain⟨na',hna'⟩:∃ q,q=fr'.l.length:=⟨_,rfl⟩;rw[←hna'] at ea';clear hna';obtain⟨nb',hnb'⟩:∃ q,q=tt'.l.length:=⟨_,rfl⟩;rw[←hnb'] at eb';clear hnb';obtain⟨nc',hnc'⟩:∃ q,q=ref'.l.length:=⟨_,rfl⟩;rw[←hnc'] at ec';clear hnc';obtain⟨nd',hnd'⟩:∃ q,q=val'.l.length:=⟨_,rfl⟩;rw[←hnd'] at ed';clear hnd';subst ea' eb' ec' ed';simp only[sgV,sgC,ftC,List.cons_append,List.nil_append];have W2:=qH (((Below.refl w.heap.size w).alloc (Nat.le_refl _) (.cells #[.int .i64 k,.int .i64 fa.k,.int .i64 fa.n,.int .i64 fa.g,.string fa.nm,.string fa.fn,.int .i64 fa.ar,.slice sa na ca,.string fa.bs,.int .i64 fa.bt,.int .i64 fb.k,.int .i64 fb.n,.int .i64 fb.g,.string fb.nm,.string fb.fn,.int .i64 fb.ar,.slice sb nb cb,.string fb.bs,.int .i64 fb.bt,.string node,.string name,.int .i64 fc.k,.int .i64 fc.n,.int .i64 fc.g,.string fc.nm,.string fc.fn,.int .i64 fc.ar,.slice sc nc cc,.string fc.bs,.int .i64 fc.bt,.int .i64 num,.int .i64 fd.k,.int .i64 fd.n,.int .i64 fd.g,.string fd.nm,.string fd.fn,.int .i64 fd.ar,.slice sd nd cd,.string fd.bs,.int .i64 fd.bt] 50)).alloc (by simp) (.cells #[.int .i64 k',.int .i64 fa'.k,.int .i64 fa'.n,.int .i64 fa'.g,.string fa'.nm,.string fa'.fn,.int .i64 fa'.ar,.slice sa' na' ca',.string fa'.bs,.int .i64 fa'.bt,.int .i64 fb'.k,.int .i64 fb'.n,.int .i64 fb'.g,.string fb'.nm,.string fb'.fn,.int .i64 fb'.ar,.slice sb' nb' cb',.string fb'.bs,.int .i64 fb'.bt,.string node',.string name',.int .i64 fc'.k,.int .i64 fc'.n,.int .i64 fc'.g,.string fc'.nm,.string fc'.fn,.int .i64 fc'.ar,.slice sc' nc' cc',.string fc'.bs,.int .i64 fc'.bt,.int .i64 num',.int .i64 fd'.k,.int .i64 fd'.n,.int .i64 fd'.g,.string fd'.nm,.string fd'.fn,.int .i64 fd'.ar,.slice sd' nd' cd',.string fd'.bs,.int .i64 fd'.bt] 50))
 have X:=qH ((Blk.new w 50 #[.int .i64 k,.int .i64 fa.k,.int .i64 fa.n,.int .i64 fa.g,.string fa.nm,.string fa.fn,.int .i64 fa.ar,.slice sa na ca,.string fa.bs,.int .i64 fa.bt,.int .i64 fb.k,.int .i64 fb.n,.int .i64 fb.g,.string fb.nm,.string fb.fn,.int .i64 fb.ar,.slice sb nb cb,.string fb.bs,.int .i64 fb.bt,.string node,.string name,.int .i64 fc.k,.int .i64 fc.n,.int .i64 fc.g,.string fc.nm,.string fc.fn,.int .i64 fc.ar,.slice sc nc cc,.string fc.bs,.int .i64 fc.bt,.int .i64 num,.int .i64 fd.k,.int .i64 fd.n,.int .i64 fd.g,.string fd.nm,.string fd.fn,.int .i64 fd.ar,.slice sd nd cd,.string fd.bs,.int .i64 fd.bt]).alloc (.cells #[.int .i64 k',.int .i64 fa'.k,.int .i64 fa'.n,.int .i64 fa'.g,.string fa'.nm,.string fa'.fn,.int .i64 fa'.ar,.slice sa' na' ca',.string fa'.bs,.int .i64 fa'.bt,.int .i64 fb'.k,.int .i64 fb'.n,.int .i64 fb'.g,.string fb'.nm,.string fb'.fn,.int .i64 fb'.ar,.slice sb' nb' cb',.string fb'.bs,.int .i64 fb'.bt,.string node',.string name',.int .i64 fc'.k,.int .i64 fc'.n,.int .i64 fc'.g,.string fc'.nm,.string fc'.fn,.int .i64 fc'.ar,.slice sc' nc' cc',.string fc'.bs,.int .i64 fc'.bt,.int .i64 num',.int .i64 fd'.k,.int .i64 fd'.n,.int .i64 fd'.g,.string fd'.nm,.string fd'.fn,.int .i64 fd'.ar,.slice sd' nd' cd',.string fd'.bs,.int .i64 fd'.bt] 50))
 have Y:=qH (Blk.new (w.alloc (.cells #[.int .i64 k,.int .i64 fa.k,.int .i64 fa.n,.int .i64 fa.g,.string fa.nm,.string fa.fn,.int .i64 fa.ar,.slice sa na ca,.string fa.bs,.int .i64 fa.bt,.int .i64 fb.k,.int .i64 fb.n,.int .i64 fb.g,.string fb.nm,.string fb.fn,.int .i64 fb.ar,.slice sb nb cb,.string fb.bs,.int .i64 fb.bt,.string node,.string name,.int .i64 fc.k,.int .i64 fc.n,.int .i64 fc.g,.string fc.nm,.string fc.fn,.int .i64 fc.ar,.slice sc nc cc,.string fc.bs,.int .i64 fc.bt,.int .i64 num,.int .i64 fd.k,.int .i64 fd.n,.int .i64 fd.g,.string fd.nm,.string fd.fn,.int .i64 fd.ar,.slice sd nd cd,.string fd.bs,.int .i64 fd.bt] 50)) 50 #[.int .i64 k',.int .i64 fa'.k,.int .i64 fa'.n,.int .i64 fa'.g,.string fa'.nm,.string fa'.fn,.int .i64 fa'.ar,.slice sa' na' ca',.string fa'.bs,.int .i64 fa'.bt,.int .i64 fb'.k,.int .i64 fb'.n,.int .i64 fb'.g,.string fb'.nm,.string fb'.fn,.int .i64 fb'.ar,.slice sb' nb' cb',.string fb'.bs,.int .i64 fb'.bt,.string node',.string name',.int .i64 fc'.k,.int .i64 fc'.n,.int .i64 fc'.g,.string fc'.nm,.string fc'.fn,.int .i64 fc'.ar,.slice sc' nc' cc',.string fc'.bs,.int .i64 fc'.bt,.int .i64 num',.int .i64 fd'.k,.int .i64 fd'.n,.int .i64 fd'.g,.string fd'.nm,.string fd'.fn,.int .i64 fd'.ar,.slice sd' nd' cd',.string fd'.bs,.int .i64 fd'.bt])
 rw[World.size_alloc] at Y;have H1:=qH (h.below W2.out (fun b _ h=>h));have H2:=qH (h2.below W2.out (fun b _ h=>h));obtain⟨R,hR⟩:∃ q,q=sameS ⟨k,fr,tt,node,name,ref,num,val⟩ ⟨k',fr',tt',node',name',ref',num',val'⟩:=⟨_,rfl⟩;rw[←hR];unfold sameS at hR;dsimp only at hR;clear h h2;have HRR:=qH hR;clear hR;go_enter Tryz.func82,Tryz.ntmps82;go_upto_region 1 with fail
 generalize ((w.alloc (.cells #[.int .i64 k,.int .i64 fa.k,.int .i64 fa.n,.int .i64 fa.g,.string fa.nm,.string fa.fn,.int .i64 fa.ar,.slice sa na ca,.string fa.bs,.int .i64 fa.bt,.int .i64 fb.k,.int .i64 fb.n,.int .i64 fb.g,.string fb.nm,.string fb.fn,.int .i64 fb.ar,.slice sb nb cb,.string fb.bs,.int .i64 fb.bt,.string node,.string name,.int .i64 fc.k,.int .i64 fc.n,.int .i64 fc.g,.string fc.nm,.string fc.fn,.int .i64 fc.ar,.slice sc nc cc,.string fc.bs,.int .i64 fc.bt,.int .i64 num,.int .i64 fd.k,.int .i64 fd.n,.int .i64 fd.g,.string fd.nm,.string fd.fn,.int .i64 fd.ar,.slice sd nd cd,.string fd.bs,.int .i64 fd.bt] 50)).alloc (.cells #[.int .i64 k',.int .i64 fa'.k,.int .i64 fa'.n,.int .i64 fa'.g,.string fa'.nm,.string fa'.fn,.int .i64 fa'.ar,.slice sa' na' ca',.string fa'.bs,.int .i64 fa'.bt,.int .i64 fb'.k,.int .i64 fb'.n,.int .i64 fb'.g,.string fb'.nm,.string fb'.fn,.int .i64 fb'.ar,.slice sb' nb' cb',.string fb'.bs,.int .i64 fb'.bt,.string node',.string name',.int .i64 fc'.k,.int .i64 fc'.n,.int .i64 fc'.g,.string fc'.nm,.string fc'.fn,.int .i64 fc'.ar,.slice sc' nc' cc',.string fc'.bs,.int .i64 fc'.bt,.int .i64 num',.int .i64 fd'.k,.int .i64 fd'.n,.int .i64 fd'.g,.string fd'.nm,.string fd'.fn,.int .i64 fd'.ar,.slice sd' nd' cd',.string fd'.bs,.int .i64 fd'.bt] 50))=w1 at X Y W2 H1 H2 ⊢
 obtain⟨m,hm⟩:∃ q,q=w.heap.size:=⟨_,rfl⟩;rw[←hm] at X Y ⊢;have HM:=qH hm;clear hm;have p0:=X.out.cell 19;have p1:=X.out.cell 20;have p2:=X.out.cell 30;simp only[List.getElem?_toArray,List.getElem?_cons_zero,List.getElem?_cons_succ] at p0 p1 p2;have r0:=Y.out.cell 19;have r1:=Y.out.cell 20;have r2:=Y.out.cell 30;simp only[List.getElem?_toArray,List.getElem?_cons_zero,List.getElem?_cons_succ] at r0 r1 r2
 by_cases q0:node=node'
 ·
  subst q0
  by_cases q1:name=name'
  ·
   subst q1
   by_cases q2:num=num'
   ·
    subst q2;have a0:=X.out.cell 1;have a1:=X.out.cell 2;have a2:=X.out.cell 3;have a3:=X.out.cell 4;have a4:=X.out.cell 5;have a5:=X.out.cell 6;have a6:=X.out.cell 7;have a7:=X.out.cell 8;have a8:=X.out.cell 9;simp only[List.getElem?_toArray,List.getElem?_cons_zero,List.getElem?_cons_succ] at a0 a1 a2 a3 a4 a5 a6 a7 a8;have b0:=Y.out.cell 1;have b1:=Y.out.cell 2;have b2:=Y.out.cell 3;have b3:=Y.out.cell 4
    have b4:=Y.out.cell 5;have b5:=Y.out.cell 6;have b6:=Y.out.cell 7;have b7:=Y.out.cell 8;have b8:=Y.out.cell 9;simp only[List.getElem?_toArray,List.getElem?_cons_zero,List.getElem?_cons_succ] at b0 b1 b2 b3 b4 b5 b6 b7 b8;have CC:=qH (tsame_any fr fr' S S2 _ _ w1 H1.out.fr H2.out.fr);obtain⟨g,hg⟩:∃ q,q=eqT fr fr':=⟨_,rfl⟩;rw[←hg] at CC;have HG3:=qH hg;clear hg;unfold ftV at CC;dsimp only at CC;go_wp2_with fail
    refine CC.out.mono ?_;rintro e w2 ⟨rfl,bb⟩;clear a0 a1 a2 a3 a4 a5 a6 a7 a8 b0 b1 b2 b3 b4 b5 b6 b7 b8 p0 p1 p2 r0 r1 r2 CC;replace X:=qH (X.out.below bb X.out.lt);replace Y:=qH (Y.out.below bb Y.out.lt);replace H1:=qH (H1.out.below bb (fun b _ h=>h));replace H2:=qH (H2.out.below bb (fun b _ h=>h));replace W2:=qH (W2.out.trans (bb.mono W2.out.size));clear bb;cases g with
    | false=>
     obtain rfl:R=false:=by rw[HRR.out,←HG3.out];simp
     go_wp2_with fail;go_ret;exact⟨rfl,W2.out⟩
    | true=>
     have a0:=X.out.cell 10;have a1:=X.out.cell 11;have a2:=X.out.cell 12;have a3:=X.out.cell 13;have a4:=X.out.cell 14;have a5:=X.out.cell 15;have a6:=X.out.cell 16;have a7:=X.out.cell 17;have a8:=X.out.cell 18;simp only[List.getElem?_toArray,List.getElem?_cons_zero,List.getElem?_cons_succ] at a0 a1 a2 a3 a4 a5 a6 a7 a8;have b0:=Y.out.cell 10;have b1:=Y.out.cell 11;have b2:=Y.out.cell 12;have b3:=Y.out.cell 13
     have b4:=Y.out.cell 14;have b5:=Y.out.cell 15;have b6:=Y.out.cell 16;have b7:=Y.out.cell 17;have b8:=Y.out.cell 18;simp only[List.getElem?_toArray,List.getElem?_cons_zero,List.getElem?_cons_succ] at b0 b1 b2 b3 b4 b5 b6 b7 b8;have CC:=qH (tsame_any tt tt' S S2 _ _ w2 H1.out.tt H2.out.tt);obtain⟨g,hg⟩:∃ q,q=eqT tt tt':=⟨_,rfl⟩;rw[←hg] at CC;have HG4:=qH hg;clear hg;unfold ftV at CC;dsimp only at CC
     go_wp2_with fail;refine CC.out.mono ?_;rintro e w3 ⟨rfl,bb⟩;clear a0 a1 a2 a3 a4 a5 a6 a7 a8 b0 b1 b2 b3 b4 b5 b6 b7 b8 CC;replace X:=qH (X.out.below bb X.out.lt);replace Y:=qH (Y.out.below bb Y.out.lt);replace H1:=qH (H1.out.below bb (fun b _ h=>h));replace H2:=qH (H2.out.below bb (fun b _ h=>h));replace W2:=qH (W2.out.trans (bb.mono W2.out.size));clear bb;cases g with
     | false=>
      obtain rfl:R=false:=by rw[HRR.out,←HG4.out];simp
      go_wp2_with fail;go_ret;exact⟨rfl,W2.out⟩
     | true=>
      have a0:=X.out.cell 21;have a1:=X.out.cell 22;have a2:=X.out.cell 23;have a3:=X.out.cell 24;have a4:=X.out.cell 25;have a5:=X.out.cell 26;have a6:=X.out.cell 27;have a7:=X.out.cell 28;have a8:=X.out.cell 29;simp only[List.getElem?_toArray,List.getElem?_cons_zero,List.getElem?_cons_succ] at a0 a1 a2 a3 a4 a5 a6 a7 a8;have b0:=Y.out.cell 21;have b1:=Y.out.cell 22;have b2:=Y.out.cell 23;have b3:=Y.out.cell 24
      have b4:=Y.out.cell 25;have b5:=Y.out.cell 26;have b6:=Y.out.cell 27;have b7:=Y.out.cell 28;have b8:=Y.out.cell 29;simp only[List.getElem?_toArray,List.getElem?_cons_zero,List.getElem?_cons_succ] at b0 b1 b2 b3 b4 b5 b6 b7 b8;have CC:=qH (tsame_any ref ref' S S2 _ _ w3 H1.out.ref H2.out.ref);obtain⟨g,hg⟩:∃ q,q=eqT ref ref':=⟨_,rfl⟩;rw[←hg] at CC;have HG5:=qH hg;clear hg;unfold ftV at CC;dsimp only at CC
      go_wp2_with fail;refine CC.out.mono ?_;rintro e w4 ⟨rfl,bb⟩;clear a0 a1 a2 a3 a4 a5 a6 a7 a8 b0 b1 b2 b3 b4 b5 b6 b7 b8 CC;replace X:=qH (X.out.below bb X.out.lt);replace Y:=qH (Y.out.below bb Y.out.lt);replace H1:=qH (H1.out.below bb (fun b _ h=>h));replace H2:=qH (H2.out.below bb (fun b _ h=>h));replace W2:=qH (W2.out.trans (bb.mono W2.out.size));clear bb;cases g with
      | false=>
       obtain rfl:R=false:=by rw[HRR.out,←HG5.out];simp
       go_wp2_with fail;go_ret;exact⟨rfl,W2.out⟩
      | true=>
       have a0:=X.out.cell 31;have a1:=X.out.cell 32;have a2:=X.out.cell 33;have a3:=X.out.cell 34;have a4:=X.out.cell 35;have a5:=X.out.cell 36;have a6:=X.out.cell 37;have a7:=X.out.cell 38;have a8:=X.out.cell 39;simp only[List.getElem?_toArray,List.getElem?_cons_zero,List.getElem?_cons_succ] at a0 a1 a2 a3 a4 a5 a6 a7 a8;have b0:=Y.out.cell 31;have b1:=Y.out.cell 32;have b2:=Y.out.cell 33;have b3:=Y.out.cell 34
       have b4:=Y.out.cell 35;have b5:=Y.out.cell 36;have b6:=Y.out.cell 37;have b7:=Y.out.cell 38;have b8:=Y.out.cell 39;simp only[List.getElem?_toArray,List.getElem?_cons_zero,List.getElem?_cons_succ] at b0 b1 b2 b3 b4 b5 b6 b7 b8;have CC:=qH (tsame_any val val' S S2 _ _ w4 H1.out.val H2.out.val);obtain⟨g,hg⟩:∃ q,q=eqT val val':=⟨_,rfl⟩;rw[←hg] at CC;have HG6:=qH hg;clear hg;unfold ftV at CC;dsimp only at CC
       go_wp2_with fail;refine CC.out.mono ?_;rintro e w5 ⟨rfl,bb⟩;clear a0 a1 a2 a3 a4 a5 a6 a7 a8 b0 b1 b2 b3 b4 b5 b6 b7 b8 CC;replace X:=qH (X.out.below bb X.out.lt);replace Y:=qH (Y.out.below bb Y.out.lt);replace H1:=qH (H1.out.below bb (fun b _ h=>h));replace H2:=qH (H2.out.below bb (fun b _ h=>h));replace W2:=qH (W2.out.trans (bb.mono W2.out.size));clear bb;cases g with
       | false=>
        obtain rfl:R=false:=by rw[HRR.out,←HG6.out];simp
        go_wp2_with fail;go_ret;exact⟨rfl,W2.out⟩
       | true=>
        obtain rfl:R=true:=by rw[HRR.out,←HG3.out,←HG4.out,←HG5.out,←HG6.out];simp
        go_wp2_with fail;go_ret;exact⟨rfl,W2.out⟩
   ·
    have d2:(num==num')=false:=by simpa using q2
    obtain rfl:R=false:=by rw[HRR.out];simp[q2]
    clear q2 HRR;go_wp2_with fail;go_ret;exact⟨rfl,W2.out⟩
  ·
   have d1:(name.toList==name'.toList)=false:=by rw[beq_eq_false_iff_ne];exact fun h=>q1 (bytes_ext h)
   obtain rfl:R=false:=by rw[HRR.out];simp[q1]
   clear q1 HRR;go_wp2_with fail;go_ret;exact⟨rfl,W2.out⟩
 ·
  have d0:(node.toList==node'.toList)=false:=by rw[beq_eq_false_iff_ne];exact fun h=>q0 (bytes_ext h)
  obtain rfl:R=false:=by rw[HRR.out];simp[q0]
  clear q0 HRR;go_wp2_with fail;go_ret;exact⟨rfl,W2.out⟩
end Go.Proofs.YtoaimoemaoinhaaGreatDoor
