/- PeersX: a part of the proof. No condition beyond the premises of each theorem. -/
import Derived.Test.YtoaimoemaoinhaaGreatDoorQp20
import Derived.Defers
import Derived.Recover
import Derived.Test.YtoaimoemaoinhaaGreatDoorQp07
import Derived.Test.YtoaimoemaoinhaaGreatDoorQp00
set_option maxRecDepth 100000
namespace Go.Proofs.YtoaimoemaoinhaaGreatDoor
open Go.RowKit Go.Rt Go.Rw
def zeroC : Array Value:=zT
set_option maxHeartbeats 2000000 in
theorem catch_idle (p q r:Value) (w:World) :
    CallsD Tryz.prog 122 #[p,q,r] .returning w fun e u' w'=>e = .returned (.tuple #[])∧u' = .returning∧w'=w:=by
  refine callsD_of_wpS Tryz.func122 rfl fun c₀ cs hu=>?_
  apply wpS_seq;apply wpS_region;simp[wpOpsS,go_sem,recoverD,hu,Tryz.ntmps122,Exit.thenS];refine wpS_of_wp ?_;go_wp2_with fail;cases c₀
  simp_all [bodyPostS,results,Tryz.results122]
set_option maxHeartbeats 2000000 in
theorem catch_panicking {B bt bn be:Nat} {cs:Array Value} {n e0:Value} {w:World} (ht:Blk w bt 48 cs) (hz:cs.size=9) (hn:Blk w bn 3 #[n]) (he:Blk w be 35 #[e0]) (h1:bt≠bn) (h2:bt≠be) (h3:bn≠be) (hB:B≤bt∧B≤bn∧B≤be) (hBw:B≤w.heap.size) :
    CallsD Tryz.prog 122 #[.pointer (some ⟨bt,0,none⟩),.pointer (some ⟨bn,0,none⟩),.pointer (some ⟨be,0,none⟩)] (.panicking refusal) w fun e u' w'=>
      e = .returned (.tuple #[])∧u' = .panicking [{ v:=.iface 192 (.agg #[]),recovered:=true }]∧Blk w' bt 48 zeroC∧Blk w' bn 3 #[.int .i64 0]∧Blk w' be 35 #[.int .i64 6]∧Below B w w':=by
  refine callsD_of_wpS Tryz.func122 rfl fun c₀ cs hu=>?_
  apply wpS_seq;apply wpS_region;simp[wpOpsS,go_sem,recoverD,hu,refusal,Tryz.ntmps122,Exit.thenS];refine wpS_of_wp ?_;change Code.wp Tryz.prog _ _ { tmps:=#[.pointer (some ⟨bt,0,none⟩),.pointer (some ⟨bn,0,none⟩),.pointer (some ⟨be,0,none⟩),.iface 192 (.agg #[]),undef,undef,.iface 192 (.agg #[]),undef,undef,undef,undef,undef,undef,undef,undef,undef,undef,undef],defers:=[] } w;have hta:∀ W,(Instr.typeAssert (.iface 192 (.agg #[])) 20 192 true).run Tryz.prog W = .ok (.tuple #[.agg #[],.bool true]) W:=fun _=>by kernel_rfl
  have HT:=qH (ht.alloc (.cells #[] 192));have HN:=qH (hn.alloc (.cells #[] 192));have HE:=qH (he.alloc (.cells #[] 192));have HBB:=qH ((Below.refl B w).alloc hBw (.cells #[] 192));have hbt:=ht.lt;have hbn:=hn.lt;have hbe:=he.lt;clear ht hn he;go_upto_region 5 with fail
  generalize w.alloc (.cells #[] 192)=v0 at HT HN HE HBB ⊢;have HSZ:Hid (w.heap.size≤v0.heap.size):=qH HBB.out.size;go_wp2_with (first
    | (refine wpList_store_blk rfl 48 _ _ rfl rfl bt zeroC _ 48 rfl rfl HT.out (by rw[hz];rfl) info25 (by simp[zeroC,Value.oneCell']) ?_
       intro v1 b1 o1;have HN1:=qH (HN.out.only o1 (by simp;omega));have HE1:=qH (HE.out.only o1 (by simp;omega));have HT1:=qH b1;have HB1:=qH (HBB.out.trans (o1.below (by simp;omega) (by have:=HSZ.out;omega)));clear b1 o1 HT HN HE HBB)
    | (refine wpList_store_fld rfl 3 _ _ rfl rfl bn 0 _ 3 (.int .i64 0) rfl rfl HN1.out (Nat.le_of_ble_eq_true rfl) (by kernel_rfl) rfl ?_
       intro v2 e2;have HN2:=qH (show Blk v2 bn 3 #[.int .i64 0] by rw[e2];exact HN1.out.set_ 0 _);have HT2:=qH (show Blk v2 bt 48 zeroC by rw[e2];exact HT1.out.far h1 _);have HE2:=qH (show Blk v2 be 35 #[e0] by rw[e2];exact HE1.out.far h3.symm _);have HB2:=qH (show Below B w v2 by rw[e2];exact HB1.out.setCell hB.2.1 _);clear e2 HN1 HT1 HE1 HB1)
    | (refine wpList_store_fld rfl 35 _ _ rfl rfl be 0 _ 35 (.int .i64 6) rfl rfl HE2.out (Nat.le_of_ble_eq_true rfl) (by kernel_rfl) rfl ?_
       intro v3 e3;have HE3:=qH (show Blk v3 be 35 #[.int .i64 6] by rw[e3];exact HE2.out.set_ 0 _);have HT3:=qH (show Blk v3 bt 48 zeroC by rw[e3];exact HT2.out.far h2 _);have HN3:=qH (show Blk v3 bn 3 #[.int .i64 0] by rw[e3];exact HN2.out.far h3 _);have HB3:=qH (show Below B w v3 by rw[e3];exact HB2.out.setCell hB.2.2 _);clear e3 HN2 HT2 HE2 HB2))
  exact⟨rfl,_,rfl,.tuple #[],by simp[results,Tryz.results122],rfl,rfl,HT3.out,HN3.out,HE3.out,HB3.out⟩
theorem results_t3 {bt bn be:Nat} {cs:Array Value} {n e0:Value} {w:World} (tmps:Array Value) (ht:Blk w bt 48 cs) (hz:cs.size=9) (hn:Blk w bn 3 #[n]) (he:Blk w be 35 #[e0])
    (h2:tmps.getD 2 undef = .pointer (some ⟨bt,0,none⟩)) (h3:tmps.getD 3 undef = .pointer (some ⟨bn,0,none⟩)) (h4:tmps.getD 4 undef = .pointer (some ⟨be,0,none⟩)) :
    (results Tryz.f63 tmps).run Tryz.prog w = .ok (.tuple #[.agg cs,n,e0]) w:=by
  have q1:=run_loadVar_mid (P:=Tryz.prog) w bt 0 48 cs.toList _ ht.range Tryz.underlying48 rfl (by rw[Array.length_toList,hz];exact info25);have c2:w.cell? ⟨bn,0,none⟩=some n:=hn.cell 0;have c3:w.cell? ⟨be,0,none⟩=some e0:=he.cell 0;have q2:(loadVar 3 ⟨bn,0,none⟩).run Tryz.prog w = .ok n w:=by simp[go_sem,c2]
  have q3:(loadVar 35 ⟨be,0,none⟩).run Tryz.prog w = .ok e0 w:=by simp[go_sem,c3]
  rw[Array.getD_eq_getD_getElem?] at h2 h3 h4;simp only[Array.toArray_toList] at q1;simp[results,Tryz.results63,h2,h3,h4,asAddr,q1,q2,q3]
theorem door_panic {B bt bn be:Nat} {cs:Array Value} {n e0:Value} {w:World} {R:Ending→World→Prop} (tmps:Array Value) (ht:Blk w bt 48 cs) (hz:cs.size=9) (hn:Blk w bn 3 #[n]) (he:Blk w be 35 #[e0])
    (h1:bt≠bn) (h2:bt≠be) (h3:bn≠be) (hB:B≤bt∧B≤bn∧B≤be) (hBw:B≤w.heap.size)
    (g2:tmps.getD 2 undef = .pointer (some ⟨bt,0,none⟩)) (g3:tmps.getD 3 undef = .pointer (some ⟨bn,0,none⟩)) (g4:tmps.getD 4 undef = .pointer (some ⟨be,0,none⟩))
    (hR:∀ w',Below B w w'→R (.returned (.tuple #[.agg zeroC,.int .i64 0,.int .i64 6])) w') :
    Leaves Tryz.prog Tryz.f63 tmps R [{ target:=.fn (.func 122) #[.pointer (some ⟨bt,0,none⟩),.pointer (some ⟨bn,0,none⟩),.pointer (some ⟨be,0,none⟩)],args:=#[] }] (.panicking refusal) w:=by
  refine leaves_cons (f:=122) (args:=#[.pointer (some ⟨bt,0,none⟩),.pointer (some ⟨bn,0,none⟩),.pointer (some ⟨be,0,none⟩)]) (by simp) (by simp[go_sem]) ?_;refine(catch_panicking ht hz hn he h1 h2 h3 hB hBw).mono ?_;rintro e u' w' ⟨rfl,rfl,ht',hn',he',hb⟩;exact⟨_,results_t3 tmps ht' rfl hn' he' g2 g3 g4,hR w' hb⟩
theorem door_idle {bt bn be:Nat} {cs:Array Value} {n e0:Value} {w:World} {R:Ending→World→Prop} (tmps:Array Value) (ht:Blk w bt 48 cs) (hz:cs.size=9) (hn:Blk w bn 3 #[n]) (he:Blk w be 35 #[e0])
    (g2:tmps.getD 2 undef = .pointer (some ⟨bt,0,none⟩)) (g3:tmps.getD 3 undef = .pointer (some ⟨bn,0,none⟩)) (g4:tmps.getD 4 undef = .pointer (some ⟨be,0,none⟩))
    (hR:R (.returned (.tuple #[.agg cs,n,e0])) w) :
    Leaves Tryz.prog Tryz.f63 tmps R [{ target:=.fn (.func 122) #[.pointer (some ⟨bt,0,none⟩),.pointer (some ⟨bn,0,none⟩),.pointer (some ⟨be,0,none⟩)],args:=#[] }] .returning w:=by
  refine leaves_cons (f:=122) (args:=#[.pointer (some ⟨bt,0,none⟩),.pointer (some ⟨bn,0,none⟩),.pointer (some ⟨be,0,none⟩)]) (by simp) (by simp[go_sem]) ?_;refine(catch_idle _ _ _ _).mono ?_;rintro e u' w' ⟨rfl,rfl,rfl⟩;exact⟨_,results_t3 tmps ht hz hn he g2 g3 g4,hR⟩
def zeroT : Tm:=.mk zeroFl []
def takeF (s:ByteArray):Tm×Nat×Int:=match termP 2000 0 s.data.toList with
  | none=>(zeroT,0,6)
  | some (t,_,r)=>if validB t then (t,s.size-r.length,0) else (zeroT,0,6)
def TakeR (f:Tm×Nat×Int) (w:World) (e:Ending) (w':World):Prop:=
  Below w.heap.size w w'∧∃ x,e = .returned (.tuple #[ftV x,.int .i64 (f.2.1:Nat),.int .i64 f.2.2])∧TmAt (fun c=>w.heap.size≤c) w' f.1 x
theorem step_store_fld {P:Program} {ops:Array Oper} {o:Oper} {a:Act} {w:World} {K:Act→World→Prop} {Q:Exit→Act→World→Prop} {E:Prop}
    (hgd:o.guard=none) (ty:TypeId) (x y:Operand) (ho:o.op = .store ty x y) (hdst:o.dst=none)
    (b i:Nat) (cs:Array Value) (t:TypeId) (v:Value) (hx:a.eval x = .pointer (some ⟨b,i,none⟩)) (hy:a.eval y=v)
    (hc:Blk w b t cs) (hi:i<cs.size) (hu:(P.info? ty).map (·.size)=some 1) (h1:v.oneCell'=true)
    (hK:∀ w',w'=w.setCell ⟨b,i,none⟩ v→K a w') :
    if Region.wanted o (yielded ops a.tmps)=true then Oper.wp P o a w K Q else E:=by
  have hw:Region.wanted o (yielded ops a.tmps)=true:=by simp[Region.wanted,hgd]
  rw[if_pos hw];unfold Oper.wp execOp;simp only[ho,hx,hy,Instr.storeAt,Instr.sureAddr,Sem.run_bind,Sem.run_pure,Result.andThen_ok,run_storeVar_fld w b i ty t v cs hc hi hu h1];simp only[Oper.upon];rw[put_none _ _ hdst];exact hK _ rfl
theorem leaves_congr {P:Program} {fn:Func} {R:Ending→World→Prop} {tmps tmps':Array Value} (h:results fn tmps=results fn tmps'):∀ (ds:List Deferred) (u:FrameMode) (w:World),Leaves P fn tmps R ds u w→Leaves P fn tmps' R ds u w
  | [],.returning,w,⟨v,h1,h2⟩=>⟨v,h▸h1,h2⟩
  | [],.panicking _,_,h1=>h1
  | d::ds,u,w,⟨hu,fv,cap,f,args,ht,hi,hc⟩=>⟨hu,fv,cap,f,args,ht,hi,hc.mono (fun e u' w' he=>by
      cases e with
      | returned v=>exact leaves_congr h ds _ _ he
      | panicked c=>exact leaves_congr h ds _ _ he
      | outgrown=>exact he)⟩
theorem hq15 {K:Act→World→Prop} {R:Ending→World→Prop} (n:Nat) (hn:4<n) (c:List PanicEntry) (a:Act) (w:World) (v:Value) (h:Exit.then K (bodyPostD Tryz.prog Tryz.f63 R) (.panic c) (a.put (some n) v) w):Exit.then K (bodyPostD Tryz.prog Tryz.f63 R) (.panic c) a w:=by
  have h':Leaves Tryz.prog Tryz.f63 (a.tmps.setIfInBounds n v) R a.defers (.panicking c) w:=h;refine leaves_congr ?_ _ _ _ h';have g:∀ k,k≠n→(a.tmps.setIfInBounds n v)[k]? = a.tmps[k]?:=fun k hk=>Array.getElem?_setIfInBounds_ne (Ne.symm hk)
  simp[results,Tryz.results63,g 2 (by omega),g 3 (by omega),g 4 (by omega)]
theorem zeroT_at (S:Nat→Prop) (w:World):TmAt S w zeroT ⟨zeroFl,.slice none 0 0⟩:=TmAt.of rfl (ItsAt.nil none 0)
theorem takeR_zero {w w':World} (h:Below w.heap.size w w'):TakeR (zeroT,0,6) w (.returned (.tuple #[.agg zeroC,.int .i64 0,.int .i64 6])) w':=⟨h,⟨zeroFl,.slice none 0 0⟩,rfl,zeroT_at _ _⟩
theorem fit_cnt_bulk {t:Tm} (hc:cnt t≤2000):bulk t≤4611686018427387904:=by have:=bulk_cnt t;omega
set_option maxHeartbeats 2000000 in
theorem take_any' (s:ByteArray) (hs:s.size≤200000) (w:World):Calls Tryz.prog 63 #[.string s] w (TakeR (takeF s) w):=by
  have hmf:∀ (fn:Fn) (first cap:Array Value) (w:World),(Instr.makeFunc fn first cap).run Tryz.prog w = .ok (.func fn first cap) w:=fun _ _ _ _=>rfl
  obtain⟨F,hF⟩:∃ F,F=takeF s:=⟨_,rfl⟩;rw[←hF];unfold takeF at hF;have HF:=qH hF;clear hF;have BT:=(Blk.new w 48 zeroC).alloc (.cells #[.int .i64 0] 3) |>.alloc (.cells #[.int .i64 0] 35)
  have BN:=(Blk.new (w.alloc (.cells zeroC 48)) 3 #[.int .i64 0]).alloc (.cells #[.int .i64 0] 35);have BE:=Blk.new ((w.alloc (.cells zeroC 48)).alloc (.cells #[.int .i64 0] 3)) 35 #[.int .i64 0];have BB:=(((Below.refl w.heap.size w).alloc (Nat.le_refl _) (.cells zeroC 48)).alloc (by simp) (.cells #[.int .i64 0] 3)).alloc (by simp;omega) (.cells #[.int .i64 0] 35);have SZ:(((w.alloc (.cells zeroC 48)).alloc (.cells #[.int .i64 0] 3)).alloc (.cells #[.int .i64 0] 35)).heap.size=w.heap.size+3:=by simp
  simp only[World.size_alloc] at BN BE;have BT:=qH BT;have BN:=qH BN;have BE:=qH BE;have BB:=qH BB;have SZ:=qH SZ;unfold zeroC at BT BN BE BB SZ;go_enter_defers Tryz.func63,Tryz.ntmps63;go_upto_region 2 with fail
  generalize ((w.alloc (.cells zT 48)).alloc (.cells #[.int .i64 0] 3)).alloc (.cells #[.int .i64 0] 35)=v0 at BT BN BE BB SZ ⊢;have BT1:=qH (BT.out.alloc (.cells #[.string s,.int .i64 0,.int .i64 0] 196));have BN1:=qH (BN.out.alloc (.cells #[.string s,.int .i64 0,.int .i64 0] 196));have BE1:=qH (BE.out.alloc (.cells #[.string s,.int .i64 0,.int .i64 0] 196));have BB1:=qH (BB.out.alloc (by have:=SZ.out;omega) (.cells #[.string s,.int .i64 0,.int .i64 0] 196))
  have RD1:=qH (Blk.new v0 196 #[.string s,.int .i64 0,.int .i64 0]);clear BT BN BE BB;go_upto_region 3 with fail
  generalize v0.alloc (.cells #[.string s,.int .i64 0,.int .i64 0] 196)=v1 at BT1 BN1 BE1 BB1 RD1 ⊢;have RDL:Hid (v0.heap.size<v1.heap.size):=qH RD1.out.lt;obtain⟨rb,hrb⟩:∃ rb,rb=v0.heap.size:=⟨_,rfl⟩;rw[←hrb] at SZ RD1 RDL ⊢;clear hrb;have R1:Hid (Rd s rb s.data.toList 0 v1):=qH ⟨0,by simp,by simp,RD1.out⟩;have HC:=qH (rterm_any hs 2000 0 s.data.toList v1 R1.out (by omega) (by omega));have FT:=qH (fun t p r (h:termP 2000 0 s.data.toList=some (t,p,r))=>term_snd 2000 _ _ _ _ _ h)
  clear RD1 R1;cases hP:termP 2000 0 s.data.toList with
  | none=>
    rw[hP] at HC HF;obtain rfl:F=(zeroT,0,6):=HF.out;clear HF hP FT;go_wp2_with fail;refine HC.out.mono ?_;rintro e v2 ⟨o2,rfl⟩;have BT2:=qH (BT1.out.only o2 (by have:=SZ.out;simp;omega));have BN2:=qH (BN1.out.only o2 (by have:=SZ.out;simp;omega));have BE2:=qH (BE1.out.only o2 (by have:=SZ.out;simp;omega));have BB2:=qH (BB1.out.trans (o2.below (by have:=SZ.out;simp;omega) BB1.out.size));clear o2;go_wp2_with fail
    refine door_panic (B:=w.heap.size) _ BT2.out rfl BN2.out BE2.out (by omega) (by omega) (by omega) (by omega) BB2.out.size rfl rfl rfl (fun w' b=>takeR_zero (BB2.out.trans b))
  | some q=>
    obtain⟨t,p,r⟩:=q;have ft:=FT.out t p r hP;have hfit:=ft.2.2 (by simpa using hs);rw[hP] at HC HF;dsimp only at HF;have HFT:=qH hfit;have hpc:=ft.2.1;clear hP FT ft hfit;go_wp2_with fail;refine HC.out.mono ?_;rintro e v2 ⟨o2,x,rfl,tx,rx,hp1,hp2⟩;dsimp only at tx rx hp1 hp2;obtain⟨_,sx,cx,vx⟩:=tx.its.2.form;obtain⟨xf,xv⟩:=x;dsimp only at vx;subst vx;have hcb:=fit_cnt_bulk (t:=t) (by omega);have HS1:Hid (w.heap.size+3<v1.heap.size):=qH (by have:=RDL.out;have:=SZ.out;omega)
    have BT2:=qH (BT1.out.only o2 (by have:=SZ.out;simp;omega));have BN2:=qH (BN1.out.only o2 (by have:=SZ.out;simp;omega));have BE2:=qH (BE1.out.only o2 (by have:=SZ.out;simp;omega));have BB2:=qH (BB1.out.trans (o2.below (by have:=SZ.out;simp;omega) BB1.out.size));have T2:=qH tx;have R2:=qH rx;have HCB:=qH hcb;obtain⟨li,hli⟩:∃ li,li=t.l.length:=⟨_,rfl⟩;rw[←hli] at T2 ⊢;clear o2 tx rx hp1 hp2 hpc HC hcb BT1 BN1 BE1 BB1 hli
    unfold ftV;go_wp2_with (first
      | (refine wpList_store_blk rfl 48 _ _ rfl rfl w.heap.size #[.int .i64 xf.k,.int .i64 xf.n,.int .i64 xf.g,.string xf.nm,.string xf.fn,.int .i64 xf.ar,.slice sx li cx,.string xf.bs,.int .i64 xf.bt] _ 48 rfl rfl BT2.out rfl info25 (by simp[Value.oneCell']) ?_
         intro v3 b3 o3;have BT3:=qH b3;have BN3:=qH (BN2.out.only o3 (by simp));have BE3:=qH (BE2.out.only o3 (by simp;omega));have BB3:=qH (BB2.out.trans (o3.below (by simp) BB2.out.size));have R3:=qH (R2.out.only' o3 (by have:=SZ.out;omega));have T3:=qH (T2.out.only o3 (fun b hb _=>by have:=HS1.out;simp;omega));clear b3 o3 BT2 BN2 BE2 BB2 R2 T2)
      | (refine wpList_load_blk rfl 48 _ rfl w.heap.size rfl _ 48 _ BT3.out Tryz.underlying48 rfl info25 ?_))
    have HV:=qH (valid_any _ t ⟨xf,.slice sx li cx⟩ v3 T3.out HFT.out HCB.out);obtain⟨V,hV⟩:∃ V,V=validB t:=⟨_,rfl⟩;rw[←hV] at HV HF;clear hV;unfold ftV at HV;refine HV.out.mono ?_;rintro e v4 ⟨rfl,b4⟩;have BT4:=qH (BT3.out.below b4 BT3.out.lt);have BN4:=qH (BN3.out.below b4 BN3.out.lt);have BE4:=qH (BE3.out.below b4 BE3.out.lt);have BB4:=qH (BB3.out.trans (b4.mono BB3.out.size));have R4:=qH (R3.out.below b4)
    have T4:=qH (T3.out.below b4 (fun _ _ h=>h));clear b4 HV BT3 BN3 BE3 BB3 R3 T3;cases V with
    | false=>
      obtain rfl:F=(zeroT,0,6):=HF.out;clear HF;go_wp2_with fail;refine(demand_any _ false _).mono ?_;rintro e vy ⟨rfl,rfl⟩;go_wp2_with fail;exact door_panic (B:=w.heap.size) _ BT4.out rfl BN4.out BE4.out (by omega) (by omega) (by omega) (by omega) BB4.out.size rfl rfl rfl (fun w' b=>takeR_zero (BB4.out.trans b))
    | true=>
      obtain rfl:F=(t,s.size-r.length,0):=HF.out;clear HF;go_wp2_with fail;refine(demand_any _ true _).mono ?_;rintro e vy ⟨rfl,rfl⟩;obtain⟨a4,ha4,_,hb4⟩:=R4.out;have HA4:Hid (s.size-r.length=a4):=qH (by omega);have RB4:=qH hb4;have HS0:Hid (∀ W,Blk W w.heap.size 48 #[.int .i64 xf.k,.int .i64 xf.n,.int .i64 xf.g,.string xf.nm,.string xf.fn,.int .i64 xf.ar,.slice sx li cx,.string xf.bs,.int .i64 xf.bt]→Blk W rb 196 #[.string s,.int .i64 (a4:Int),.int .i64 (p:Int)]→(W.cell? ⟨w.heap.size,0,none⟩=some (.int .i64 xf.k)∧W.cell? ⟨w.heap.size,1,none⟩=some (.int .i64 xf.n)∧W.cell? ⟨w.heap.size,2,none⟩=some (.int .i64 xf.g)∧W.cell? ⟨w.heap.size,3,none⟩=some (.string xf.nm)∧W.cell? ⟨w.heap.size,4,none⟩=some (.string xf.fn)∧W.cell? ⟨w.heap.size,5,none⟩=some (.int .i64 xf.ar)∧W.cell? ⟨w.heap.size,6,none⟩=some (.slice sx li cx)∧W.cell? ⟨w.heap.size,7,none⟩=some (.string xf.bs)∧W.cell? ⟨w.heap.size,8,none⟩=some (.int .i64 xf.bt)∧W.cell? ⟨rb,1,none⟩=some (.int .i64 (a4:Int)))):=qH (fun W h g=>⟨h.cell 0,h.cell 1,h.cell 2,h.cell 3,h.cell 4,h.cell 5,h.cell 6,h.cell 7,h.cell 8,g.cell 1⟩)
      clear ha4 hb4 R4;go_upto_region 5 with fail
      refine wp_region_held_drew (S:=(fun w'=>w'.cell? ⟨w.heap.size,0,none⟩=some (.int .i64 xf.k)∧w'.cell? ⟨w.heap.size,1,none⟩=some (.int .i64 xf.n)∧w'.cell? ⟨w.heap.size,2,none⟩=some (.int .i64 xf.g)∧w'.cell? ⟨w.heap.size,3,none⟩=some (.string xf.nm)∧w'.cell? ⟨w.heap.size,4,none⟩=some (.string xf.fn)∧w'.cell? ⟨w.heap.size,5,none⟩=some (.int .i64 xf.ar)∧w'.cell? ⟨w.heap.size,6,none⟩=some (.slice sx li cx)∧w'.cell? ⟨w.heap.size,7,none⟩=some (.string xf.bs)∧w'.cell? ⟨w.heap.size,8,none⟩=some (.int .i64 xf.bt)∧w'.cell? ⟨rb,1,none⟩=some (.int .i64 (a4:Int)))) (by kernel_rfl) (HS0.out _ BT4.out.drew RB4.out.drew) (fun hS=>?_)
      refine wpAnyH_take (i:=0) (v:=?_) rfl (by kernel_rfl) (by kernel_rfl) (by kernel_rfl) (fun c a w h=>hq15 16 (by decide) c a w _ h) (Or.inl ⟨by rfl,?_⟩) (by assumption) ?_;rotate_left
      · intro w hSw
        go_simp
        with_reducible rfl
      change wpAnyH _ _ _ _ _ _ _ (Act.put _ (some 16) _) _;simp only[PU];refine wpAnyH_take (i:=1) (v:=?_) rfl (by kernel_rfl) (by kernel_rfl) (by kernel_rfl) (fun c a w h=>hq15 17 (by decide) c a w _ h) (Or.inl ⟨by rfl,?_⟩) (by assumption) ?_;rotate_left
      · intro w hSw
        go_simp
        with_reducible rfl
      change wpAnyH _ _ _ _ _ _ _ (Act.put _ (some 17) _) _;simp only[PU];refine wpAnyH_take (i:=2) (v:=?_) rfl (by kernel_rfl) (by kernel_rfl) (by kernel_rfl) (fun c a w h=>hq15 18 (by decide) c a w _ h) (Or.inl ⟨by rfl,?_⟩) (by assumption) ?_;rotate_left
      · intro w hSw
        go_simp
        with_reducible rfl
      change wpAnyH _ _ _ _ _ _ _ (Act.put _ (some 18) _) _;simp only[PU];refine wpAnyH_take (i:=3) (v:=?_) rfl (by kernel_rfl) (by kernel_rfl) (by kernel_rfl) (fun c a w h=>hq15 19 (by decide) c a w _ h) (Or.inl ⟨by rfl,?_⟩) (by assumption) ?_;rotate_left
      · intro w hSw
        go_simp
        with_reducible rfl
      change wpAnyH _ _ _ _ _ _ _ (Act.put _ (some 19) _) _;simp only[PU];refine wpAnyH_take (i:=4) (v:=?_) rfl (by kernel_rfl) (by kernel_rfl) (by kernel_rfl) (fun c a w h=>hq15 20 (by decide) c a w _ h) (Or.inl ⟨by rfl,?_⟩) (by assumption) ?_;rotate_left
      · intro w hSw
        go_simp
        with_reducible rfl
      change wpAnyH _ _ _ _ _ _ _ (Act.put _ (some 20) _) _;simp only[PU];refine wpAnyH_ready (rs:=[5]) (by kernel_rfl) (by simp) ?_;refine AllReadyH.cons rfl (fun K hK=>?_) AllReadyH.nil;refine step_store_blk rfl 48 _ _ rfl rfl w.heap.size #[.int .i64 xf.k,.int .i64 xf.n,.int .i64 xf.g,.string xf.nm,.string xf.fn,.int .i64 xf.ar,.slice sx li cx,.string xf.bs,.int .i64 xf.bt] #[.int .i64 xf.k,.int .i64 xf.n,.int .i64 xf.g,.string xf.nm,.string xf.fn,.int .i64 xf.ar,.slice sx li cx,.string xf.bs,.int .i64 xf.bt] 48 rfl rfl BT4.out.drew rfl (by kernel_rfl) (by simp[Value.oneCell']) ?_
      intro v5 b5 o5;have q5:Only [w.heap.size] v4 v5:=(Only.drew _ _).trans o5;have BT5:=qH b5;have BN5:=qH (BN4.out.only q5 (by simp));have BE5:=qH (BE4.out.only q5 (by simp;omega));have RB5:=qH (RB4.out.only q5 (by have:=SZ.out;simp;omega));have BB5:=qH (BB4.out.trans (q5.below (by simp) BB4.out.size));have T5:=qH ((T4.out.only q5 (fun b hb _=>by have:=HS1.out;simp;omega)).mono (S':=fun c=>w.heap.size+3≤c) (fun b hb _=>by have:=HS1.out;omega))
      clear b5 o5 q5 BT4 BN4 BE4 BB4 T4 RB4;refine hK.out _ _ (HS0.out _ BT5.out RB5.out) (fun hS=>?_);clear hK K
      try simp only[PU]
      refine wpAnyH_ready (rs:=[6]) (by kernel_rfl) (by simp) ?_;refine AllReadyH.cons rfl (fun K hK=>?_) AllReadyH.nil;refine step_store_fld rfl 3 _ _ rfl rfl (w.heap.size+1) 0 _ 3 (.int .i64 (a4:Int)) rfl rfl BN5.out (Nat.le_of_ble_eq_true rfl) (by kernel_rfl) rfl ?_;intro v6 e6;have o6:Only [w.heap.size+1] v5 v6:=by rw[e6];exact Only.setCell _ ⟨w.heap.size+1,0,none⟩ _ (by simp)
      have BN6:=qH (show Blk v6 (w.heap.size+1) 3 #[.int .i64 (a4:Int)] by rw[e6];exact BN5.out.set_ 0 _);have BT6:=qH (BT5.out.only o6 (by simp));have BE6:=qH (BE5.out.only o6 (by simp));have RB6:=qH (RB5.out.only o6 (by have:=SZ.out;simp;omega));have BB6:=qH (BB5.out.trans (o6.below (by simp) BB5.out.size));have T6:=qH (T5.out.only o6 (fun b hb _=>by simp;omega));clear e6 o6 BT5 BN5 BE5 BB5 T5 RB5
      refine hK.out _ _ (HS0.out _ BT6.out RB6.out) (fun hS=>?_);clear hK K
      try simp only[PU]
      refine wpAnyH_ready (rs:=[7]) (by kernel_rfl) (by simp) ?_;refine AllReadyH.cons rfl (fun K hK=>?_) AllReadyH.nil;refine step_store_fld rfl 35 _ _ rfl rfl (w.heap.size+1+1) 0 _ 35 (.int .i64 0) rfl rfl BE6.out (Nat.le_of_ble_eq_true rfl) (by kernel_rfl) rfl ?_;intro v7 e7;have o7:Only [w.heap.size+1+1] v6 v7:=by rw[e7];exact Only.setCell _ ⟨w.heap.size+1+1,0,none⟩ _ (by simp)
      have BE7:=qH (show Blk v7 (w.heap.size+1+1) 35 #[.int .i64 0] by rw[e7];exact BE6.out.set_ 0 _);have BT7:=qH (BT6.out.only o7 (by simp;omega));have BN7:=qH (BN6.out.only o7 (by simp));have RB7:=qH (RB6.out.only o7 (by have:=SZ.out;simp;omega));have BB7:=qH (BB6.out.trans (o7.below (by simp;omega) BB6.out.size));have T7:=qH (T6.out.only o7 (fun b hb _=>by simp;omega));clear e7 o7 BT6 BN6 BE6 BB6 T6 RB6
      refine hK.out _ _ (HS0.out _ BT7.out RB7.out) (fun hS=>?_);clear hK K
      try simp only[PU]
      refine wpAnyH_done (by kernel_rfl) ?_ _;go_wp2_with fail;refine door_idle _ BT7.out rfl BN7.out BE7.out rfl rfl rfl ?_;exact⟨BB7.out,⟨xf,.slice sx li cx⟩,by rw[show (t,s.size-r.length,(0:Int)).2.1=a4 from HA4.out];rfl,T7.out.mono (fun b hb _=>by show w.heap.size≤b;omega)⟩
theorem validB_iff {t:Tm} (h:validB t=true):formed t=true∧sizeT t≤2000:=by
 unfold validB at h;rw[Bool.and_eq_true,decide_eq_true_eq] at h;exact h
theorem size_list (s:ByteArray):s.size=s.data.toList.length:=by simp
theorem takeF_code {t:Tm} (hv:validB t=true) (hf:fitT t) {s:ByteArray} {m:List UInt8} (hs:s.data.toList=codeT t++m):takeF s=(t,(codeT t).length,0):=by
 obtain⟨h1,h2⟩:=validB_iff hv;have hc:=cnt_size t h1;unfold takeF;rw[hs,term_back t h1 hf 2000 0 m (by omega) (by omega)];dsimp only;rw[if_pos hv,size_list,hs,List.length_append]
 congr 2
 omega
theorem takeF_snd {s:ByteArray} (hs:s.size≤200000) (h:(takeF s).2.2=0):validB (takeF s).1=true∧fitT (takeF s).1∧(∃ m,s.data.toList=codeT (takeF s).1++m)∧(takeF s).2.1=(codeT (takeF s).1).length:=by
 unfold takeF at h ⊢;cases hq:termP 2000 0 s.data.toList with
 | none=>rw[hq] at h;cases h
 | some q=>
  obtain⟨t,p,r⟩:=q;rw[hq] at h;dsimp only at h ⊢;cases hv:validB t with
  | false=>rw[hv] at h;cases h
  | true=>
   rw[if_pos rfl];obtain⟨h1,_,h3⟩:=term_snd 2000 _ _ _ _ _ hq;refine⟨hv,h3 (by rw[←size_list];exact hs),⟨r,h1.symm⟩,?_⟩
   have:=congrArg List.length h1
   rw[List.length_append,←size_list] at this;dsimp only;omega
theorem putS_valid {t:Tm} (h:validB t=true):putS t=⟨(131::codeT t).toArray⟩:=by unfold putS;rw[if_pos h]
theorem putS_list {t:Tm} (h:validB t=true):(putS t).data.toList=131::codeT t:=by rw[putS_valid h]
theorem bytes_list {a b:ByteArray} (h:a.data.toList=b.data.toList):a=b:=ByteArray.ext (Array.toList_inj.1 h)
theorem head_short {f:Fl} {l:List Tm} (h:Shape f l) (hf:fitF f) (n:Nat) (hn:n=l.length):(headB f n).length≤80*sizeO f l.length:=by
 subst hn;cases h with
 | int n=>
  have:=intB_len n hf.2.2.1
  show (intB n).length≤80*sizeO _ _
  have:sizeO ⟨1,n,0,noB,noB,0,noB,0⟩ ([]:List Tm).length=1:=rfl
  omega
 | atom s h=>
  have:=nameF_size s h
  have e:(headB ⟨2,0,0,s,noB,0,noB,0⟩ ([]:List Tm).length).length=s.size+2:=atomB_len s
  have:sizeO ⟨2,0,0,s,noB,0,noB,0⟩ ([]:List Tm).length=1:=rfl
  omega
 | ref n g s hn hg h=>
  have:=nameF_size s h
  have e:(headB ⟨3,n,g,s,noB,0,noB,0⟩ ([]:List Tm).length).length=s.size+13:=by simp[headB,atomB_len,num4_len]
  have:sizeO ⟨3,n,g,s,noB,0,noB,0⟩ ([]:List Tm).length=1:=rfl
  omega
 | clo n g s a l hn hg h ha hl=>
  have:=nameF_size s h
  have e:(headB ⟨4,n,g,s,noB,a,noB,0⟩ l.length).length=s.size+11:=by simp[headB,atomB_len,num4_len,num2_len];omega
  have:sizeO ⟨4,n,g,s,noB,a,noB,0⟩ l.length=1:=rfl
  omega
 | exp s f a h h2 ha=>
  have:=nameF_size s h
  have:=nameF_size f h2
  have:=intB_len a (by omega)
  have e:(headB ⟨5,0,0,s,f,a,noB,0⟩ ([]:List Tm).length).length=1+(s.size+2)+(f.size+2)+(intB a).length:=by simp[headB,atomB_len];omega
  have:sizeO ⟨5,0,0,s,f,a,noB,0⟩ ([]:List Tm).length=1:=rfl
  omega
 | pid n g s hn hg h=>
  have:=nameF_size s h
  have e:(headB ⟨6,n,g,s,noB,0,noB,0⟩ ([]:List Tm).length).length=s.size+15:=by simp[headB,atomB_len,num4_len]
  have:sizeO ⟨6,n,g,s,noB,0,noB,0⟩ ([]:List Tm).length=1:=rfl
  omega
 | tup l hl=>
  have e:(headB ⟨7,0,0,noB,noB,0,noB,0⟩ l.length).length=2:=by simp[headB]
  have:sizeO ⟨7,0,0,noB,noB,0,noB,0⟩ l.length=1:=rfl
  omega
 | nil=>decide
 | list l hl=>
  have e:(headB ⟨9,0,0,noB,noB,0,noB,0⟩ l.length).length=5:=by simp[headB,num4_len]
  have:sizeO ⟨9,0,0,noB,noB,0,noB,0⟩ l.length=l.length-1:=rfl
  omega
 | bits s bt h=>
  unfold bitsB at h;rw[Bool.and_eq_true,Bool.and_eq_true,decide_eq_true_eq] at h;obtain⟨hb,hs,_⟩:=h;have hb:=inB_iff hb;have e:(headB ⟨10,0,0,noB,noB,0,s,bt⟩ ([]:List Tm).length).length≤s.size+6:=by
   unfold headB
   simp
   split<;>simp[num4_len]<;>omega
  have:sizeO ⟨10,0,0,noB,noB,0,s,bt⟩ ([]:List Tm).length=1+(bt.toNat+63) / 64:=rfl
  omega
mutual
theorem code_short : ∀ t,formed t=true→fitT t→(codeT t).length≤80*sizeT t
 | .mk f l,h,hf=>by
  rw[formed,Bool.and_eq_true] at h;rw[fitT] at hf;have h1:=head_short (shape h.1) hf.1 l.length rfl;have h2:=codeL_short l h.2 hf.2;rw[codeT,sizeT,List.length_append];omega
theorem codeL_short : ∀ l,formedL l=true→fitL l→(codeL l).length≤80*sizeL l
 | [],_,_=>by simp[codeL]
 | t::r,h,hf=>by
  rw[formedL,Bool.and_eq_true] at h;rw[fitL] at hf;have h1:=code_short t h.1 hf.1;have h2:=codeL_short r h.2 hf.2;rw[codeL,sizeL,List.length_append];omega
end
theorem putS_short {t:Tm} (hv:validB t=true) (hf:fitT t):(putS t).size=(codeT t).length+1∧(putS t).size≤160001:=by
 obtain⟨h1,h2⟩:=validB_iff hv
 have:=code_short t h1 hf
 have e:(putS t).size=(codeT t).length+1:=by rw[size_list,putS_list hv,List.length_cons]
 omega
theorem TmAt.old2 {S:Nat→Prop} {w:World} {t:Tm} {x:Ft} (h:TmAt S w t x):TmAt (fun b=>b<w.heap.size) w t x:=h.map (Nat.le_refl _) (fun _ _ _=>rfl) (fun _ _ h=>h)
def encP (u:Int) (s:Sg):Nat→List UInt8
 | 0=>[UInt8.ofNat (s.k % 256).toNat]
 | i+1=>encP u s i++(if hasU u i then codeT (fldT s i) else [])
def bytesB (l:List UInt8):ByteArray:=⟨l.toArray⟩
def encB (s:Sg):ByteArray:=if validS s then bytesB (encP (usesF s.k) s 7) else ⟨#[]⟩
def encE (s:Sg):Int:=if validS s then 0 else 2
structure FitE (s:Sg):Prop where
 fr:okT s.fr
 tt:okT s.tt
 ref:okT s.ref
 val:okT s.val
 node:s.node.size≤200000
 name:s.name.size≤200000
 num : -9223372036854775808≤s.num∧s.num≤9223372036854775807
theorem FitE.fit {s:Sg} (h:FitE s):FitS s:=⟨⟨fitW_of _ h.fr.1,h.fr.bulk⟩,⟨fitW_of _ h.tt.1,h.tt.bulk⟩,⟨fitW_of _ h.ref.1,h.ref.bulk⟩,⟨fitW_of _ h.val.1,h.val.bulk⟩,h.num⟩
theorem ok_atom {s:ByteArray} (h:s.size≤200000):okT (atmT s):=⟨fitT_atom h,by unfold atmT;simp[cnt,cntL]⟩
theorem ok_int {n:Int} (h : -9223372036854775808≤n∧n≤9223372036854775807):okT (nmbT n):=⟨fitT_int h,by unfold nmbT;simp[cnt,cntL]⟩
theorem allFld_get {u:Int} {s:Sg} {i:Nat} (h:allFld u s 7=true) (hi:i<7) (h1:hasU u i=true):okFld s i=true:=by
 cases hq:okFld s i with
 | true=>rfl
 | false=>rw[allFld_no hi h1 hq] at h;cases h
theorem okFld_valid {s:Sg} {i:Nat} (h:okFld s i=true):validB (fldT s i)=true:=by
 unfold okFld at h;rw[Bool.and_eq_true] at h;exact h.1
theorem put_tail {t:Tm} (h:validB t=true):(putS t).extract 1 (putS t).size=bytesB (codeT t):=by
 apply bytes_list;rw[ByteArray.data_extract];have e:=putS_list h;have hs:(putS t).size=(codeT t).length+1:=by rw[size_list,e,List.length_cons]
 rw[Array.toList_extract,e,hs];simp[bytesB,List.extract]
theorem bytes_app (a b:List UInt8):bytesB a++bytesB b=bytesB (a++b):=by
 apply ByteArray.ext;rw[ByteArray.data_append];simp[bytesB]
theorem FitE.fld {s:Sg} (h:FitE s) (i:Nat):okT (fldT s i):=by
 unfold fldT;split
 ·
  exact h.fr
 ·
  exact h.tt
 ·
  exact ok_atom h.node
 ·
  exact ok_atom h.name
 ·
  exact h.ref
 ·
  exact ok_int h.num
 ·
  exact h.val
set_option maxHeartbeats 8000000 in
theorem pencode8 (S:Nat→Prop) (s:Sg) (x:Sf) (w:World) (h:SgAt S w s x) (hfit:FitE s) (hk : -9223372036854775808≤s.k∧s.k≤9223372036854775807):Calls Tryz.prog 25 #[sgV s x] w fun e w'=>e = .returned (.tuple #[.string (encB s),.int .i64 (encE s)])∧Below w.heap.size w w':=by
 obtain⟨EBB,hEBB⟩:∃ q,q=encB s:=⟨_,rfl⟩;obtain⟨EEE,hEEE⟩:∃ q,q=encE s:=⟨_,rfl⟩;rw[←hEBB,←hEEE];have HEB:=qH hEBB;have HEE:=qH hEEE;clear hEBB hEEE;obtain⟨u,hu⟩:∃ u,u=usesF s.k:=⟨_,rfl⟩;have HUS:=qH hu;have CU:=qH (fun(W:World)=>uses21 s.k W);rw[←hu] at CU;have HS:=qH h;have HF:=qH hfit;have HK:=qH hk;obtain⟨CS,hCS⟩:∃ q,q=(sgC s x).toArray:=⟨_,rfl⟩;have HSV:Hid (sgV s x = .agg CS):=qH (by rw[hCS];rfl)
 have HSZ:Hid (CS.size=40):=qH (by rw[hCS];rfl);have HC0:Hid (CS[0]? = some (.int .i64 s.k)):=qH (by rw[hCS];rfl);have CV:=qH (fun(W:World) (hW:Below w.heap.size w W)=>pvalid19 S s x W (h.below hW (fun b _ h=>h)) hfit.fit);rw[HSV.out] at CV ⊢;clear hu h hfit hCS hk;obtain⟨m,hm⟩:∃ q,q=w.heap.size:=⟨_,rfl⟩;have HM:=qH hm;have X:=qH (Blk.new w 50 CS);have B:=qH ((Below.refl w.heap.size w).alloc (Nat.le_refl _) (.cells CS 50))
 have CVV:=qH (CV.out _ B.out);rw[←hm] at X B;have HTR:Hid (∀ W W',Below m w W→Below W.heap.size W W'→Below m w W'):=qH (fun W W' h1 h2=>h1.trans (h2.mono (by have:=h1.size;have:=HM.out;omega)));go_enter Tryz.func25,Tryz.ntmps25;go_upto_region 1 with fail
 rw[←hm];generalize w.alloc (.cells CS 50)=w1 at X B CVV ⊢;clear hm CV;obtain⟨vb,hvb⟩:∃ q,q=validS s:=⟨_,rfl⟩;rw[←hvb] at CVV;have HVB:=qH hvb.symm;clear hvb;go_wp2_with (refine wpList_load_blk rfl 50 _ rfl m rfl _ 50 _ X.out Tryz.underlying50 rfl (by rw[HSZ.out];exact info26) ?_);refine CVV.out.mono ?_;rintro e w2 ⟨rfl,b2⟩;replace X:=qH (X.out.below b2 X.out.lt);replace B:=qH (HTR.out _ _ B.out b2)
 clear b2 CVV;cases vb with
 | false=>
  obtain rfl:EBB=⟨#[]⟩:=by rw[HEB.out];unfold encB;rw[HVB.out];rfl
  obtain rfl:EEE=2:=by rw[HEE.out];unfold encE;rw[HVB.out];rfl
  go_wp2_with fail;exact bodyPost_ret (results_s2 (a:=2) (b:=3) rfl _ _ _ _ rfl rfl) rfl ⟨rfl,by rw[←HM.out];exact B.out⟩
 | true=>
  have HR1:Hid (EBB=bytesB (encP u s 7)):=qH (by rw[HEB.out];unfold encB;rw[HVB.out,HUS.out];rfl);obtain rfl:EEE=0:=by rw[HEE.out];unfold encE;rw[HVB.out];rfl
  have HAL:Hid (allFld u s 7=true):=qH (by
   have:=HVB.out
   unfold validS at this;rw[Bool.and_eq_true,Bool.and_eq_true,←HUS.out] at this;exact this.2.1)
  have q0:w2.cell? ⟨m,0,none⟩=some (.int .i64 s.k):=(X.out.cell 0).trans HC0.out;have HRC:Hid ((convert 124 9 (.slice (some ⟨w2.heap.size,0,none⟩) 1 1)).run Tryz.prog (w2.alloc (.cells #[.int .u8 (s.k % 256)] 5)) = .ok (.string (bytesB (encP u s 0))) (w2.alloc (.cells #[.int .u8 (s.k % 256)] 5))):=qH (by
   refine run_convert_bytes_back _ 124 9 5 ⟨w2.heap.size,0,none⟩ 1 [UInt8.ofNat (s.k % 256).toNat] Tryz.underlying124 Tryz.underlying5 Tryz.underlying9 ?_;intro j hj;obtain rfl:j=0:=by simpa using hj
   have:=(Blk.new w2 5 #[.int .u8 (s.k % 256)]).cell 0
   simp only[List.getElem_cons_zero];have e:((UInt8.ofNat (s.k % 256).toNat).toNat:Int)=s.k % 256:=by
    rw[UInt8.toNat_ofNat'];omega
   rw[e,add_none];exact this)
  replace X:=qH (X.out.alloc (.cells #[.int .u8 (s.k % 256)] 5));replace B:=qH (HTR.out _ _ B.out ((Below.refl w2.heap.size w2).alloc (Nat.le_refl _) (.cells #[.int .u8 (s.k % 256)] 5)));go_upto_region 4 with (refine wpList_conv_run rfl 124 9 _ rfl rfl HRC.out ?_)
  generalize w2.alloc (.cells #[.int .u8 (s.k % 256)] 5)=w3 at X B ⊢;clear q0 HRC;have CF:=qH (fields20 w3);go_wp2_with fail;refine CF.out.mono ?_;rintro e w4 ⟨rfl,hw4⟩;obtain⟨mf,hmf⟩:∃ q,q=w3.heap.size:=⟨_,rfl⟩;have hmf2:m<mf:=by rw[hmf];exact X.out.lt
  have Fk:=qH (Blk.new w3 131 fldC);replace X:=qH (X.out.alloc (.cells fldC 131));replace B:=qH (HTR.out _ _ B.out ((Below.refl w3.heap.size w3).alloc (Nat.le_refl _) (.cells fldC 131)));rw[←hw4] at X B Fk;rw[←hmf] at Fk ⊢;clear hw4 hmf CF;obtain⟨OUT0,hO0⟩:∃ q,q=bytesB (encP u s 0):=⟨_,rfl⟩;rw[←hO0];have HO0:=qH hO0;have hs0:OUT0.size=1:=by rw[hO0];rfl
  clear hO0;go_wp2_with fail;go_loopw [4,19] (fun z4 z wr=>∃ (i:Nat) (OUT:ByteArray),i≤7∧z = .int .i64 (i:Int)∧z4 = .string OUT∧OUT.size≤1+200000*i∧Hid (OUT=bytesB (encP u s i))∧Hid (Blk wr m 50 CS)∧Hid (Blk wr mf 131 fldC)∧Hid (Below m w wr)) (fun _ z _=>7-(intOf z).toNat)
  case atStart=>exact⟨0,OUT0,by omega,rfl,rfl,by omega,HO0,X,Fk,B⟩
  case round=>
   obtain⟨i,OUT,hi,rfl,rfl,hos,HE,X1,F1,B1⟩:=hrel;clear X Fk B HO0 hs0
   by_cases h7:i=7
   ·
    subst h7;obtain rfl:EBB=OUT:=by rw[HR1.out,HE.out]
    go_wp2_with fail;exact bodyPost_ret (results_s2 (a:=2) (b:=3) rfl _ _ _ _ rfl rfl) rfl ⟨rfl,by rw[←HM.out];exact B1.out⟩
   ·
    have hlt7:i<7:=by omega
    obtain⟨g0,g1,g2,g3⟩:=fld_cells hlt7;have f0:=(F1.out.cell (i*4)).trans g0;have f1:=(F1.out.cell (i*4+1)).trans g1;have f2:=(F1.out.cell (i*4+2)).trans g2;have f3:=(F1.out.cell (i*4+3)).trans g3;have eG:=get_enter hlt7;have CGET:=qH (fun(W:World) (h:SgAt S W s x)=>get_any hlt7 S s x W h);have HUB:Hid (hasU u i = !(bits BinOp.and IntKind.i64 u (fldB i)==0)):=qH rfl;have HOK:=qH (HF.out.fld i);have HEN:Hid (encP u s (i+1)=encP u s i++(if hasU u i then codeT (fldT s i) else [])):=qH rfl
    obtain⟨bit,hbit⟩:∃ q,q=fldB i:=⟨_,rfl⟩;obtain⟨kd,hkd⟩:∃ q,q=fldK i:=⟨_,rfl⟩;obtain⟨gf,hgf⟩:∃ q,q=getN i:=⟨_,rfl⟩;obtain⟨sf,hsf⟩:∃ q,q=setN i:=⟨_,rfl⟩;rw[←hbit] at f0 HUB;rw[←hkd] at f1;rw[←hgf] at f2 eG CGET;rw[←hsf] at f3;clear g0 g1 g2 g3 hbit hkd hgf hsf;obtain⟨z,hz⟩:∃ q,q=wr.heap.size:=⟨_,rfl⟩;have HZ:=qH hz;have hzx:m<z:=by rw[hz];exact X1.out.lt
    have hzf:mf<z:=by rw[hz];exact F1.out.lt
    have X0:=qH (Blk.new wr 131 #[.int .i64 0,.int .i64 0,.nilFunc,.nilFunc]);have O0:=qH (Only.alloc [z] wr (.cells #[.int .i64 0,.int .i64 0,.nilFunc,.nilFunc] 131));rw[←hz] at X0;go_upto_region 7 with (rw[←hz];refine wpList_store_blk rfl 131 _ _ rfl rfl z #[.int .i64 bit,.int .i64 kd,.func (.func gf) #[] #[],.func (.func sf) #[] #[]] _ 131 rfl rfl X0.out rfl info54 (by simp[Value.oneCell']) ?_;intro v1 b1 o1)
    have BV:=qH (show Below z wr v1 from(O0.out.trans o1).below (by simp) (by rw[HZ.out];exact Nat.le_refl _));have X2:=qH (X1.out.below BV.out hzx);have F2:=qH (F1.out.below BV.out hzf);have B2:=qH (HTR.out _ _ B1.out (by rw[←HZ.out];exact BV.out));have T2:=qH b1;clear f0 f1 f2 f3 X0 O0 b1 o1 X1 F1 B1 BV hz;refine wp_region_held_drew (S:=(fun w'=>Blk w' m 50 CS∧Blk w' z 131 #[.int .i64 bit,.int .i64 kd,.func (.func gf) #[] #[],.func (.func sf) #[] #[]])) (by kernel_rfl) (⟨X2.out.drew,T2.out.drew⟩) (fun hS=>?_)
    have F3:=qH F2.out.drew;have B3:=qH B2.out.drew;have X3:=qH X2.out.drew;have T3:=qH T2.out.drew;clear X2 T2 F2 B2;generalize v1.drew=w0 at *;refine tl 0 23 (v:=?_) rfl ?_ ?_;rotate_left
    ·
     intro w hSw;go_simp
     with_reducible rfl
    simp only[PU];refine tl 1 24 (v:=?_) rfl ?_ ?_;rotate_left
    ·
     intro w hSw;have cc:=(hSw.1.cell 0).trans HC0.out;go_simp
     with_reducible rfl
    simp only[PU];refine tl 3 26 (v:=?_) rfl ?_ ?_;rotate_left
    ·
     intro w hSw;go_simp
     with_reducible rfl
    simp only[PU];refine tl 4 27 (v:=?_) rfl ?_ ?_;rotate_left
    ·
     intro w hSw;have cc:=hSw.2.cell 0;simp only[List.getElem?_toArray,List.getElem?_cons_zero] at cc;go_simp
     with_reducible rfl
    simp only[PU];refine wpAnyH_ready (rs:=[2]) (by kernel_rfl) (by simp) ?_;refine AllReadyH.cons rfl (fun K hK=>?_) AllReadyH.nil;go_simp;refine(CU.out w0).mono ?_;rintro e w5 ⟨rfl,b5⟩;have F2:=qH (F3.out.below b5 F3.out.lt);have B2:=qH (HTR.out _ _ B3.out b5);have X2:=qH (X3.out.below b5 X3.out.lt);have T2:=qH (T3.out.below b5 T3.out.lt);clear b5 F3 B3 X3 T3;go_wp2_with fail;refine hK.out _ _ (⟨X2.out,T2.out⟩) (fun hS=>?_)
    clear hK K
    try simp only[PU]
    obtain⟨hb,hhb⟩:∃ q,q=(bits BinOp.and IntKind.i64 u bit==0):=⟨_,rfl⟩;have hbe:(bits BinOp.and IntKind.i64 u bit != 0) = !hb:=by rw[hhb];rfl
    have HU:Hid (hasU u i = !hb):=qH (by rw[HUB.out,hhb]);clear hhb;refine tl 5 28 (v:=?_) rfl ?_ ?_;rotate_left
    ·
     intro w hSw;go_simp
     with_reducible rfl
    simp only[PU];refine tl 6 29 (v:=?_) rfl ?_ ?_;rotate_left
    ·
     intro w hSw;go_simp
     with_reducible rfl
    simp only[PU];refine wpAnyH_done (by kernel_rfl) ?_ _;cases hb with
    | true=>
     have HE2:Hid (OUT=bytesB (encP u s (i+1))):=qH (by rw[HE.out,HEN.out,HU.out];simp);clear HE;go_wp2_with fail;go_roundw
     case rel=>exact⟨i+1,OUT,by omega,by go_num,rfl,by omega,HE2,X2,F2,B2⟩
     case measure=>simp[intOf];omega
    | false=>
     have HSv:=qH (HS.out.below (show Below w.heap.size w w5 by rw[←HM.out];exact B2.out) (fun b _ h=>h));have CG:=qH (CGET.out w5 HSv.out);have TY:=qH (fld_at HSv.out i);have hvb:=okFld_valid (allFld_get HAL.out (i:=i) (by omega) HU.out);have HPN:Hid (OUT++bytesB (codeT (fldT s i))=bytesB (encP u s (i+1))):=qH (by rw[HE.out,bytes_app,HEN.out,HU.out];rfl);have HTA:=qH (fun(W:World) (h:SgAt S W s x)=>(fld_at h i).old2)
     rw[HSV.out] at CG;obtain⟨ft,hft⟩:∃ q,q=fldT s i:=⟨_,rfl⟩;obtain⟨y,hy⟩:∃ q,q=getX s x i:=⟨_,rfl⟩;rw[←hft] at TY HOK hvb HPN HTA;rw[←hy] at TY CG HTA;clear hft hy HSv CGET;obtain⟨_,sy,cy,vy⟩:=TY.out.its.2.form;obtain⟨yf,yv⟩:=y;dsimp only at vy;subst vy;obtain⟨ly,hly⟩:∃ l,l=ft.l.length:=⟨_,rfl⟩;rw[←hly] at CG HTA;clear hly TY;unfold ftV at CG;dsimp only at CG;have c2:=T2.out.cell 2;simp only[List.getElem?_toArray,List.getElem?_cons_zero,List.getElem?_cons_succ] at c2
     go_wp2_with (refine wpList_load_blk rfl 50 _ rfl m rfl _ 50 _ X2.out Tryz.underlying50 rfl (by rw[HSZ.out];exact info26) ?_);refine CG.out.mono ?_;rintro e v2 ⟨rfl,b2⟩;replace X2:=qH (X2.out.below b2 X2.out.lt);replace F2:=qH (F2.out.below b2 F2.out.lt);replace B2:=qH (HTR.out _ _ B2.out b2);clear b2 CG c2 T2;have HSV3:=qH (HS.out.below (show Below w.heap.size w v2 by rw[←HM.out];exact B2.out) (fun b _ h=>h))
     have CP:=qH (put_any ft ⟨yf,.slice sy ly cy⟩ v2 (HTA.out v2 HSV3.out) HOK.out);unfold ftV at CP;dsimp only at CP;obtain⟨hp1,hp2⟩:=putS_short hvb HOK.out.1;have hpt:=put_tail hvb;obtain⟨PS,hPS⟩:∃ q,q=putS ft:=⟨_,rfl⟩;rw[←hPS] at CP hp1 hp2 hpt;have hps1:1≤PS.size:=by omega
     have hes:OUT.size+(PS.size-1)≤10000000:=by omega
     have HE2:Hid (OUT++PS.extract 1 PS.size=bytesB (encP u s (i+1))):=qH (by rw[hpt];exact HPN.out);clear HE hPS hvb HSV3 hpt hp1 HPN;go_wp2_with fail;refine CP.out.mono ?_;rintro e v3 ⟨rfl,b3⟩;replace X2:=qH (X2.out.below b3 X2.out.lt);replace F2:=qH (F2.out.below b3 F2.out.lt);replace B2:=qH (HTR.out _ _ B2.out b3);clear b3 CP;go_wp2_with fail;go_roundw
     case rel=>exact⟨i+1,_,by omega,by go_num,rfl,by rw[ByteArray.size_append,ByteArray.size_extract];omega,HE2,X2,F2,B2⟩
     case measure=>simp[intOf];omega
def zeroSg : Sg:=⟨0,zerT,zerT,noB,noB,zerT,0,zerT⟩
def decL (u:Int):List Nat→Sg→ByteArray→Option (Sg×ByteArray)
 | [],s,b=>some (s,b)
 | i::r,s,b=>
  if hasU u i then
   if (takeF b).2.2≠0∨(fldK i≠0∧(takeF b).1.f.k≠fldK i) then none
   else decL u r (setF s (takeF b).1 i) (b.extract (takeF b).2.1 b.size)
  else decL u r s b
def decS (b:ByteArray):Option Sg:=
 if b.size=0 then none else
 let k:Int:=(b.data[0]?.getD 0).toNat
 match decL (usesF k) [0,1,2,3,4,5,6] { zeroSg with k:=k } (b.extract 1 b.size) with
 | none=>none
 | some (s,r)=>if r.size=0∧validS s=true then some s else none
theorem decL_no {u:Int} {i:Nat} (r:List Nat) (s:Sg) (b:ByteArray) (h:hasU u i=false):decL u (i::r) s b=decL u r s b:=by
 rw[decL,if_neg (by rw[h];decide)]
theorem decL_bad {u:Int} {i:Nat} (r:List Nat) (s:Sg) (b:ByteArray) (h:hasU u i=true) (hb:(takeF b).2.2≠0∨(fldK i≠0∧(takeF b).1.f.k≠fldK i)):decL u (i::r) s b=none:=by
 rw[decL,if_pos h,if_pos hb]
theorem decL_yes {u:Int} {i:Nat} (r:List Nat) (s:Sg) (b:ByteArray) (h:hasU u i=true) (hb:¬((takeF b).2.2≠0∨(fldK i≠0∧(takeF b).1.f.k≠fldK i))):decL u (i::r) s b=decL u r (setF s (takeF b).1 i) (b.extract (takeF b).2.1 b.size):=by
 rw[decL,if_pos h,if_neg hb]
end Go.Proofs.YtoaimoemaoinhaaGreatDoor
