/- PeersX: a part of the proof. No condition beyond the premises of each theorem. -/
import Derived.Test.YtoaimoemaoinhaaGreatDoorQp28
import Derived.Test.YtoaimoemaoinhaaGreatDoorQp30
import Derived.Test.YtoaimoemaoinhaaGreatDoorQp24
import Derived.IntWalk
import Derived.Laws.BitsAllLaws
import Derived.Test.YtoaimoemaoinhaaGreatDoorQp23
import Derived.Deep.RegionWith
import Derived.Deep.DeepCutAuto
import Derived.Test.YtoaimoemaoinhaaGreatDoorQp00
set_option maxRecDepth 100000
namespace Go.Proofs.YtoaimoemaoinhaaGreatDoor
open Go.RowKit Go.Rt Go.Rw Go.Mp
set_option maxHeartbeats 8000000 in
theorem packet_any {w:World} {base:Nat} {n:Nd} {a:Nm} (h:NdAt w base n a) (hk:NdOk n) (k data:ByteArray) (hd:data.size≤100000) (hl:((get n.O k).getD []).length≤99999999) (hT:Sk.Tabs w) (hb2:2≤base)
  (hs:∀ x,get n.C k=some x→x.gen=0→Sk.SdOk x.side∧x.side.state=1) (G:GF)
  (hG:∀ (x:Cx) (m:Cm) (px:Px) (w1:World) (a1:Nm),NdAt w1 base n a1→get a1.C k=some (x,m)→readF data=some px→px.kind=70→matchB x px=true→Sk.Tabs w1→Calls Tryz.prog 42 #[ptrV a1.g,ptrV m.c,.string px.cont] w1 (Done w1 base a1 (G n k x px.cont).1 (G n k x px.cont).2)) :
  Calls Tryz.prog 19 #[ptrV a.g,.string k,.string data] w (DonePk w base a (pktN G n k data).1 (pktN G n k data).2):=by
 obtain⟨RN,RC,hR⟩:∃ RN RC,pktN G n k data=(RN,RC):=⟨_,_,rfl⟩;have HR:=qH hR;have HB2:=qH hb2;have HS:=qH hs;have HG:=qH hG;have HL:=qH hl;have HD:=qH hd;have TT:=qH hT;have H:=qH h;have HK:=qH hk;have HGC:=qH (h.getC k);rw[hR];have c0:w.cell? ⟨a.g,0,none⟩=some (.string n.nm):=h.pm.blk.cell 0;have c5:w.cell? ⟨a.g,5,none⟩=some (.map (some a.mc)):=h.pm.blk.cell 5;have CN:=qH (none_no a.g a.mc w c5);have CO:=qH (other_any a.g n.nm k w c0)
 have CR:=qH (fun W=>readp_any data (by omega) W);unfold ptrV at *;clear hR hb2 hs hG hl hd hT h hk;obtain⟨ot,hot⟩:∃ b,b=otherB n k:=⟨_,rfl⟩;have hot2:(nameF k && !(k.toList==n.nm.toList))=ot:=hot.symm;rw[hot2] at CO;have HOT:=qH hot.symm;clear hot hot2;have HR2:=HR.out;unfold pktN at HR2;rw[HOT.out] at HR2;have FO1:Hid (ot=false→RN=(n,[])∧RC=2):=qH (fun q=>by rw[if_pos q] at HR2;exact⟨(Prod.mk.inj HR2).1.symm,(Prod.mk.inj HR2).2.symm⟩)
 have FO2:Hid (ot=true→RN=pktE G n k (readF data)∧RC=0):=qH (fun q=>by rw[if_neg (by rw[q];decide)] at HR2;exact⟨(Prod.mk.inj HR2).1.symm,(Prod.mk.inj HR2).2.symm⟩);clear HR2 HR HOT;go_enter Tryz.func19,Tryz.ntmps19;go_wp2_with fail;refine CN.out.mono ?_;rintro e w0 ⟨rfl,rfl⟩;clear CN;cases ot with
 | false=>
  obtain⟨rfl,rfl⟩:=FO1.out rfl;clear FO1 FO2;go_wp2_with fail;refine CO.out.mono ?_;rintro e w1 ⟨rfl,b1⟩;have D:Hid (DonePk w0 base a (n,[]) 2 (.returned (.tuple #[.slice none 0 0,.int .i64 2])) w1):=qH ⟨_,a,rfl,rfl,H.out.below b1,Trail.below a b1⟩;go_wp2_with fail;go_ret2;exact D.out
 | true=>
  obtain⟨rfl,rfl⟩:=FO2.out rfl;clear FO1 FO2;go_wp2_with fail;refine CO.out.mono ?_;rintro e w1 ⟨rfl,b1⟩;have H1:=qH (H.out.below b1);have T1:=qH (Trail.below a b1);have TT1:=qH (TT.out.below b1 TT.out.two);clear b1 CO c0 c5 H TT;have d5:w1.cell? ⟨a.g,5,none⟩=some (.map (some a.mc)):=H1.out.pm.blk.cell 5;obtain⟨cv,hcv⟩:∃ v,v=conV (a.C.map fun p=>(p.1,p.2.2.c)) k:=⟨_,rfl⟩;have lk:=look_con H1.out.pm.cm k
  rw[←hcv] at lk;have HCV:=qH hcv;clear hcv;go_wp2_with fail;refine(CR.out _).mono ?_;rintro e w2 ⟨px,ok,rfl,hrx,b2⟩;have HRX:=qH hrx;have H2:=qH (H1.out.below b2);have T2:=qH (T1.out.trans (Trail.below a b2));have TT2:=qH (TT1.out.below b2 TT1.out.two);clear b2 CR H1 T1 TT1 hrx lk d5;unfold pxC;go_upto_region 7 with fail
  have AL:=(Below.refl w2.heap.size w2).alloc (Nat.le_refl _) (.cells (pxC px) 104);have X:=qH (Blk.new w2 104 (pxC px));have H3:=qH (H2.out.below AL);have T3:=qH (T2.out.trans (Trail.below a AL));have TT3:=qH (TT2.out.below AL TT2.out.two);obtain⟨bx,hbx⟩:∃ q,q=w2.heap.size:=⟨_,rfl⟩;have HBX:Hid (bx∉foot a):=qH (fun q=>by have:=(H2.out.low _ q).2;omega);rw[←hbx] at X ⊢;clear AL H2 T2 TT2;unfold pxC at *
  generalize w2.alloc (.cells _ 104)=w3 at *;clear hbx;have hgm:get (a.C.map fun p=>(p.1,p.2.2.c)) k=(get a.C k).map fun q=>q.2.c:=get_map (fun q:Cx×Cm=>q.2.c) k a.C
  have hcv2:=HCV.out;unfold conV at hcv2;rw[hgm] at hcv2;clear hgm HCV;have hca:conA a k=cv:=by
   unfold conA;rw[hcv2];cases get a.C k<;>rfl
  have CH:Hid (px.cont.size≤100000→∀ W,Below w3.heap.size w3 W→Calls Tryz.prog 44 #[.pointer (some ⟨a.g,0,none⟩),.string k,cv,.agg #[.bool px.dials,.int .u64 (px.num:Int),.int .u8 (px.kind:Int),.string px.cont]] W (Done W base a (helloN n k px.num px.cont).1 (helloN n k px.num px.cont).2)):=qH (fun hc W bW=>by
   have:=hello_any (H3.out.below bW) HK.out k px hc HL.out (TT3.out.below bW TT3.out.two) HB2.out
   rw[hca] at this;exact this)
  clear hca;rcases hq:get a.C k with _|⟨x,m⟩
  case' none=>
   rw[hq] at hcv2;obtain rfl:cv = .pointer none:=hcv2;have hqn:get n.C k=none:=by have:=HGC.out;rw[hq] at this;exact this
  case' some=>
   rw[hq] at hcv2;obtain rfl:cv = .pointer (some ⟨m.c,0,none⟩):=hcv2;have hqn:get n.C k=some x:=by have:=HGC.out;rw[hq] at this;exact this
   have hpn:=ptr_eq0 ⟨m.c,0,none⟩
  all_goals cases ok
  case none.false=>
   have HRN:Hid (pktE G n k (readF data)=(n,[])):=qH (by rw[show readF data=none from HRX.out];unfold pktE;rw[hqn];rfl);have D:Hid (DonePk w0 base a (pktE G n k (readF data)) 0 (.returned (.tuple #[.slice none 0 0,.int .i64 0])) w3):=qH (by rw[HRN.out];exact⟨_,a,rfl,rfl,H3.out,T3.out⟩);clear HRN hqn hq;go_wp2_with fail;go_ret2;exact D.out
  case some.false=>
   have HRN:Hid (pktE G n k (readF data)=(closeN n k x,remE k x)):=qH (by rw[show readF data=none from HRX.out];unfold pktE;rw[hqn];rfl);have CC:=qH (close_any H3.out k x m hq (by have:=HL.out;omega));unfold ptrV at CC;clear hqn hq;go_wp2_with fail;refine CC.out.mono ?_;rintro e w4 ⟨v,a',rfl,h2,h3,h4⟩;have D:Hid (DonePk w0 base a (pktE G n k (readF data)) 0 (.returned (.tuple #[v,.int .i64 0])) w4):=qH (by rw[HRN.out];exact DonePk.of T3.out ⟨v,a',rfl,h2,h3,h4⟩)
   clear h2 h3 h4 CC;go_wp2_with fail;go_ret2;exact D.out
  case' none.true=>
   have HRN:Hid (pktE G n k (readF data)=if helB px then helloN n k px.num px.cont else (n,[])):=qH (by rw[show readF data=some px from HRX.out];unfold pktE;rw[hqn];rfl);have HRF:=qH (readF_some (show readF data=some px from HRX.out));clear hq hqn;go_upto_region 11 with fail
   go_quiet (fail);have B4:Hid (Below w3.heap.size w3 (w3.drewN nq)):=qH (below_drewN (Below.refl _ _) _);generalize w3.drewN nq=w4 at *;have d0:w4.cell? ⟨bx,0,none⟩=some (.bool px.dials):=(X.out.below B4.out X.out.lt).cell 0;have d2:w4.cell? ⟨bx,2,none⟩=some (.int .u8 (px.kind:Int)):=(X.out.below B4.out X.out.lt).cell 2;go_upto_region 14 with fail
  case' some.true=>
   have HRF:=qH (readF_some (show readF data=some px from HRX.out));have CLN:=H3.out.conn hq;have e1:w3.cell? ⟨m.c,1,none⟩=some (.bool x.dials):=CLN.con.cell 1;have e2:w3.cell? ⟨m.c,2,none⟩=some (.int .u64 (x.num:Int)):=CLN.con.cell 2;have f0:w3.cell? ⟨bx,0,none⟩=some (.bool px.dials):=X.out.cell 0;have f1:w3.cell? ⟨bx,1,none⟩=some (.int .u64 (px.num:Int)):=X.out.cell 1;have HRM:Hid (pktE G n k (readF data)=if matchB x px then handN G n k x px else if helB px then helloN n k px.num px.cont else (n,[])):=qH (by rw[show readF data=some px from HRX.out];unfold pktE;rw[hqn];rfl)
   have HSX:=qH (HS.out x hqn);have HQ:=qH hq;clear CLN hq hqn;go_upto_region 11 with fail
   by_cases hn:x.num=px.num
   case' neg=>
    have HRN:Hid (pktE G n k (readF data)=if helB px then helloN n k px.num px.cont else (n,[])):=qH (by rw[HRM.out,show matchB x px=false by unfold matchB;rw[beq_eq_false_iff_ne.2 hn];rfl];rfl);have hne:((x.num:Int)==(px.num:Int))=false:=by rw[beq_eq_false_iff_ne];omega
    clear HRM hn;go_quiet (fail);have B4:Hid (Below w3.heap.size w3 (w3.drewN nq)):=qH (below_drewN (Below.refl _ _) _);generalize w3.drewN nq=w4 at *;clear e1 e2 f0 f1 hne;have d0:w4.cell? ⟨bx,0,none⟩=some (.bool px.dials):=(X.out.below B4.out X.out.lt).cell 0;have d2:w4.cell? ⟨bx,2,none⟩=some (.int .u8 (px.kind:Int)):=(X.out.below B4.out X.out.lt).cell 2;go_upto_region 14 with fail
   case' pos=>
    have hne:((x.num:Int)==(px.num:Int))=true:=by rw[beq_iff_eq];omega
    obtain⟨dx,hdx⟩:∃ b,b=x.dials:=⟨_,rfl⟩;obtain⟨dp,hdp⟩:∃ b,b=px.dials:=⟨_,rfl⟩;rw[←hdx] at e1;rw[←hdp] at f0;have HMB:Hid (matchB x px = !(dx==dp)):=qH (by unfold matchB;rw[beq_iff_eq.2 hn,hdx,hdp];rfl);have HNQ:=qH hn;clear hdx hdp hn;cases dx<;>cases dp
   case' pos.false.false=>
    have HRN:Hid (pktE G n k (readF data)=if helB px then helloN n k px.num px.cont else (n,[])):=qH (by rw[HRM.out,HMB.out];rfl)
   case' pos.true.true=>
    have HRN:Hid (pktE G n k (readF data)=if helB px then helloN n k px.num px.cont else (n,[])):=qH (by rw[HRM.out,HMB.out];rfl)
   case' pos.true.false=>
    have HRN:Hid (pktE G n k (readF data)=handN G n k x px):=qH (by rw[HRM.out,HMB.out];rfl);have HMT:Hid (matchB x px=true):=qH HMB.out
   case' pos.false.true=>
    have HRN:Hid (pktE G n k (readF data)=handN G n k x px):=qH (by rw[HRM.out,HMB.out];rfl);have HMT:Hid (matchB x px=true):=qH HMB.out
   case' pos.true.false|pos.false.true=>
    clear HRM HMB;go_quiet (fail);have B4:Hid (Below w3.heap.size w3 (w3.drewN nq)):=qH (below_drewN (Below.refl _ _) _);generalize w3.drewN nq=w4 at *;clear e1 e2 f0 f1 hne;go_upto_region 12 with fail
   case' pos.true.true|pos.false.false=>
    clear HRM HMB;go_quiet (fail);have B4:Hid (Below w3.heap.size w3 (w3.drewN nq)):=qH (below_drewN (Below.refl _ _) _);generalize w3.drewN nq=w4 at *;clear e1 e2 f0 f1 hne;have d0:w4.cell? ⟨bx,0,none⟩=some (.bool px.dials):=(X.out.below B4.out X.out.lt).cell 0;have d2:w4.cell? ⟨bx,2,none⟩=some (.int .u8 (px.kind:Int)):=(X.out.below B4.out X.out.lt).cell 2;go_upto_region 14 with fail
  case' none.true|neg|pos.true.true|pos.false.false=>
   obtain⟨dp,hdp⟩:∃ b,b=px.dials:=⟨_,rfl⟩;rw[←hdp] at d0;have HDP:=qH hdp;clear hdp;cases dp
   ·
    have D:Hid (DonePk w0 base a (pktE G n k (readF data)) 0 (.returned (.tuple #[.slice none 0 0,.int .i64 0])) w4):=qH (by
     rw[HRN.out,show helB px=false by unfold helB;rw[←HDP.out];rfl];exact⟨_,a,rfl,rfl,H3.out.below B4.out,T3.out.trans (Trail.below a B4.out)⟩)
    go_wp2_with fail;go_ret2;exact D.out
   ·
    by_cases hkk:px.kind=72
    ·
     have CC:=qH (CH.out (Nat.le_trans HRF.out.1 HD.out) w4 B4.out);have X4:=qH (X.out.below B4.out X.out.lt);have HHB:Hid (pktE G n k (readF data)=helloN n k px.num px.cont):=qH (by rw[HRN.out,show helB px=true by unfold helB;rw[←HDP.out,hkk];rfl];rfl);have hki:((px.kind:Int)==72)=true:=by rw[beq_iff_eq];omega
     clear hkk CH HRN;go_wp2_with (refine wpList_load_blk rfl 104 _ rfl bx rfl _ 104 _ X4.out Tryz.underlying104 rfl info104 ?_);refine CC.out.mono ?_;rintro e w5 ⟨v,a',rfl,h2,h3,h4⟩;have D:Hid (DonePk w0 base a (pktE G n k (readF data)) 0 (.returned (.tuple #[v,.int .i64 0])) w5):=qH (by
      rw[HHB.out];exact DonePk.of (T3.out.trans (Trail.below a B4.out)) ⟨v,a',rfl,h2,h3,h4⟩)
     clear h2 h3 h4 CC;go_wp2_with fail;go_ret2;exact D.out
    ·
     have D:Hid (DonePk w0 base a (pktE G n k (readF data)) 0 (.returned (.tuple #[.slice none 0 0,.int .i64 0])) w4):=qH (by
      rw[HRN.out,show helB px=false by unfold helB;rw[beq_eq_false_iff_ne.2 hkk,Bool.and_false]];exact⟨_,a,rfl,rfl,H3.out.below B4.out,T3.out.trans (Trail.below a B4.out)⟩)
     have hki:((px.kind:Int)==72)=false:=by rw[beq_eq_false_iff_ne];omega
     clear hkk;go_wp2_with fail;go_ret2;exact D.out
  all_goals
   obtain⟨o1,o2,o3,h1,h2,h3,b5,hl5⟩:=hands_map a.g w4;unfold fnV ptrV at h1 h2 h3 hl5;have B5:=qH b5;have g2:=((X.out.below B4.out X.out.lt).below b5 (Nat.lt_of_lt_of_le X.out.lt B4.out.size)).cell 2;replace g2:((((w4.alloc (.map #[] 0)).putObj w4.heap.size o1).putObj w4.heap.size o2).putObj w4.heap.size o3).cell? ⟨bx,2,none⟩=some (.int .u8 (px.kind:Int)):=g2;have X5:=qH ((X.out.below B4.out X.out.lt).below b5 (Nat.lt_of_lt_of_le X.out.lt B4.out.size))
   have H5:=qH ((H3.out.below B4.out).below b5);have T5:=qH ((T3.out.trans (Trail.below a B4.out)).trans (Trail.below a b5));have TT5:=qH ((TT3.out.below B4.out TT3.out.two).below b5 (Nat.le_trans TT3.out.two B4.out.size));have HKD:=qH HRF.out.2;clear b5 CH;rcases HKD.out with hk|hk|hk
   case' inl=>
    have hlk:=hl5 px.kind 41 (by rw[hk];rfl);have HC:Hid (∀ W,NdAt W base n a→Sk.Tabs W→Calls Tryz.prog 41 #[.pointer (some ⟨a.g,0,none⟩),.pointer (some ⟨m.c,0,none⟩),.string px.cont] W (Done W base a (handN G n k x px).1 (handN G n k x px).2)):=qH (fun W hW tW=>by
     have e:handN G n k x px=shakesN n k x px.cont:=by unfold handN;rw[if_pos hk]
     rw[e];exact shakes_any hW k x m HQ.out HL.out px.cont (Nat.le_trans HRF.out.1 HD.out) tW HSX.out)
   case' inr.inl=>
    have hlk:=hl5 px.kind 42 (by rw[hk];rfl);have HC:Hid (∀ W,NdAt W base n a→Sk.Tabs W→Calls Tryz.prog 42 #[.pointer (some ⟨a.g,0,none⟩),.pointer (some ⟨m.c,0,none⟩),.string px.cont] W (Done W base a (handN G n k x px).1 (handN G n k x px).2)):=qH (fun W hW tW=>by
     have e:handN G n k x px=G n k x px.cont:=by unfold handN;rw[if_neg (by omega),if_pos hk]
     rw[e];exact HG.out x m px W a hW HQ.out HRX.out hk HMT.out tW)
   case' inr.inr=>
    have hlk:=hl5 px.kind 43 (by rw[hk];rfl);have HC:Hid (∀ W,NdAt W base n a→Sk.Tabs W→Calls Tryz.prog 43 #[.pointer (some ⟨a.g,0,none⟩),.pointer (some ⟨m.c,0,none⟩),.string px.cont] W (Done W base a (handN G n k x px).1 (handN G n k x px).2)):=qH (fun W hW tW=>by
     have e:handN G n k x px=(endsN n k x px.cont,remE k x):=by unfold handN;rw[if_neg (by omega),if_neg (by omega)]
     rw[e];exact ends_any hW k x m HQ.out (by have:=HL.out;omega) px.cont)
   all_goals
    unfold fnV at hlk;have hmm:=@run_makeMap Tryz.prog;clear hl5 hk HKD B5;go_upto_region 13 with fail
    clear h1 h2 h3 hlk g2 hmm;generalize ((((w4.alloc _).putObj _ _).putObj _ _).putObj _ _)=w5 at *;have e3:w5.cell? ⟨bx,3,none⟩=some (.string px.cont):=X5.out.cell 3;have CC:=qH (HC.out w5 H5.out TT5.out);clear HC;go_wp2_with fail;refine CC.out.mono ?_;rintro e w6 ⟨v,a',rfl,q2,q3,q4⟩;have D:Hid (DonePk w0 base a (pktE G n k (readF data)) 0 (.returned (.tuple #[v,.int .i64 0])) w6):=qH (by
     rw[HRN.out];exact DonePk.of T5.out ⟨v,a',rfl,q2,q3,q4⟩)
    clear q2 q3 q4 CC;go_wp2_with fail;go_ret2;exact D.out
theorem Col.trans {w w1 w2:World} {base:Nat} {s':Ds} {n':Nu} {P P1:Pb} (hg:P1.g=P.g) (b:Below base w w1) (h:Col w1 base s' n' P1 w2):Col w base s' n' P w2:=by
 obtain⟨P',h1,h2,h3⟩:=h;exact⟨P',h1.trans hg,h2,b.trans h3⟩
set_option maxHeartbeats 8000000 in
theorem pass_nonea {w:World} {base:Nat} {s:Ds} {n:Nu} {P:Pb} (h:PwAt w base s n P) (hw:s.wa = []):Calls Tryz.prog 16 #[ptrV P.g,.int .i64 0] w fun e w'=>e = .returned (.tuple #[])∧w'=w:=by
 have q:=h.qa;rw[hw] at q;obtain⟨a0,c0,hv,-,-⟩:=q.form;have hc:w.cell? ⟨P.g,2,none⟩=some (.slice a0 0 c0):=h.cwa rfl hv;clear h hw q hv;unfold ptrV;go_enter Tryz.func16,Tryz.ntmps16;go_wp2_with fail;exact bodyPost_ret (v:=.tuple #[]) (by simp[results,Tryz.results16,go_sem]) rfl ⟨rfl,rfl⟩
set_option maxHeartbeats 8000000 in
theorem pass_noneb {w:World} {base:Nat} {s:Ds} {n:Nu} {P:Pb} (h:PwAt w base s n P) (hw:s.wb = []):Calls Tryz.prog 16 #[ptrV P.g,.int .i64 1] w fun e w'=>e = .returned (.tuple #[])∧w'=w:=by
 have q:=h.qb;rw[hw] at q;obtain⟨a0,c0,hv,-,-⟩:=q.form;have hc:w.cell? ⟨P.g,3,none⟩=some (.slice a0 0 c0):=h.cwb rfl hv;clear h hw q hv;unfold ptrV;go_enter Tryz.func16,Tryz.ntmps16;go_wp2_with fail;exact bodyPost_ret (v:=.tuple #[]) (by simp[results,Tryz.results16,go_sem]) rfl ⟨rfl,rfl⟩
end Go.Proofs.YtoaimoemaoinhaaGreatDoor
namespace Go.Proofs.YtoaimoemaoinhaaGreatDoor.Fr
open Go.RowKit Go.Rt Go.Rw Go.Mp Go.Lib
def bC (b:UInt8):List Value:=[.int .u8 (b.toNat:Int)]
theorem bC_len (b:UInt8):(bC b).length=1:=rfl
theorem bC_one (b:UInt8):∀ u∈bC b,u.oneCell'=true:=by simp[bC,Value.oneCell']
def byK (n k:Nat):UInt8:=UInt8.ofNat (n / 2 ^ (56-8*k))
def be8 (n:Nat):List UInt8:=(List.range 8).map (byK n)
theorem be8_len (n:Nat):(be8 n).length=8:=by simp[be8]
theorem be8_take (n k:Nat) (hk:k<8):(be8 n).take (k+1)=(be8 n).take k ++ [byK n k]:=by
 rw[List.take_succ_eq_append_getElem (by rw[be8_len];exact hk)];simp[be8]
theorem byK_val (n k:Nat):((byK n k).toNat:Int)=(n:Int) / 2 ^ (56-8*k) % 256:=by
 unfold byK;rw[UInt8.toNat_ofNat']
 simp
theorem below_grow {base:Nat} {w wr W2:World} {o:Obj} {v:Value} {bs:List UInt8} {e m:Nat} {c:UInt8→List Value} (b:Below base w wr) (hz:base≤wr.heap.size) (s:Sl wr base e m c v bs) (hg:(wr.alloc o).grownBy W2 v.ownBlock):Below base w W2:=
 b.trans (((Below.refl base wr).alloc hz o).grown hg (by simp;omega) (fun r hr=>(s.lt r hr).1))
set_option maxHeartbeats 1000000 in
theorem number_any {base:Nat} (v:Value) (bs:List UInt8) (n:Nat) (w:World) (h:Sl w base 5 1 bC v bs) (hb:base≤w.heap.size) (hl:bs.length≤1000) (_:n<18446744073709551616) :
  Calls Tryz.prog 85 #[v,.int .u64 n] w fun e w'=>∃ g cap,e = .returned (.slice (some ⟨g,0,none⟩) (bs.length+8) cap)∧Sl w' base 5 1 bC (.slice (some ⟨g,0,none⟩) (bs.length+8) cap) (bs++be8 n)∧Below base w w':=by
 obtain⟨sa,cap,rfl⟩:=(h.at bC_len).len.2;go_enter Tryz.func85,Tryz.ntmps85;go_wp2;go_loopw [0,5] (fun s0 s5 wr=>∃ k:Nat,k≤8∧s5 = .int .i64 (56-8*(k:Int))∧Sl wr base 5 1 bC s0 (bs++(be8 n).take k)∧Below base w wr) (fun _ s _=>(RowKit.intOf s+8).toNat)
 case atStart=>exact⟨0,by omega,rfl,by simpa using h,Below.refl _ _⟩
 case round=>
  obtain⟨k,hk,rfl,s1,b1⟩:=hrel;have hlen:(bs++(be8 n).take k).length=bs.length+k:=by simp[be8_len];omega
  obtain⟨sa',cap',hv⟩:=(s1.at bC_len).len.2;rw[hlen] at hv;subst hv
  by_cases hlt:k<8
  ·
   have hs0:(0:Int)≤56-8*(k:Int):=by omega
   have hs1:56-8*(k:Int)≤56:=by omega
   have hs2:8*(k:Int)≤56:=by omega
   have hw0:base≤wr.heap.size:=by have:=b1.size;omega
   obtain⟨g,cap2,W2,hrun,s2,hgrow,hwhere⟩:=Sl.push (P:=Tryz.prog) (t:=124) (ty:=124) (s1.only (Only.alloc [] wr (.cells (bC (byK n k)).toArray 5)) (fun g _=>by simp)) u62 info5 rfl (by omega) bC_len bC_one (byK n k) (World.alloc_heap_new wr _) (by rw[hlen];omega) (by rw[hlen];omega) (by simp;omega) 1;rw[hlen] at hrun s2;rw[List.append_assoc,←be8_take n k hlt] at s2;have HS2:=qH s2;have HB2:=qH (below_grow b1 hw0 s1 hgrow)
   simp only[bC,byK_val] at hrun;have HRN:=qH hrun;clear hrun s2 hgrow hwhere s1 b1 hlen h;go_wp2_with (at_builtin;refine wpList_append_run rfl _ _ 124 124 rfl rfl rfl HRN.out ?_);go_roundw
   case rel=>exact⟨k+1,by omega,by rw[show (56-8*(k:Int)-8)=56-8*((k+1:Nat):Int) by omega],HS2.out,HB2.out⟩
   case measure=>simp[RowKit.intOf];omega
  ·
   obtain rfl:k=8:=by omega
   rw[List.take_of_length_le (by rw[be8_len];omega)] at s1;obtain⟨g,rfl⟩:∃ g,sa'=some ⟨g,0,none⟩:=by
    rcases s1.form with ⟨e,h0⟩|⟨g0,cap0,e,_⟩
    ·
     have:=congrArg List.length h0;simp[be8_len] at this
    ·
     simp at e;exact⟨g0,e.1⟩
   clear hlen h;go_wp2;go_ret;exact⟨_,_,rfl,s1,b1⟩
def valK (s:ByteArray) (o:Nat):Nat→Nat
 | 0=>0
 | k+1=>valK s o k*256+(s.data.getD (o+k) 0).toNat
theorem valK_lt (s:ByteArray) (o k:Nat):valK s o k<256 ^ k:=by
 induction k with
 | zero=>simp[valK]
 | succ k ih=>
  have:=(s.data.getD (o+k) 0).toNat_lt
  rw[valK,Nat.pow_succ];omega
theorem or_step (v b:Nat) (hv:v<72057594037927936) (hb:b<256):bits .or .u64 (IntKind.u64.wrap ((v:Int)*256)) (IntKind.u64.wrap (b:Int))=((v*256+b:Nat):Int):=by
 have e1:IntKind.u64.wrap ((v:Int)*256)=((v*256:Nat):Int):=by rw[IntKind.wrap_u64];omega
 have e2:IntKind.u64.wrap (b:Int)=(b:Int):=by rw[IntKind.wrap_u64];omega
 rw[e1,e2,u64_or_nat _ _ (by omega) (by omega)]
 have:=Nat.two_pow_add_eq_or_of_lt (i:=8) (b:=b) (by omega) v
 rw[show v*256=2 ^ 8*v by omega,←this]
theorem getD_byte (s:ByteArray) (k:Nat) (h:k<s.size):(s.data.getD (0+k) 0).toNat=s[k].toNat:=by
 rw[Nat.zero_add];have hd:k<s.data.size:=h;unfold Array.getD;rw[dif_pos hd];rfl
theorem pow_le (k:Nat) (h:k<8):256 ^ k≤72057594037927936:=by
 have:=Nat.pow_le_pow_right (n:=256) (by omega) (show k≤7 by omega)
 simpa using this
set_option maxHeartbeats 1000000 in
theorem read_any (s:ByteArray) (w:World) (hs:8≤s.size) (hs2:s.size≤9223372036854775807) :
  Calls Tryz.prog 132 #[.string s] w fun e w'=>e = .returned (.int .u64 (valK s 0 8))∧w=w':=by
 go_enter Tryz.func132,Tryz.ntmps132;go_wp2;go_loop [3,4] (fun n i=>∃ k:Nat,k≤8∧i = .int .i64 k∧n = .int .u64 (valK s 0 k)) (fun _ i=>8-(RowKit.intOf i).toNat)
 case atStart=>exact⟨0,by omega,rfl,rfl⟩
 case round=>
  obtain⟨k,hk,rfl,rfl⟩:=hrel
  by_cases hlt:k<8
  ·
   have hlt':(k:Int)<s.size:=by omega
   have hq:=or_step (valK s 0 k) s[k].toNat (by have:=valK_lt s 0 k;have:=pow_le k hlt;omega) s[k].toNat_lt;have HQ:=qH hq;have hg:=getD_byte s k (by omega);have HG:=qH hg;clear hq hg;go_wp2;go_round
   case rel=>exact⟨k+1,by omega,by go_num,by rw[HQ.out,valK,HG.out]⟩
   case measure=>simp[RowKit.intOf];omega
  ·
   obtain rfl:k=8:=by omega
   go_wp2;go_ret;exact⟨rfl,rfl⟩
def headL (fi:Bool) (i l:Nat):List UInt8:=[131,if fi then 69 else 70]++be8 i++be8 l
def encF (fi:Bool) (i l:Nat) (data:ByteArray):ByteArray:=⟨(headL fi i l).toArray⟩++data
theorem headL_len (fi:Bool) (i l:Nat):(headL fi i l).length=18:=by simp[headL,be8_len]
theorem conv_bytes {W:World} {base g n cap:Nat} {bs:List UInt8} (h:Sl W base 5 1 bC (.slice (some ⟨g,0,none⟩) n cap) bs):(convert 124 9 (.slice (some ⟨g,0,none⟩) n cap)).run Tryz.prog W = .ok (.string ⟨bs.toArray⟩) W:=by
 obtain rfl:n=bs.length:=by
  rcases h.form with ⟨e,_⟩|⟨g',c',e,_⟩
  ·
   cases e
  ·
   cases e;rfl
 refine run_convert_bytes_back (P:=Tryz.prog) W 124 9 5 ⟨g,0,none⟩ cap bs u62 u5 u9 ?_;intro j hj;rw[add_none,Nat.zero_add]
 have:=h.cell bC_len j 0 hj (by omega)
 simpa [bC] using this
set_option maxHeartbeats 2000000 in
theorem put_ok (i l:Nat) (fi:Bool) (data:ByteArray) (w:World) (hv:validB i l data=true) :
  Calls Tryz.prog 50 #[.agg #[.int .i64 i,.bool fi,.int .i64 l,.string data]] w fun e w'=>e = .returned (.tuple #[.string (encF fi i l data),.int .i64 0])∧Below w.heap.size w w':=by
 obtain⟨v1,v2,v3,v4,v5⟩:=valid_of hv;go_enter Tryz.func50,Tryz.ntmps50;go_wp2_with fail;refine(valid_yes i l fi data _ hv).mono ?_;rintro e w1 ⟨rfl,b1⟩;have hb1:w1.heap[w.heap.size]? = some (.cells #[.int .i64 i,.bool fi,.int .i64 l,.string data] 117 (0,0)):=(b1.block w.heap.size (by simp)).trans (World.alloc_heap_new w _);have B1:Below w.heap.size w w1:=((Below.refl _ w).alloc (Nat.le_refl _) _).trans (b1.mono (by simp))
 have hz1:w.heap.size<w1.heap.size:=(Array.getElem?_eq_some_iff.1 hb1).1;have x0:=cell_at hb1 0;have x1:=cell_at hb1 1;have x2:=cell_at hb1 2;have x3:=cell_at hb1 3;simp only[List.getElem?_toArray,List.getElem?_cons_zero,List.getElem?_cons_succ] at x0 x1 x2 x3;have S1:Hid (Sl (w1.alloc (.cells #[.int .u8 131,.int .u8 (if fi then 69 else 70)] 5)) w1.heap.size 5 1 bC (.slice (some ⟨w1.heap.size,0,none⟩) 2 2) [131,if fi then 69 else 70]):=by
  refine qH ?_
  have:=Sl.lit (base:=w1.heap.size) (e:=5) (m:=1) (c:=bC) w1 [131,if fi then 69 else 70] bC_len (Nat.le_refl _) (by simp[maxLen])
  cases fi<;>simpa [bC] using this
 have HB1:=qH hb1;have BB1:=qH B1;clear b1 hb1 B1;have z1:IntKind.u64.wrap (i:Int)=i:=by rw[IntKind.wrap_u64];omega
 have z2:IntKind.u64.wrap (l:Int)=l:=by rw[IntKind.wrap_u64];omega
 have N1:Hid (∀ (g cap:Nat) (W:World) (bs:List UInt8) (n:Nat),Sl W w1.heap.size 5 1 bC (.slice (some ⟨g,0,none⟩) bs.length cap) bs→w1.heap.size≤W.heap.size→bs.length≤1000→n<18446744073709551616 →
   Calls Tryz.prog 85 #[.slice (some ⟨g,0,none⟩) bs.length cap,.int .u64 n] W fun e w'=>∃ g cap,e = .returned (.slice (some ⟨g,0,none⟩) (bs.length+8) cap)∧Sl w' w1.heap.size 5 1 bC (.slice (some ⟨g,0,none⟩) (bs.length+8) cap) (bs++be8 n)∧Below w1.heap.size W w'):=
  qH fun g cap W bs n h1 h2 h3 h4=>number_any _ bs n W h1 h2 h3 h4
 have HX:Hid (∀ W,Below w1.heap.size w1 W→W.cell? ⟨w.heap.size,0,none⟩=some (.int .i64 i)∧W.cell? ⟨w.heap.size,2,none⟩=some (.int .i64 l)):=
  qH fun W hb=>⟨(hb.cell (p:=⟨w.heap.size,0,none⟩) hz1).trans x0,(hb.cell (p:=⟨w.heap.size,2,none⟩) hz1).trans x2⟩
 have D1:Hid (∀ o,Below w1.heap.size w1 (w1.alloc o).drew):=qH fun o=>((Below.refl _ w1).alloc (Nat.le_refl _) o).drew
 obtain⟨HD,hHD⟩:∃ HD,HD=headL fi i l:=⟨_,rfl⟩;have HL:=qH hHD;have hHl:HD.length≤18:=by rw[hHD,headL_len];omega
 have hHs:(ByteArray.mk HD.toArray).size≤18:=hHl;have HEN:Hid (encF fi i l data=⟨HD.toArray⟩++data):=by refine qH ?_;rw[hHD];rfl
 clear hHD;cases fi
 all_goals
  simp only[Bool.false_eq_true,if_false,if_true] at S1;go_upto_region 6 with fail
  go_cut [4] (fun s4 wx=>∃ g cap,s4 = .slice (some ⟨g,0,none⟩) 18 cap∧Sl wx w1.heap.size 5 1 bC (.slice (some ⟨g,0,none⟩) 18 cap) HD∧Below w1.heap.size w1 wx)
  case first=>
   go_region_with (first
    | (go_at_call_of 85 (Value.slice (some ⟨w1.heap.size,0,none⟩) 2 2);refine(N1.out w1.heap.size 2 _ [131,_] i S1.out.drew (by simp) (by simp) (by omega)).mono ?_;rintro e w2 ⟨g2,cap2,rfl,s2,b2⟩;obtain⟨y0,y2⟩:=HX.out w2 ((D1.out _).trans b2))
    | (go_at_call 85;refine(N1.out _ _ _ _ l s2 (by have:=b2.size;simp at this;omega) (by simp[be8_len]) (by omega)).mono ?_;rintro e w3 ⟨g3,cap3,rfl,s3,b3⟩))
   all_goals (go_wp2_with fail;go_meet;exact⟨g3,cap3,by simp[be8_len],by have q:=s3;simp only[List.length_append,be8_len,List.length_cons,List.length_nil,Nat.reduceAdd] at q;rw[HL.out];exact q,((D1.out _).trans b2).trans b3⟩)
  case rest=>
   obtain⟨g,cap,rfl,s2,b2⟩:=hcut;have x3':=(b2.cell (p:=⟨w.heap.size,3,none⟩) hz1).trans x3;have hcv:=conv_bytes s2;have BB2:=qH (BB1.out.trans (b2.mono BB1.out.size));clear s2 b2;go_wp2;go_ret2;refine⟨?_,BB2.out⟩;rw[HEN.out];rfl
end Go.Proofs.YtoaimoemaoinhaaGreatDoor.Fr
namespace Go.Proofs.YtoaimoemaoinhaaGreatDoor.Fr
open Go.RowKit Go.Mp
theorem valK_of (s:ByteArray) (o n:Nat) (hn:n<18446744073709551616) (h:∀ k,k<8→s.data.getD (o+k) 0=byK n k):valK s o 8=n:=by
 have H:∀ k,k≤8→valK s o k=n / 256 ^ (8-k):=by
  intro k
  induction k with
  | zero=>intro _;simp only[valK];exact(Nat.div_eq_of_lt (by simpa using hn)).symm
  | succ k ih=>
   intro hk;rw[valK,ih (by omega),h k (by omega)];unfold byK;rw[UInt8.toNat_ofNat',show 56-8*k=8*(7-k) by omega,Nat.pow_mul,show 2 ^ 8=256 from rfl,show 8-k=(7-k)+1 by omega,Nat.pow_succ,←Nat.div_div_eq_div_mul,show 8-(k+1)=7-k by omega];omega
 simpa using H 8 (by omega)
theorem valK_extract (b:ByteArray) (o k:Nat) (h:o+k≤b.size):valK (b.extract o b.size) 0 k=valK b o k:=by
 induction k with
 | zero=>rfl
 | succ k ih=>
  rw[valK,valK,ih (by omega)]
  congr 2
  have hs:k<(b.extract o b.size).data.size:=by
   have:(b.extract o b.size).data.size=(b.extract o b.size).size:=rfl
   rw[this,ByteArray.size_extract];omega
  have hs2:o+k<b.data.size:=by have:b.data.size=b.size:=rfl;omega
  rw[Nat.zero_add,Array.getD,dif_pos hs,Array.getD,dif_pos hs2];simp[ByteArray.data_extract]
theorem enc_size (fi:Bool) (i l:Nat) (data:ByteArray):(encF fi i l data).size=18+data.size:=by
 unfold encF;rw[ByteArray.size_append]
 have:(ByteArray.mk (headL fi i l).toArray).size=18:=headL_len fi i l
 rw[this]
theorem enc_at (fi:Bool) (i l:Nat) (data:ByteArray) (j:Nat) (hj:j<18):(encF fi i l data).data.getD j 0=(headL fi i l)[j]'(by rw[headL_len];exact hj):=by
 have hs:j<(encF fi i l data).data.size:=by
  have:(encF fi i l data).data.size=(encF fi i l data).size:=rfl
  rw[this,enc_size];omega
 rw[Array.getD,dif_pos hs];simp only[encF,ByteArray.data_append];rw[Array.getInternal_eq_getElem,Array.getElem_append_left (by simpa [headL_len] using hj)]
 simp
theorem head_id (fi:Bool) (i l k:Nat) (hk:k<8):(headL fi i l)[2+k]'(by rw[headL_len];omega)=byK i k:=by
 simp only[headL];rw[List.getElem_append_left (by simp[be8_len];omega),List.getElem_append_right (by simp)];simp[be8]
theorem head_left (fi:Bool) (i l k:Nat) (hk:k<8):(headL fi i l)[10+k]'(by rw[headL_len];omega)=byK l k:=by
 simp only[headL];rw[List.getElem_append_right (by simp[be8_len])];simp[be8]
theorem enc_id (fi:Bool) (i l:Nat) (data:ByteArray) (hi:i<18446744073709551616):valK (encF fi i l data) 2 8=i:=
 valK_of _ _ _ hi fun k hk=>by rw[enc_at _ _ _ _ _ (by omega),head_id _ _ _ _ hk]
theorem enc_left (fi:Bool) (i l:Nat) (data:ByteArray) (hl:l<18446744073709551616):valK (encF fi i l data) 10 8=l:=
 valK_of _ _ _ hl fun k hk=>by rw[enc_at _ _ _ _ _ (by omega),head_left _ _ _ _ hk]
theorem enc_0 (fi:Bool) (i l:Nat) (data:ByteArray):(encF fi i l data).data.getD 0 0=131:=by rw[enc_at _ _ _ _ _ (by omega)];rfl
theorem enc_1 (fi:Bool) (i l:Nat) (data:ByteArray):(encF fi i l data).data.getD 1 0=if fi then 69 else 70:=by rw[enc_at _ _ _ _ _ (by omega)];rfl
theorem enc_rest (fi:Bool) (i l:Nat) (data:ByteArray):(encF fi i l data).extract 18 (encF fi i l data).size=data:=by
 rw[enc_size];apply ByteArray.ext;simp only[encF,ByteArray.data_extract,ByteArray.data_append];rw[Array.extract_append];simp[headL_len,←ByteArray.size_data]
def formB (b:ByteArray):Bool:=decide (18≤b.size)&&(b.data.getD 0 0==131&&(b.data.getD 1 0==69||b.data.getD 1 0==70))
def getD1 (b:ByteArray):Bool:=b.data.getD 1 0==69
def tailD (b:ByteArray):ByteArray:=b.extract 18 b.size
def getF (b:ByteArray):(Int×Bool×Int×ByteArray)×Int:=
 if (formB b&&validB (valK b 2 8) (valK b 10 8) (tailD b))=true then ((valK b 2 8,getD1 b,valK b 10 8,tailD b),0) else ((0,false,0,ByteArray.empty),6)
theorem get_enc (fi:Bool) (i l:Nat) (data:ByteArray) (hv:validB i l data=true):getF (encF fi i l data)=(((i:Int),fi,(l:Int),data),0):=by
 obtain⟨v1,v2,v3,v4,v5⟩:=valid_of hv;have hi:i<18446744073709551616:=by omega
 have hl:l<18446744073709551616:=by omega
 have hf:formB (encF fi i l data)=true:=by
  unfold formB;rw[enc_size,enc_0,enc_1];cases fi<;>simp
 unfold getF;rw[hf,enc_id _ _ _ _ hi,enc_left _ _ _ _ hl,tailD,enc_rest,hv];simp only[Bool.and_self,if_true];unfold getD1;rw[enc_1];cases fi<;>rfl
end Go.Proofs.YtoaimoemaoinhaaGreatDoor.Fr
