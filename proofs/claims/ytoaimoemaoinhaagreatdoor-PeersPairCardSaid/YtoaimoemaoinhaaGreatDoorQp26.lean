/- PeersX: a part of the proof. No condition beyond the premises of each theorem. -/
import Derived.Test.YtoaimoemaoinhaaGreatDoorQp25
import Derived.Test.YtoaimoemaoinhaaGreatDoorQp00
set_option maxRecDepth 100000
namespace Go.Proofs.YtoaimoemaoinhaaGreatDoor
open Go.RowKit Go.Rt Go.Rw Go.Mp
def outN (n:Nd) (k:ByteArray) (x:Cx) (out:ByteArray):Nd:=if out.toList = [] then n else sendN n k (pkF x.dials x.num 72 out)
def upX (x:Cx) (s:Sk.Sd):Cx:={ x with side:=s,gen:=s.other.gen,ms:=[] }
def shakesN (n:Nd) (k:ByteArray) (x:Cx) (msg:ByteArray):Nd×List Ev:=
 if x.gen≠0 then (closeN n k x,remE k x)
 else
  let r:=Sk.takeF x.side msg
  let x1:Cx:={ x with side:=r.1 }
  if r.2.2≠0 then (closeN (setC n k x1) k x1,[])
  else
   let n2:=outN (setC n k x1) k x1 r.2.1
   if r.1.state≠3 then (n2,[]) else (setL (setC n2 k (upX x1 r.1)) k (r.1.other.gen:Int),[upE k (r.1.other.gen:Int)])
theorem lookB {w:World} {base:Nat} {k:ByteArray} {x:Cx} {m:Cm} (h:CAt w base k x m):w.cell? ⟨m.c,0,none⟩=some (.string k)∧w.cell? ⟨m.c,3,none⟩=some (.pointer (some ⟨m.B,0,none⟩))∧w.cell? ⟨m.c,4,none⟩=some (.int .i64 (x.gen:Int)):=
 ⟨h.con.cell 0,h.con.cell 3,h.con.cell 4⟩
theorem side_keep {w w':World} {base:Nat} {k:ByteArray} {x:Cx} {m:Cm} (h:CAt w base k x m) (s:Sk.Sd) (hb:Blk w' m.B 141 (Sk.sdC s)) (o:Only [m.B] w w') (hn:(cfoot m).Nodup):CAt w' base k { x with side:=s } m:=by
 unfold cfoot at hn;rw[List.nodup_cons,List.nodup_cons] at hn;refine⟨h.con.only o ?_,hb,h.gat.keep o (fun b hq=>?_)⟩
 ·
  intro q;exact hn.1 (by rw[List.mem_singleton.1 q];exact List.mem_cons_self)
 ·
  intro q;exact hn.2.1 (by rw[←List.mem_singleton.1 q];exact hq)
theorem took_nd {w w':World} {base:Nat} {n:Nd} {a:Nm} (h:NdAt w base n a) {k:ByteArray} {x:Cx} {m:Cm} (hx:get a.C k=some (x,m)) (s:Sk.Sd) (hb:Blk w' m.B 141 (Sk.sdC s)) (o:Only [m.B] w w') :
  NdAt w' base (setC n k { x with side:=s }) (setA a k { x with side:=s } m)∧Trail w w' a (setA a k { x with side:=s } m):=
 set_nd h hx o (fun b hb=>by rw[List.mem_singleton.1 hb];simp[cfoot]) _ m (side_keep (h.conn hx) s hb o (h.cnod hx)) rfl (h.cnod hx) (fun b hb=>.inl hb)
theorem up_nd {w w1 w':World} {base:Nat} {n:Nd} {a:Nm} (h:NdAt w base n a) {k:ByteArray} {x:Cx} {m:Cm} (hx:get a.C k=some (x,m)) (s:Sk.Sd) (hs:x.side=s) (G mm:Nat) (b1:Below w.heap.size w w1) {B0:Nat} (hB0:w.heap.size≤B0) (hG:Fr.GA w1 B0 G mm [])
  (o:Only [m.c] w1 w') (hc:Blk w' m.c 93 (cnC k x.dials x.num (ptrV m.B) (s.other.gen:Int) (ptrV G) (x.id:Int))) :
  NdAt w' base (setC n k (upX x s)) (setA a k (upX x s) ⟨m.c,m.B,some (G,mm,[])⟩)∧Trail w w' a (setA a k (upX x s) ⟨m.c,m.B,some (G,mm,[])⟩):=by
 have hn:=h.cnod hx;have hin:=h.cin hx;have o2:Only [m.c] w w':=(Only.of_below b1).trans o;have hlow:=h.low;have hfl:=hG.foot_lt;have hGk:Fr.GA w' B0 G mm []:=hG.keep o (fun b hb q=>by
  have h1:=(hlow b (by rw[List.mem_singleton.1 q];exact hin _ (by simp[cfoot]))).2;have h2:=(hfl b hb).1;omega)
 have hGb:Fr.GA w' base G mm []:=⟨hGk.blk,hGk.mp,fun o ho=>(by cases ho),hGk.apart,hGk.keys,Nat.le_trans h.bz (Nat.le_trans hB0 hGk.bG),Nat.le_trans h.bz (Nat.le_trans hB0 hGk.bm),Nat.le_trans h.bz o2.size⟩;refine set_nd h hx o2 (fun b hb=>by rw[List.mem_singleton.1 hb];simp[cfoot]) (upX x s) ⟨m.c,m.B,some (G,mm,[])⟩ ⟨hc,?_,hGb,rfl⟩ rfl ?_ ?_
 ·
  show Blk w' m.B 141 (Sk.sdC s);rw[←hs];refine(h.conn hx).side.only o2 ?_;unfold cfoot at hn;rw[List.nodup_cons] at hn;intro q;exact hn.1 (by rw[←List.mem_singleton.1 q];exact List.mem_cons_self)
 ·
  have h1:=(hlow _ (hin m.c (by simp[cfoot]))).2;have h2:=(hlow _ (hin m.B (by simp[cfoot]))).2;have h3:=hG.bG;have h4:=hG.bm;have h5:=hG.ne;unfold cfoot at hn;rw[List.nodup_cons] at hn;have h6:m.c≠m.B:=fun e=>hn.1 (by rw[e];exact List.mem_cons_self)
  simp only[cfoot,gfoot,Fr.foot,List.flatMap_nil,List.nodup_cons,List.mem_cons,List.not_mem_nil,or_false,not_false_eq_true,List.nodup_nil,and_true];omega
 ·
  intro b hb;simp only[cfoot,gfoot,Fr.foot,List.flatMap_nil,List.mem_cons,List.not_mem_nil,or_false] at hb;have h1:=hGk.lt;have h2:=hGk.mp.lt;have h3:=hG.bG;have h4:=hG.bm;rcases hb with rfl|rfl|rfl|rfl
  ·
   exact .inl (by simp[cfoot])
  ·
   exact .inl (by simp[cfoot])
  ·
   exact .inr ⟨Nat.le_trans hB0 h3,h1⟩
  ·
   exact .inr ⟨Nat.le_trans hB0 h4,h2⟩
theorem ev_up (w:World) (n0:Nat) (k:ByteArray) (g:Int) (h:n0≤w.heap.size):EvsAt n0 (w.alloc (.cells (evL (upE k g) zeroSf).toArray 97)) (.slice (some ⟨w.heap.size,0,none⟩) 1 1) [upE k g]:=EvsAt.new w _ _ _ h (zero_at _ _)
theorem fld52 (a:ByteArray) (g:Int) (W:World):(Instr.field 52 (.agg #[.string a,.int .i64 g]) 1).run Tryz.prog W = .ok (.int .i64 g) W:=by kernel_rfl
set_option maxHeartbeats 8000000 in
theorem shakes_any {w:World} {base:Nat} {n:Nd} {a:Nm} (h:NdAt w base n a) (k:ByteArray) (x:Cx) (m:Cm) (hx:get a.C k=some (x,m)) (hl:((get n.O k).getD []).length≤99999999) (msg:ByteArray) (hms:msg.size≤100000) (hT:Sk.Tabs w)
  (hs:x.gen=0→Sk.SdOk x.side∧x.side.state=1) :
  Calls Tryz.prog 41 #[ptrV a.g,ptrV m.c,.string msg] w (Done w base a (shakesN n k x msg).1 (shakesN n k x msg).2):=by
 obtain⟨c0,c3,c4⟩:=lookB (h.conn hx)
 by_cases hg:x.gen=0
 ·
  obtain⟨hs1,hs2⟩:=hs hg;have CT:=qH (Sk.take1_any x.side hs1 hs2 msg hms m.B w (h.conn hx).side hT);have c4':w.cell? ⟨m.c,4,none⟩=some (.int .i64 0):=by rw[c4,hg];rfl
  have ho:=Sk.take_out x.side msg;obtain⟨r,hr⟩:∃ r,r=Sk.takeF x.side msg:=⟨_,rfl⟩;obtain⟨sd,out,err⟩:=r;obtain⟨x1,hx1⟩:∃ y:Cx,y = { x with side:=sd }:=⟨_,rfl⟩;have HX1:=qH hx1;have hF:shakesN n k x msg=if err≠0 then (closeN (setC n k x1) k x1,[]) else if sd.state≠3 then (outN (setC n k x1) k x1 out,[]) else (setL (setC (outN (setC n k x1) k x1 out) k (upX x1 sd)) k (sd.other.gen:Int),[upE k (sd.other.gen:Int)]):=by
   unfold shakesN;rw[if_neg (by omega),←hr,hx1]
  obtain⟨RN,RE,hR⟩:∃ RN RE,shakesN n k x msg=(RN,RE):=⟨_,_,rfl⟩;rw[hR] at hF ⊢;have F1:Hid (err≠0→RN=closeN (setC n k x1) k x1∧RE = []):=qH (fun q=>by rw[if_pos q] at hF;exact Prod.mk.inj hF);have F2:Hid (err=0→sd.state≠3→RN=outN (setC n k x1) k x1 out∧RE = []):=qH (fun q q2=>by rw[if_neg (fun z=>z q),if_pos q2] at hF;exact Prod.mk.inj hF);have F3:Hid (err=0→sd.state=3→RN=setL (setC (outN (setC n k x1) k x1 out) k (upX x1 sd)) k (sd.other.gen:Int)∧RE = [upE k (sd.other.gen:Int)]):=qH (fun q q2=>by rw[if_neg (fun z=>z q),if_neg (fun z=>z q2)] at hF;exact Prod.mk.inj hF)
  rw[←hr] at CT ho;clear hF hR hr c4
  simp only at ho ⊢
  have HX:=qH hx;have H:=qH h;have HG:=qH hg;clear h hx hs1 hs2 hs hms hT hg;obtain⟨pv,hpv⟩:∃ v,v=ptrV a.g:=⟨_,rfl⟩;obtain⟨cv,hcv⟩:∃ v,v=ptrV m.c:=⟨_,rfl⟩;have HPV:=qH hpv;have HCV:=qH hcv;rw[←hpv];unfold ptrV at hpv hcv ⊢;clear hpv hcv;go_enter Tryz.func41,Tryz.ntmps41;go_wp2_with fail;refine CT.out.mono ?_;rintro e w1 ⟨rfl,q1,q2⟩;have HN:=qH (took_nd H.out HX.out sd q1 q2);clear q1 q2 CT c0 c3 c4'
  rw[←hx1] at HN;clear hx1;have G1:=qH (getS a k x1 m);obtain⟨a1,ha1⟩:∃ y,y=setA a k x1 m:=⟨_,rfl⟩;rw[←ha1] at HN G1;have HA1:Hid (a1.g=a.g):=qH (by rw[ha1];rfl);clear ha1
  by_cases he:err=0
  ·
   have he1:((err:Int) != 0)=false:=by rw[he];rfl
   have F4:=qH (F2.out he);have F5:=qH (F3.out he);clear he F1 F2 F3;have HM:Hid (x1.side=sd):=qH (by rw[HX1.out]);have HL1:Hid (((get (setC n k x1).O k).getD []).length≤100000000):=qH (by unfold setC;simp only;omega);obtain⟨n1,hn1⟩:∃ y,y=setC n k x1:=⟨_,rfl⟩;rw[←hn1] at HN HL1 F4 F5;clear hn1 hl
   by_cases hoE:out.toList = []
   case' pos=>
    have hoB:out.toList.isEmpty=true:=by rw[hoE];rfl
    have HO:Hid (outN n1 k x1 out=n1):=qH (by unfold outN;rw[if_pos hoE]);rw[HO.out] at F4 F5;go_upto_region 8 with fail
    have H2:=qH HN.out.1;have T2:=qH HN.out.2;have G2:=G1;have A2:=HA1;clear HN G1 HA1 HO hoE hoB HL1 ho;generalize n1=n2 at *;generalize a1=a2 at *;generalize w1=w2 at *
   case' neg=>
    have hoB:out.toList.isEmpty=false:=by rw[List.isEmpty_eq_false_iff];exact hoE
    have HO:Hid (outN n1 k x1 out=sendN n1 k (pkF x1.dials x1.num 72 out)):=qH (by unfold outN;rw[if_neg hoE]);have CTL:=qH (tell_nd HN.out.1 k x1 m (HN.out.1.conn G1.out) 72 out (by omega) HL1.out);rw[show ptrV a1.g=pv by rw[HA1.out,HPV.out]] at CTL;unfold ptrV at CTL;rw[HO.out] at F4 F5;clear HL1;go_wp2_with fail;refine CTL.out.mono ?_;rintro e w2 ⟨rfl,v,h1,h2⟩;have H2:=qH h1;have T2:=qH (HN.out.2.trans h2)
    have G2:=qH G1.out;have A2:=qH HA1.out;clear h1 h2 CTL HN G1 HA1 HO hoB hoE ho;go_upto_region 8 with fail
    generalize ha2:({ a1 with O:=put a1.O k (v,(get n1.O k).getD [] ++ [pkF x1.dials x1.num 72 out]) } : Nm)=a2 at *;replace G2:Hid (get a2.C k=some (x1,m)):=qH (by rw[←ha2];exact G2.out);replace A2:Hid (a2.g=a.g):=qH (by rw[←ha2];exact A2.out);generalize sendN n1 k (pkF x1.dials x1.num 72 out)=n2 at *;clear ha2
   all_goals
    obtain⟨c0,c3,c4⟩:=lookB (H2.out.conn G2.out);have hbs:=(H2.out.conn G2.out).side;rw[HM.out] at hbs;have CS:=qH (Sk.state_any sd m.B w2 hbs);have CP:=qH (Sk.peerP_any sd m.B w2 hbs);clear hbs
    by_cases h3:sd.state=3
    ·
     have d3:((sd.state:Int) != 3)=false:=by rw[h3];rfl
     obtain⟨rfl,rfl⟩:=F5.out h3;clear h3 F4 F5;go_wp2_with fail;refine CS.out.mono ?_;rintro e w3 ⟨rfl,rfl⟩;clear CS;go_wp2_with fail;refine CP.out.mono ?_;rintro e w3 ⟨rfl,b3⟩;have B3:=qH b3;have hfd:=fld52 sd.other.name (sd.other.gen:Int);clear b3 CP c0 c3 c4;go_wp2_with fail;refine(Fr.new_any w3).mono ?_;rintro e w4 ⟨rfl,hG,b4⟩;have HB0:=qH B3.out.size;have b24:=B3.out.trans (b4.mono B3.out.size)
     have B24:=qH b24;have bk:=(H2.out.conn G2.out).con.below b24 (H2.out.conn G2.out).con.lt;generalize w3.heap.size+1=G at *;have HGA:=qH hG;have k4:w4.cell? ⟨m.c,4,none⟩=some (.int .i64 (x1.gen:Int)):=bk.cell 4;have k5:w4.cell? ⟨m.c,5,none⟩=some (gatV m.gat):=bk.cell 5;have f4:=bk.frozen 4;have f5:=bk.frozen 5;have HU:=qH (up_nd H2.out G2.out sd HM.out G w3.heap.size B24.out HB0.out HGA.out ((Only.setCell (bs:=[m.c]) w4 ⟨m.c,4,none⟩ (.int .i64 (sd.other.gen:Int)) (by simp)).trans (Only.setCell _ ⟨m.c,5,none⟩ (.pointer (some ⟨G,0,none⟩)) (by simp))) ((bk.set_ 4 (.int .i64 (sd.other.gen:Int))).set_ 5 (.pointer (some ⟨G,0,none⟩))))
     clear hG b4 b24 bk B3 hfd HGA B24 HB0;go_upto_region 11 with fail
     clear k4 k5 f4 f5;generalize (w4.setCell ⟨m.c,4,none⟩ (.int .i64 (sd.other.gen:Int))).setCell ⟨m.c,5,none⟩ (.pointer (some ⟨G,0,none⟩))=w5 at *;have T5:=qH (T2.out.trans HU.out.2);have H5:=qH HU.out.1;have G5:=qH (getS a2 k (upX x1 sd) ⟨m.c,m.B,some (G,w3.heap.size,[])⟩);have A5:Hid ((setA a2 k (upX x1 sd) ⟨m.c,m.B,some (G,w3.heap.size,[])⟩).g=a.g):=qH A2.out;clear HU H2 T2 G2 A2;generalize setA a2 k (upX x1 sd) ⟨m.c,m.B,some (G,w3.heap.size,[])⟩=a5 at *
     have L5:=(H5.out.conn G5.out).con;have k0:w5.cell? ⟨m.c,0,none⟩=some (.string k):=L5.cell 0;have k4:w5.cell? ⟨m.c,4,none⟩=some (.int .i64 (sd.other.gen:Int)):=L5.cell 4;have c7:w5.cell? ⟨a.g,7,none⟩=some (.map (some a5.ml)):=by have:=H5.out.pm.blk.cell 7;rw[A5.out] at this;exact this
     have hpv:pv = .pointer (some ⟨a.g,0,none⟩):=HPV.out;obtain⟨o,hu,hm⟩:=run_update (P:=Tryz.prog) (str_emb undS) und77 (H5.out.pm.lm.of_heap (w':=w5.drew) rfl) k (sd.other.gen:Int);replace hu:(Instr.mapUpdate 56 (.map (some a5.ml)) (.string k) (.int .i64 (sd.other.gen:Int))).run Tryz.prog w5.drew = .ok () (w5.drew.putObj a5.ml o):=hu;have HL:=qH (lst_nd H5.out k (sd.other.gen:Int) ((Only.drew _ w5).trans (Only.putObj w5.drew a5.ml o (by simp))) hm)
     have HU:=qH hu;clear L5 hm hu;go_still_tail 12,(by kernel_rfl);change wpList _ _ _ _ _ w5.drew;clear k0 k4 c7 hpv;have hu:=HU.out;go_upto_region 12 with fail
     clear hu HU;generalize w5.drew.putObj a5.ml o=w6 at *;have L6:=(HL.out.1.conn G5.out).con;have k0:w6.cell? ⟨m.c,0,none⟩=some (.string k):=L6.cell 0;have k4:w6.cell? ⟨m.c,4,none⟩=some (.int .i64 (sd.other.gen:Int)):=L6.cell 4;have AL:=(Below.refl w6.heap.size w6.drew).alloc (Nat.le_refl _) (.cells (evL (upE k (sd.other.gen:Int)) zeroSf).toArray 97);have T6:=T5.out.trans HL.out.2;have HF:Hid (Done w base a (setL (setC n2 k (upX x1 sd)) k (sd.other.gen:Int)) [upE k (sd.other.gen:Int)] (.returned (.slice (some ⟨w6.heap.size,0,none⟩) 1 1)) (w6.drew.alloc (.cells (evL (upE k (sd.other.gen:Int)) zeroSf).toArray 97))):=qH
      ⟨_,a5,rfl,ev_up w6.drew _ k _ T6.only.size,(HL.out.1.below (Below.refl _ w6).drew).below AL,(T6.trans (Trail.below a5 (Below.refl _ w6).drew)).trans (Trail.below a5 AL)⟩
     clear L6 AL T6 HL T5 H5 G5 A5;go_still_tail 8,(by kernel_rfl);change wpList _ _ _ _ _ w6.drew;clear k0 k4;go_wp2_with fail;go_ret;exact HF.out
    ·
     have d3:((sd.state:Int) != 3)=true:=by rw[bne_iff_ne];omega
     obtain⟨rfl,rfl⟩:=F4.out h3;clear h3 CP F4 F5;go_wp2_with fail;refine CS.out.mono ?_;rintro e w3 ⟨rfl,rfl⟩;clear CS;go_wp2_with fail;go_ret;exact⟨_,a2,rfl,rfl,H2.out,T2.out⟩
  ·
   have he1:((err:Int) != 0)=true:=by rw[bne_iff_ne];omega
   obtain⟨rfl,rfl⟩:=F1.out he;clear F1 F2 F3;have HE:Hid (remE k x1 = []):=qH (by unfold remE;rw[if_pos (by rw[HX1.out];exact HG.out)]);have CC:=qH (close_any HN.out.1 k x1 m G1.out (by unfold setC;simp only;omega));rw[HE.out] at CC;rw[show ptrV a1.g=pv by rw[HA1.out,HPV.out]] at CC;clear he;unfold ptrV at CC;go_wp2_with fail;refine CC.out.mono ?_;rintro e w2 ⟨v2,a2,rfl,h2,h3,h4⟩;have D:=qH (Done.from HN.out.2 ⟨v2,a2,rfl,h2,h3,h4⟩)
   clear h2 h3 h4 CC;go_wp2_with fail;go_ret;exact D.out
 ·
  have CC:=qH (close_any h k x m hx (by omega));have HS:Hid (shakesN n k x msg=(closeN n k x,remE k x)):=qH (by unfold shakesN;rw[if_pos hg]);rw[HS.out];have hg1:(0:Int)<(x.gen:Int):=by omega
  have hg2:0<x.gen:=by omega
  clear h hx hs hms hT c0 c3 hg HS;unfold ptrV at CC ⊢;go_enter Tryz.func41,Tryz.ntmps41;go_wp2_with fail;refine CC.out.mono ?_;rintro e w2 ⟨v2,a2,rfl,h2,h3,h4⟩;have D:Hid (Done w base a (closeN n k x) (remE k x) (.returned v2) w2):=qH ⟨v2,a2,rfl,h2,h3,h4⟩;clear h2 h3 h4 CC;go_wp2_with fail;go_ret;exact D.out
structure Px where
 dials:Bool
 num:Nat
 kind:Nat
 cont:ByteArray
def hdB (b:ByteArray):Bool:=decide (10≤b.size)&&(atB b 0==68||atB b 0==76)
def okK (n:Nat):Bool:=n==72||n==70||n==66
def pxF (b:ByteArray):Px:=⟨atB b 0==68,Sk.valF (b.extract 1 9) 8,atB b 9,b.extract 10 b.size⟩
def readF (b:ByteArray):Option Px:=if hdB b&&okK (atB b 9) then some (pxF b) else none
def pxC (x:Px):Array Value:=#[.bool x.dials,.int .u64 (x.num:Int),.int .u8 (x.kind:Int),.string x.cont]
def zeroPx : Px:=⟨false,0,0,⟨#[]⟩⟩
def ReadP (b:ByteArray) (w:World) (e:Ending) (w':World):Prop:=∃ (x:Px) (ok:Bool),e = .returned (.tuple #[.agg (pxC x),.bool ok])∧readF b=(if ok then some x else none)∧Below w.heap.size w w'
theorem info104 : (Tryz.prog.info? 104).map (·.size)=some 4:=by kernel_rfl
theorem BX (m:Nat) (x:Px) {w:World} (h:Blk w m 104 (pxC x)):w.cell? ⟨m,0,none⟩=some (.bool x.dials)∧w.cell? ⟨m,1,none⟩=some (.int .u64 (x.num:Int))∧w.cell? ⟨m,2,none⟩=some (.int .u8 (x.kind:Int))∧w.cell? ⟨m,3,none⟩=some (.string x.cont) ∧
 w.frozen? ⟨m,0,none⟩=false∧w.frozen? ⟨m,1,none⟩=false∧w.frozen? ⟨m,2,none⟩=false∧w.frozen? ⟨m,3,none⟩=false:=⟨h.cell 0,h.cell 1,h.cell 2,h.cell 3,h.frozen 0,h.frozen 1,h.frozen 2,h.frozen 3⟩
theorem results_px {fn:Func} {a b:Tmp} (h:fn.results = #[.cell a 104,.tmp b]) (tmps:Array Value) (w:World) (g:Nat) (x:Px) (v:Value) (hx:tmps.getD a undef = .pointer (some ⟨g,0,none⟩)) (hv:tmps.getD b undef=v) (hc:Blk w g 104 (pxC x)):(results fn tmps).run Tryz.prog w = .ok (.tuple #[.agg (pxC x),v]) w:=
 results_dec h tmps w g _ _ v hx hv hc Tryz.underlying104 rfl info104
set_option maxHeartbeats 8000000 in
theorem readp_no (b:ByteArray) (hb:b.size≤9223372036854775807) (hh:hdB b=false) (w:World):Calls Tryz.prog 39 #[.string b] w (ReadP b w):=by
 have HZ:Hid (∀ W,Below w.heap.size w W→ReadP b w (.returned (.tuple #[.agg (pxC zeroPx),.bool false])) W):=qH (fun W h2=>⟨zeroPx,false,rfl,by unfold readF;rw[hh];rfl,h2⟩);have AL:=qH ((Below.refl w.heap.size w).alloc (Nat.le_refl _) (.cells (pxC zeroPx) 104));unfold pxC zeroPx at HZ AL
 by_cases hs:b.size<10
 ·
  clear hb hh;go_enter Tryz.func39,Tryz.ntmps39;go_wp2_with fail;refine bodyPost_ret (v:=.tuple #[.agg #[.bool false,.int .u64 0,.int .u8 0,.string ⟨#[]⟩],.bool false]) (by simp[results,Tryz.results39,go_sem]) rfl ?_;exact HZ.out _ AL.out
 ·
  have h0:0<b.size:=by omega
  have hh2:¬b[0].toNat=68∧¬b[0].toNat=76:=by
   unfold hdB at hh;rw[decide_eq_true (by omega),Bool.true_and,atB_get b 0 h0] at hh
   simpa using hh
  have d1:((b[0].toNat:Int) != 68)=true:=by rw[bne_iff_ne];omega
  have d2:((b[0].toNat:Int) != 76)=true:=by rw[bne_iff_ne];omega
  clear hb hh hh2;go_enter Tryz.func39,Tryz.ntmps39;go_wp2_with fail;refine bodyPost_ret (v:=.tuple #[.agg #[.bool false,.int .u64 0,.int .u8 0,.string ⟨#[]⟩],.bool false]) (by simp[results,Tryz.results39,go_sem]) rfl ?_;exact HZ.out _ AL.out
theorem num_at (b:ByteArray) (h:10≤b.size) (q:Nat) (hq:q<8):Sk.valF (b.extract 1 9) (q+1)=256*Sk.valF (b.extract 1 9) q+(b[1+q]'(by omega)).toNat:=by
 have hz:(b.extract 1 9).size=8:=by rw[ByteArray.size_extract];omega
 rw[Sk.valF_at _ q (by omega)]
 congr 2
 exact ByteArray.getElem_extract ..
theorem okK_int (k:Nat):Value.bool ((k:Int)==72||(k:Int)==70||(k:Int)==66) = .bool (okK k):=by
 have e:∀ n:Nat,((k:Int)==(n:Int))=(k==n):=fun n=>by rw[Bool.eq_iff_iff];simp;omega
 unfold okK;rw[←e 72,←e 70,←e 66];rfl
theorem idx_at (b:ByteArray) (i:Int) (k:Nat) (hk:k<b.size) (e:i=(k:Int)) (W:World):(Instr.index 9 (.string b) (.int .i64 i)).run Tryz.prog W = .ok (.int .u8 (b[k].toNat:Int)) W:=by
 subst e;rw[run_index_string W 9 b .i64 _ Tryz.underlying9,dif_pos (by omega)];rfl
set_option maxHeartbeats 8000000 in
theorem readp_yes (b:ByteArray) (hb:b.size≤9223372036854775807) (hh:hdB b=true) (w:World):Calls Tryz.prog 39 #[.string b] w (ReadP b w):=by
 have X:=qH (Blk.new w 104 (pxC zeroPx));have B:=qH ((Below.refl w.heap.size w).alloc (Nat.le_refl _) (.cells (pxC zeroPx) 104));obtain⟨m,hm⟩:∃ q,q=w.heap.size:=⟨_,rfl⟩;have HM:=qH hm;rw[←hm] at X B;have h10:10≤b.size:=by
  unfold hdB at hh;rw[Bool.and_eq_true] at hh;exact of_decide_eq_true hh.1
 have hh2:b[0].toNat=68∨b[0].toNat=76:=by
  unfold hdB at hh;rw[decide_eq_true h10,Bool.true_and,atB_get b 0 (by omega)] at hh
  simpa using hh
 have HNA:=qH (num_at b h10);have hE:∀ x:Px,x=pxF b→∀ W,Below m w W→ReadP b w (.returned (.tuple #[.agg (pxC x),.bool (okK b[9].toNat)])) W:=by
  rintro x rfl W hW;refine⟨pxF b,okK b[9].toNat,rfl,?_,by rw[←HM.out];exact hW⟩;unfold readF;rw[hh,atB_get b 9 (by omega),Bool.true_and]
 have HE:=qH hE;obtain⟨D,hDq⟩:∃ D,D=(b[0].toNat==68):=⟨_,rfl⟩;have hPX:pxF b=⟨D,Sk.valF (b.extract 1 9) 8,b[9].toNat,b.extract 10 b.size⟩:=by
  unfold pxF;rw[atB_get b 0 (by omega),atB_get b 9 (by omega),hDq]
 have HPX:=qH hPX;have d0:decide ((b.size:Int)<10)=false:=decide_eq_false (by omega);have d2:((b[0].toNat:Int)==68)=D:=by
  rw[hDq]
  by_cases e:b[0].toNat=68
  ·
   rw[e];rfl
  ·
   rw[beq_eq_false_iff_ne.2 e,beq_eq_false_iff_ne];omega
 have d1:((b[0].toNat:Int) != 68) = !D:=by
  show (!((b[0].toNat:Int)==68)) = !D;rw[d2]
 have d3:D=false→((b[0].toNat:Int) != 76)=false:=by
  intro e;rw[hDq,beq_eq_false_iff_ne] at e;rw[bne_eq_false_iff_eq];omega
 have D3:=qH d3;clear hE hPX hh hh2 hDq d3;unfold pxC zeroPx at X B;go_enter Tryz.func39,Tryz.ntmps39;go_upto_region 1 with fail
 rw[←hm];generalize w.alloc (.cells _ 104)=w1 at X B ⊢;clear hm;have F1:∀ D':Bool,D=D'→True:=fun _ _=>trivial
 clear F1;cases D with
 | true=>
  simp only[Bool.not_true] at d1;clear D3;go_wp2_with fail;go_loopw [19] (fun i wr=>∃ q:Nat,q≤8∧i = .int .i64 q∧Hid (Blk wr m 104 (pxC ⟨false,Sk.valF (b.extract 1 9) q,0,⟨#[]⟩⟩))∧Hid (Below m w wr)) (fun i _=>8-(intOf i).toNat)
  case atStart=>exact⟨0,by omega,rfl,X,B⟩
  case round=>
   obtain⟨q,hq,rfl,X,B⟩:=hrel
   by_cases hlt:q<8
   ·
    have hbd:Sk.valF (b.extract 1 9) q≤72057594037927935:=by
     have:=Sk.valF_lt (b.extract 1 9) q
     have:(256:Nat) ^ q≤256 ^ 7:=Nat.pow_le_pow_right (by omega) (by omega)
     omega
    obtain⟨c,hc⟩:∃ c,c=(b[1+q]'(by omega)).toNat:=⟨_,rfl⟩;have hcl:c<256:=by rw[hc];exact UInt8.toNat_lt _
    have hix:∀ W,(Instr.index 9 (.string b) (.int .i64 (1+(q:Int)))).run Tryz.prog W = .ok (.int .u8 (c:Int)) W:=by rw[hc];exact idx_at b _ (1+q) (by omega) (by omega)
    have HN:=qH (HNA.out q hlt);rw[←hc] at HN;obtain⟨V,hV⟩:∃ V,V=Sk.valF (b.extract 1 9) q:=⟨_,rfl⟩;rw[←hV] at HN X hbd;have hor:=Sk.or_next V c hbd hcl;have hw2:IntKind.u64.wrap ((V:Int)*256)=(V:Int)*256:=by rw[IntKind.wrap_u64];omega
    have c1:wr.cell? ⟨m,1,none⟩=some (.int .u64 (V:Int)):=X.out.cell 1;have f1:=X.out.frozen 1;have hw1:IntKind.i64.wrap (1+(q:Int))=1+(q:Int):=by rw[IntKind.wrap_i64]<;>omega
    have X2:=qH (X.out.drew.set_ 1 (.int .u64 (256*(V:Int)+(c:Int))));have B2:=qH (B.out.drew.setCell (p:=⟨m,1,none⟩) (Nat.le_refl _) (.int .u64 (256*(V:Int)+(c:Int))));clear hV hc hbd;go_wp2_with fail;go_still_tail 10,(by kernel_rfl);change wpList _ _ _ _ _ wr.drew;go_wp2_with fail;go_roundw
    case rel=>exact⟨q+1,by omega,by go_num,by rw[HN.out];exact X2,B2⟩
    case measure=>simp[intOf];omega
   ·
    obtain rfl:q=8:=by omega
    obtain⟨N,hN⟩:∃ N,N=Sk.valF (b.extract 1 9) 8:=⟨_,rfl⟩;rw[←hN] at HPX X;obtain⟨K9,hK⟩:∃ k,k=b[9].toNat:=⟨_,rfl⟩;rw[←hK] at HPX HE;have h10':(10:Int)≤(b.size:Int):=by omega
    have hb9:9<b.size:=by omega
    have hb0:0<b.size:=by omega
    have hkk:=hK.symm;obtain⟨k1,e1⟩:∃ k,((K9:Int)==72)=k:=⟨_,rfl⟩;obtain⟨k2,e4⟩:∃ k,((K9:Int)==70)=k:=⟨_,rfl⟩;obtain⟨k3,e5⟩:∃ k,((K9:Int)==66)=k:=⟨_,rfl⟩;have HOK:Hid (Value.bool (k1||k2||k3) = .bool (okK K9)):=qH (by rw[←okK_int,e1,e4,e5]);have hsp:(k1=true)∨(k1=false∧k2=true)∨(k1=false∧k2=false∧k3=true)∨(k1=false∧k2=false∧k3=false):=by cases k1<;>cases k2<;>cases k3<;>simp
    have HSP:=qH hsp;clear hsp;clear hN hK HNA;have f0:=X.out.frozen 0;have f2:=X.out.frozen 2;have f3:=X.out.frozen 3;have e0:wr.cell? ⟨m,0,none⟩=some (.bool false):=X.out.cell 0;have e2:wr.cell? ⟨m,2,none⟩=some (.int .u8 0):=X.out.cell 2;have e3:wr.cell? ⟨m,3,none⟩=some (.string ⟨#[]⟩):=X.out.cell 3;have X2:=qH (((X.out.drew.set_ 0 (.bool true)).set_ 2 (.int .u8 (K9:Int))).set_ 3 (.string (b.extract 10 b.size)))
    have B2:=qH (((B.out.drew.setCell (p:=⟨m,0,none⟩) (Nat.le_refl _) (.bool true)).setCell (p:=⟨m,2,none⟩) (Nat.le_refl _) (.int .u8 (K9:Int))).setCell (p:=⟨m,3,none⟩) (Nat.le_refl _) (.string (b.extract 10 b.size)));go_wp2_with fail;go_region_held3 (fun _=>True) (trivial) (fail);clear e0 e2 e3 f0 f2 f3 X B
    all_goals
     change Exit.then _ _ _ _ (((wr.drew.setCell ⟨m,0,none⟩ _).setCell ⟨m,2,none⟩ _).setCell ⟨m,3,none⟩ _);generalize ((wr.drew.setCell ⟨m,0,none⟩ _).setCell ⟨m,2,none⟩ _).setCell ⟨m,3,none⟩ _=w2 at *;have X3:Hid (Blk w2 m 104 (pxC ⟨true,N,K9,b.extract 10 b.size⟩)):=X2;obtain⟨q0,q1,q2,q3,g0,g1,g2,g3⟩:=BX m _ X3.out;have X4:Hid (Blk ((((w2.setCell ⟨m,0,none⟩ (.bool true)).setCell ⟨m,1,none⟩ (.int .u64 (N:Int))).setCell ⟨m,2,none⟩ (.int .u8 (K9:Int))).setCell ⟨m,3,none⟩ (.string (b.extract 10 b.size))) m 104 (pxC ⟨true,N,K9,b.extract 10 b.size⟩)):=qH ((((X3.out.set_ 0 (.bool true)).set_ 1 (.int .u64 (N:Int))).set_ 2 (.int .u8 (K9:Int))).set_ 3 (.string (b.extract 10 b.size)))
     have B4:=qH ((((B2.out.setCell (p:=⟨m,0,none⟩) (Nat.le_refl _) (.bool true)).setCell (p:=⟨m,1,none⟩) (Nat.le_refl _) (.int .u64 (N:Int))).setCell (p:=⟨m,2,none⟩) (Nat.le_refl _) (.int .u8 (K9:Int))).setCell (p:=⟨m,3,none⟩) (Nat.le_refl _) (.string (b.extract 10 b.size)));clear X2 X3 B2 hkk;rcases HSP.out with rfl|⟨rfl,rfl⟩|⟨rfl,rfl,rfl⟩|⟨rfl,rfl,rfl⟩
     all_goals
      go_wp2_with fail;exact bodyPost_ret (results_px (a:=2) (b:=3) rfl _ _ m ⟨true,N,K9,b.extract 10 b.size⟩ (.bool (okK K9)) rfl HOK.out X4.out) rfl (HE.out _ HPX.out.symm _ B4.out)
 | false=>
  simp only[Bool.not_false] at d1;have d3:=D3.out rfl;clear D3;go_wp2_with fail;go_loopw [19] (fun i wr=>∃ q:Nat,q≤8∧i = .int .i64 q∧Hid (Blk wr m 104 (pxC ⟨false,Sk.valF (b.extract 1 9) q,0,⟨#[]⟩⟩))∧Hid (Below m w wr)) (fun i _=>8-(intOf i).toNat)
  case atStart=>exact⟨0,by omega,rfl,X,B⟩
  case round=>
   obtain⟨q,hq,rfl,X,B⟩:=hrel
   by_cases hlt:q<8
   ·
    have hbd:Sk.valF (b.extract 1 9) q≤72057594037927935:=by
     have:=Sk.valF_lt (b.extract 1 9) q
     have:(256:Nat) ^ q≤256 ^ 7:=Nat.pow_le_pow_right (by omega) (by omega)
     omega
    obtain⟨c,hc⟩:∃ c,c=(b[1+q]'(by omega)).toNat:=⟨_,rfl⟩;have hcl:c<256:=by rw[hc];exact UInt8.toNat_lt _
    have hix:∀ W,(Instr.index 9 (.string b) (.int .i64 (1+(q:Int)))).run Tryz.prog W = .ok (.int .u8 (c:Int)) W:=by rw[hc];exact idx_at b _ (1+q) (by omega) (by omega)
    have HN:=qH (HNA.out q hlt);rw[←hc] at HN;obtain⟨V,hV⟩:∃ V,V=Sk.valF (b.extract 1 9) q:=⟨_,rfl⟩;rw[←hV] at HN X hbd;have hor:=Sk.or_next V c hbd hcl;have hw2:IntKind.u64.wrap ((V:Int)*256)=(V:Int)*256:=by rw[IntKind.wrap_u64];omega
    have c1:wr.cell? ⟨m,1,none⟩=some (.int .u64 (V:Int)):=X.out.cell 1;have f1:=X.out.frozen 1;have hw1:IntKind.i64.wrap (1+(q:Int))=1+(q:Int):=by rw[IntKind.wrap_i64]<;>omega
    have X2:=qH (X.out.drew.set_ 1 (.int .u64 (256*(V:Int)+(c:Int))));have B2:=qH (B.out.drew.setCell (p:=⟨m,1,none⟩) (Nat.le_refl _) (.int .u64 (256*(V:Int)+(c:Int))));clear hV hc hbd;go_wp2_with fail;go_still_tail 10,(by kernel_rfl);change wpList _ _ _ _ _ wr.drew;go_wp2_with fail;go_roundw
    case rel=>exact⟨q+1,by omega,by go_num,by rw[HN.out];exact X2,B2⟩
    case measure=>simp[intOf];omega
   ·
    obtain rfl:q=8:=by omega
    obtain⟨N,hN⟩:∃ N,N=Sk.valF (b.extract 1 9) 8:=⟨_,rfl⟩;rw[←hN] at HPX X;obtain⟨K9,hK⟩:∃ k,k=b[9].toNat:=⟨_,rfl⟩;rw[←hK] at HPX HE;have h10':(10:Int)≤(b.size:Int):=by omega
    have hb9:9<b.size:=by omega
    have hb0:0<b.size:=by omega
    have hkk:=hK.symm;obtain⟨k1,e1⟩:∃ k,((K9:Int)==72)=k:=⟨_,rfl⟩;obtain⟨k2,e4⟩:∃ k,((K9:Int)==70)=k:=⟨_,rfl⟩;obtain⟨k3,e5⟩:∃ k,((K9:Int)==66)=k:=⟨_,rfl⟩;have HOK:Hid (Value.bool (k1||k2||k3) = .bool (okK K9)):=qH (by rw[←okK_int,e1,e4,e5]);have hsp:(k1=true)∨(k1=false∧k2=true)∨(k1=false∧k2=false∧k3=true)∨(k1=false∧k2=false∧k3=false):=by cases k1<;>cases k2<;>cases k3<;>simp
    have HSP:=qH hsp;clear hsp;clear hN hK HNA;have f0:=X.out.frozen 0;have f2:=X.out.frozen 2;have f3:=X.out.frozen 3;have e0:wr.cell? ⟨m,0,none⟩=some (.bool false):=X.out.cell 0;have e2:wr.cell? ⟨m,2,none⟩=some (.int .u8 0):=X.out.cell 2;have e3:wr.cell? ⟨m,3,none⟩=some (.string ⟨#[]⟩):=X.out.cell 3;have X2:=qH (((X.out.drew.set_ 0 (.bool false)).set_ 2 (.int .u8 (K9:Int))).set_ 3 (.string (b.extract 10 b.size)))
    have B2:=qH (((B.out.drew.setCell (p:=⟨m,0,none⟩) (Nat.le_refl _) (.bool false)).setCell (p:=⟨m,2,none⟩) (Nat.le_refl _) (.int .u8 (K9:Int))).setCell (p:=⟨m,3,none⟩) (Nat.le_refl _) (.string (b.extract 10 b.size)));go_wp2_with fail;go_region_held3 (fun _=>True) (trivial) (fail);clear e0 e2 e3 f0 f2 f3 X B
    all_goals
     change Exit.then _ _ _ _ (((wr.drew.setCell ⟨m,0,none⟩ _).setCell ⟨m,2,none⟩ _).setCell ⟨m,3,none⟩ _);generalize ((wr.drew.setCell ⟨m,0,none⟩ _).setCell ⟨m,2,none⟩ _).setCell ⟨m,3,none⟩ _=w2 at *;have X3:Hid (Blk w2 m 104 (pxC ⟨false,N,K9,b.extract 10 b.size⟩)):=X2;obtain⟨q0,q1,q2,q3,g0,g1,g2,g3⟩:=BX m _ X3.out;have X4:Hid (Blk ((((w2.setCell ⟨m,0,none⟩ (.bool false)).setCell ⟨m,1,none⟩ (.int .u64 (N:Int))).setCell ⟨m,2,none⟩ (.int .u8 (K9:Int))).setCell ⟨m,3,none⟩ (.string (b.extract 10 b.size))) m 104 (pxC ⟨false,N,K9,b.extract 10 b.size⟩)):=qH ((((X3.out.set_ 0 (.bool false)).set_ 1 (.int .u64 (N:Int))).set_ 2 (.int .u8 (K9:Int))).set_ 3 (.string (b.extract 10 b.size)))
     have B4:=qH ((((B2.out.setCell (p:=⟨m,0,none⟩) (Nat.le_refl _) (.bool false)).setCell (p:=⟨m,1,none⟩) (Nat.le_refl _) (.int .u64 (N:Int))).setCell (p:=⟨m,2,none⟩) (Nat.le_refl _) (.int .u8 (K9:Int))).setCell (p:=⟨m,3,none⟩) (Nat.le_refl _) (.string (b.extract 10 b.size)));clear X2 X3 B2 hkk;rcases HSP.out with rfl|⟨rfl,rfl⟩|⟨rfl,rfl,rfl⟩|⟨rfl,rfl,rfl⟩
     all_goals
      go_wp2_with fail;exact bodyPost_ret (results_px (a:=2) (b:=3) rfl _ _ m ⟨false,N,K9,b.extract 10 b.size⟩ (.bool (okK K9)) rfl HOK.out X4.out) rfl (HE.out _ HPX.out.symm _ B4.out)
end Go.Proofs.YtoaimoemaoinhaaGreatDoor
