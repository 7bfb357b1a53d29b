/- PeersX: a part of the proof. No condition beyond the premises of each theorem. -/
import Derived.Test.YtoaimoemaoinhaaGreatDoorQp21
import Derived.Test.YtoaimoemaoinhaaGreatDoorQp00
set_option maxRecDepth 100000
namespace Go.Proofs.YtoaimoemaoinhaaGreatDoor
open Go.RowKit Go.Rt Go.Rw
theorem results_dec {P:Program} {fn:Func} {a b:Tmp} {ty t:TypeId} (h:fn.results = #[.cell a ty,.tmp b]) (tmps:Array Value) (w:World) (g:Nat) (cs:Array Value) (d:TypeDesc) (v:Value) (hx:tmps.getD a undef = .pointer (some ⟨g,0,none⟩))
  (hv:tmps.getD b undef=v) (hc:Blk w g t cs) (hu:P.underlying ty=some d) (hd:d.isRow=true) (hi:(P.info? ty).map (·.size)=some cs.size):(results fn tmps).run P w = .ok (.tuple #[.agg cs,v]) w:=by
 have q1:=run_loadVar_mid (P:=P) w g 0 ty cs.toList d hc.range hu hd (by simpa using hi);rw[Array.getD_eq_getD_getElem?] at hx hv;simp[results,h,hx,hv,asAddr,q1]
def decR (b:ByteArray):Sg×Int:=match decS b with
 | none=>(zeroSg,6)
 | some s=>(s,0)
def decE (d:Option (Sg×ByteArray)):Sg×Int:=match d with
 | none=>(zeroSg,6)
 | some (s,r)=>if r.size=0∧validS s=true then (s,0) else (zeroSg,6)
theorem decR_nil {b:ByteArray} (h:b.size=0):decR b=(zeroSg,6):=by
 unfold decR decS;rw[if_pos h]
theorem decR_eq {b:ByteArray} (h:b.size≠0) (k:Int) (hk:k=(b.data[0]?.getD 0).toNat):decR b=decE (decL (usesF k) [0,1,2,3,4,5,6] { zeroSg with k:=k } (b.extract 1 b.size)):=by
 unfold decR decS decE;rw[if_neg h,←hk];dsimp only;cases decL (usesF k) [0,1,2,3,4,5,6] { zeroSg with k:=k } (b.extract 1 b.size) with
 | none=>rfl
 | some q=>
  obtain⟨s,r⟩:=q;dsimp only
  by_cases g:r.size=0∧validS s=true
  ·
   rw[if_pos g,if_pos g]
  ·
   rw[if_neg g,if_neg g]
def DecR (r:Sg×Int) (w:World) (e:Ending) (w':World):Prop:=
 Below w.heap.size w w'∧∃ x,e = .returned (.tuple #[sgV r.1 x,.int .i64 r.2])∧SgAt (fun c=>w.heap.size≤c) w' r.1 x
def from7 (i:Nat):List Nat:=[0,1,2,3,4,5,6].drop i
def zerSf : Sf:=⟨zerX,zerX,zerX,zerX⟩
theorem zero_sg (S:Nat→Prop) (w:World) (k:Int):SgAt S w { zeroSg with k:=k } zerSf:=⟨zer_at S w,zer_at S w,zer_at S w,zer_at S w⟩
theorem takeF_err (s:ByteArray):(takeF s).2.2=0∨(takeF s).2.2=6:=by
 unfold takeF;split
 ·
  exact .inr rfl
 ·
  split
  ·
   exact .inl rfl
  ·
   exact .inr rfl
theorem ok_of {t:Tm} (hv:validB t=true) (hf:fitT t):okT t:=by
 obtain⟨h1,h2⟩:=validB_iff hv
 have:=cnt_size t h1
 exact⟨hf,by omega⟩
theorem FitE.put7 {s:Sg} (h:FitE s) {t:Tm} (ht:okT t) (i:Nat):FitE (setF s t i):=by
 obtain⟨f,l⟩:=t;have hf:=ht.1;rw[fitT] at hf;have hn:f.nm.size≤200000:=hf.1.1.1;have hm : -9223372036854775808≤f.n∧f.n≤9223372036854775807:=by
  obtain⟨⟨_,_,hm,_⟩,_⟩:=hf;exact hm
 obtain⟨h1,h2,h3,h4,h5,h6,h7⟩:=h;unfold YtoaimoemaoinhaaGreatDoor.setF;split
 ·
  exact⟨ht,h2,h3,h4,h5,h6,h7⟩
 ·
  exact⟨h1,ht,h3,h4,h5,h6,h7⟩
 ·
  exact⟨h1,h2,h3,h4,hn,h6,h7⟩
 ·
  exact⟨h1,h2,h3,h4,h5,hn,h7⟩
 ·
  exact⟨h1,h2,ht,h4,h5,h6,h7⟩
 ·
  exact⟨h1,h2,h3,h4,h5,h6,hm⟩
 ·
  exact⟨h1,h2,h3,ht,h5,h6,h7⟩
theorem ok_zer : okT zerT:=by
 refine⟨?_,by unfold zerT;simp[cnt,cntL]⟩;unfold zerT;rw[fitT];refine⟨⟨⟨by decide,by decide,by decide⟩,?_,?_,?_,?_,?_⟩,trivial⟩
 all_goals
  unfold zeroFl;dsimp only;omega
theorem fit_zero (k:Int):FitE { zeroSg with k:=k }:=⟨ok_zer,ok_zer,ok_zer,ok_zer,by show (0:Nat)≤200000;omega,by show (0:Nat)≤200000;omega,by unfold zeroSg;dsimp only;omega⟩
theorem SgAt.onlyB {S:Nat→Prop} {w w':World} {s:Sg} {x:Sf} {L:List Nat} (h:SgAt S w s x) (ho:Only L w w') (hn:∀ b,S b→b<w.heap.size→b∉L):SgAt S w' s x:=
 ⟨h.fr.only ho hn,h.tt.only ho hn,h.ref.only ho hn,h.val.only ho hn⟩
theorem sgC_one {S:Nat→Prop} {w:World} {s:Sg} {x:Sf} (h:SgAt S w s x):(sgC s x).toArray.all (·.oneCell')=true:=by
 obtain⟨_,sa,ca,ea⟩:=h.fr.its.2.form;obtain⟨_,sb,cb,eb⟩:=h.tt.its.2.form;obtain⟨_,sc,cc,ec⟩:=h.ref.its.2.form;obtain⟨_,sd,cd,ed⟩:=h.val.its.2.form;simp[sgC,ftC,ea,eb,ec,ed,Value.oneCell']
theorem sgC_zero {s:Sg} {x:Sf} : (sgC s x).toArray[0]? = some (.int .i64 s.k):=rfl
theorem slice_ge {b:ByteArray} {n:Nat} (_:n≤b.size):(b.extract n b.size).size=b.size-n:=by simp
theorem set_at {S:Nat→Prop} {w:World} {s:Sg} {x:Sf} {t:Tm} {y:Ft} {i:Nat} (hi:i<7) (h:SgAt S w s x) (hy:TmAt S w t y):SgAt S w (setF s t i) (setX x y i):=by
 rcases seven hi with rfl|rfl|rfl|rfl|rfl|rfl|rfl
 ·
  exact⟨hy,h.tt,h.ref,h.val⟩
 ·
  exact⟨h.fr,hy,h.ref,h.val⟩
 ·
  exact⟨h.fr,h.tt,h.ref,h.val⟩
 ·
  exact⟨h.fr,h.tt,h.ref,h.val⟩
 ·
  exact⟨h.fr,h.tt,hy,h.val⟩
 ·
  exact⟨h.fr,h.tt,h.ref,h.val⟩
 ·
  exact⟨h.fr,h.tt,h.ref,hy⟩
theorem setF_kk (s:Sg) (t:Tm) (i:Nat):(setF s t i).k=s.k:=by unfold setF;split<;>rfl
theorem from7_cons {i:Nat} (hi:i<7):from7 i=i::from7 (i+1):=by
 rcases seven hi with rfl|rfl|rfl|rfl|rfl|rfl|rfl<;>rfl
set_option maxHeartbeats 8000000 in
theorem pdecode10 (b:ByteArray) (hbs:b.size≤200000) (w:World):Calls Tryz.prog 27 #[.string b] w (DecR (decR b) w):=by
 obtain⟨DR,hDR⟩:∃ q,q=decR b:=⟨_,rfl⟩;rw[←hDR];have HM:Hid (w.heap.size=w.heap.size):=qH rfl;obtain⟨m,hm⟩:∃ q,q=w.heap.size:=⟨_,rfl⟩;replace HM:=qH hm;have R:=qH (Blk.new w 50 zG);have B:=qH ((Below.refl w.heap.size w).alloc (Nat.le_refl _) (.cells zG 50));rw[←hm] at R B;have HTR:Hid (∀ W W',Below m w W→Below W.heap.size W W'→Below m w W'):=qH (fun W W' h1 h2=>h1.trans (h2.mono (by have:=h1.size;have:=HM.out;omega)))
 go_enter Tryz.func27,Tryz.ntmps27;go_upto_region 1 with fail
 rw[←hm];generalize w.alloc (.cells zG 50)=w1 at R B ⊢;clear hm
 by_cases h0:b.size=0
 ·
  have HDR:Hid (DR=(zeroSg,6)):=qH (by rw[hDR];exact decR_nil h0);obtain rfl:b=⟨#[]⟩:=by
   apply ByteArray.ext;exact Array.eq_empty_of_size_eq_zero h0
  clear hDR h0 hbs;go_wp2_with (refine wpList_store_blk rfl 50 _ _ rfl rfl m zG _ 50 rfl rfl R.out rfl info26 (by simp[Value.oneCell']) ?_;intro vz bz oz);have BZ:=qH (B.out.trans (oz.below (n:=m) (by simp) (by have:=B.out.size;have:=HM.out;omega)));exact bodyPost_ret (results_dec (a:=2) (b:=3) rfl _ _ m _ _ _ rfl rfl bz Tryz.underlying50 rfl info26) rfl (by rw[HDR.out];exact⟨by rw[←HM.out];exact BZ.out,zerSf,rfl,zero_sg _ _ 0⟩)
 ·
  obtain⟨k,hk⟩:∃ q,q=((b.data[0]?.getD 0).toNat:Int):=⟨_,rfl⟩;have hdr:=decR_eq h0 k hk;rw[←hDR] at hdr;have HDE:=qH hdr;have hix:b.data[0]? = some (b.data[0]?.getD 0):=by
   cases hq:b.data[0]? with
   | none=>exact absurd (by simpa using hq) (by simpa using h0)
   | some q=>rfl
  have hbe:b.toList.isEmpty=false:=isEmpty_no h0;have hu8:((b.data[0]?.getD 0).toNat:Int)<256:=by have:=(b.data[0]?.getD 0).toNat_lt;omega
  clear hDR hdr;have hlt:0<b.size:=by omega
  have hwr:wrap64 (((b[0]'hlt).toNat:Nat):Int)=k:=by
   have e:b[0]'hlt=b.data[0]?.getD 0:=by
    show b.data[0]=_;rw[Array.getElem?_eq_getElem hlt];rfl
   rw[e,←hk];unfold wrap64;omega
  have hki : -9223372036854775808≤k∧k≤9223372036854775807:=by omega
  clear hix hk hu8;obtain⟨ms,hms⟩:∃ q,q=w1.heap.size:=⟨_,rfl⟩;have hmm:m<ms:=by rw[hms];exact R.out.lt
  replace R:=qH (R.out.alloc (.cells zG 50));have O0:=qH (Only.alloc [ms] w1 (.cells zG 50));have HMS:=qH hms;have X0:=qH (Blk.new w1 50 zG);rw[←hms] at X0;go_upto_region 4 with (rw[←hms];refine wpList_store_blk rfl 50 _ _ rfl rfl ms #[.int .i64 k,.int .i64 0,.int .i64 0,.int .i64 0,.string ⟨#[]⟩,.string ⟨#[]⟩,.int .i64 0,.slice none 0 0,.string ⟨#[]⟩,.int .i64 0,.int .i64 0,.int .i64 0,.int .i64 0,.string ⟨#[]⟩,.string ⟨#[]⟩,.int .i64 0,.slice none 0 0,.string ⟨#[]⟩,.int .i64 0,.string ⟨#[]⟩,.string ⟨#[]⟩,.int .i64 0,.int .i64 0,.int .i64 0,.string ⟨#[]⟩,.string ⟨#[]⟩,.int .i64 0,.slice none 0 0,.string ⟨#[]⟩,.int .i64 0,.int .i64 0,.int .i64 0,.int .i64 0,.int .i64 0,.string ⟨#[]⟩,.string ⟨#[]⟩,.int .i64 0,.slice none 0 0,.string ⟨#[]⟩,.int .i64 0] _ 50 rfl rfl X0.out rfl info26 (by simp[Value.oneCell']) ?_;intro w2 b2 o2)
  have BV:=qH (show Below ms w1 w2 from(O0.out.trans o2).below (by simp) (by rw[HMS.out];exact Nat.le_refl _));replace R:=qH (R.out.only o2 (by simp;omega));replace B:=qH (HTR.out _ _ B.out (by rw[←HMS.out];exact BV.out));have X:=qH (show Blk w2 ms 50 (sgC { zeroSg with k:=k } zerSf).toArray from b2);have G:=qH (zero_sg (fun c=>ms<c) w2 k);have HKI:=qH hki;obtain⟨u,hu⟩:∃ u,u=usesF k:=⟨_,rfl⟩;have HUS:=qH hu
  have CU:=qH (fun(W:World)=>uses21 k W);rw[←hu] at CU;have HDE2:Hid (DR=decE (decL u (from7 0) { zeroSg with k:=k } (b.extract 1 b.size))):=qH (by rw[HDE.out,←HUS.out];rfl);have hrs:(b.extract 1 b.size).size≤200000:=by rw[slice_ge (by omega)];omega
  clear HDE b2 o2 O0 X0 BV hu hwr hki;have CF:=qH (fields20 w2);go_wp2_with fail;refine CF.out.mono ?_;rintro e w4 ⟨rfl,hw4⟩;obtain⟨mf,hmf⟩:∃ q,q=w2.heap.size:=⟨_,rfl⟩;have hmf2:ms<mf:=by rw[hmf];exact X.out.lt
  have Fk:=qH (Blk.new w2 131 fldC);replace X:=qH (X.out.alloc (.cells fldC 131));replace R:=qH (R.out.alloc (.cells fldC 131));replace G:=qH (G.out.below ((Below.refl w2.heap.size w2).alloc (Nat.le_refl _) (.cells fldC 131)) (fun _ _ h=>h));replace B:=qH (HTR.out _ _ B.out ((Below.refl w2.heap.size w2).alloc (Nat.le_refl _) (.cells fldC 131)));rw[←hw4] at X R G B Fk;rw[←hmf] at Fk ⊢;clear hw4 hmf CF
  have HF0:=qH (fit_zero k);have HK0:Hid ({ zeroSg with k:=k:Sg }.k=k):=qH rfl;obtain⟨S0,hS0⟩:∃ q,q = { zeroSg with k:=k }:=⟨_,rfl⟩;rw[←hS0] at HF0 HK0 G X HDE2;clear hS0;obtain⟨REST0,hR0⟩:∃ q,q=b.extract 1 b.size:=⟨_,rfl⟩;rw[←hR0] at hrs HDE2 ⊢;rw[←hms];clear hR0 hms hbe h0 hbs;go_wp2_with fail;go_loopw [0,21] (fun z0 z wr=>∃ (i:Nat) (s:Sg) (x:Sf) (REST:ByteArray),i≤7∧z = .int .i64 (i:Int)∧z0 = .string REST∧REST.size≤200000∧Hid (DR=decE (decL u (from7 i) s REST))∧Hid (s.k=k)∧Hid (FitE s)∧Hid (Blk wr m 50 zG)∧Hid (Blk wr ms 50 (sgC s x).toArray)∧Hid (Blk wr mf 131 fldC)∧Hid (Below m w wr)∧Hid (SgAt (fun c=>ms<c) wr s x)) (fun _ z _=>7-(intOf z).toNat)
  case atStart=>exact⟨0,S0,zerSf,REST0,by omega,rfl,rfl,hrs,HDE2,HK0,HF0,R,X,Fk,B,G⟩
  case round=>
   obtain⟨i,s,x,REST,hi,rfl,rfl,hrs1,HD,HK,HF,R1,X1,F1,B1,G1⟩:=hrel;clear X Fk B HDE2 HK0 HF0 R G hrs;have hrs:=hrs1;clear hrs1
   by_cases h7:i=7
   ·
    subst h7
    by_cases hr0:REST.size=0
    ·
     have HSZ:Hid ((sgC s x).toArray.size=40):=qH rfl;have HOC:=qH (sgC_one G1.out);have CV:=qH (pvalid19 _ s x wr G1.out HF.out.fit);unfold sgV at CV;obtain⟨vb,hvb⟩:∃ q,q=validS s:=⟨_,rfl⟩;rw[←hvb] at CV;have HVB:=qH hvb;have HDR:Hid (DR=if vb=true then (s,0) else (zeroSg,6)):=qH (by
      rw[HD.out,hvb];show (if REST.size=0∧validS s=true then _ else _)=_
      by_cases hv:validS s=true
      ·
       rw[if_pos ⟨hr0,hv⟩,if_pos hv]
      ·
       rw[if_neg (fun h=>hv h.2),if_neg hv])
     obtain rfl:REST=⟨#[]⟩:=by
      apply ByteArray.ext;exact Array.eq_empty_of_size_eq_zero hr0
     obtain⟨CS,hCS⟩:∃ q,q=(sgC s x).toArray:=⟨_,rfl⟩;have HCS:=qH hCS;rw[←hCS] at CV HSZ X1 HOC;clear HD hvb hr0 hrs hCS;go_wp2_with (refine wpList_load_blkG rfl 50 _ rfl ms rfl _ 50 _ X1.out Tryz.underlying50 rfl (by rw[HSZ.out];exact info26) ?_);refine CV.out.mono ?_;rintro e w5 ⟨rfl,b5⟩;have R2:=qH (R1.out.below b5 R1.out.lt);have X2:=qH (X1.out.below b5 X1.out.lt);have B2:=qH (HTR.out _ _ B1.out b5)
     have G2:=qH (G1.out.below b5 (fun _ _ h=>h));clear b5 R1 X1 B1 G1 F1 CV;cases vb with
     | false=>
      replace HDR:Hid (DR=(zeroSg,6)):=qH HDR.out;go_wp2_with (refine wpList_store_blk rfl 50 _ _ rfl rfl m zG _ 50 rfl rfl R2.out rfl info26 (by simp[Value.oneCell']) ?_;intro vz bz oz);have BZ:=qH (B2.out.trans (oz.below (n:=m) (by simp) (by have:=B2.out.size;have:=HM.out;omega)));exact bodyPost_ret (results_dec (a:=2) (b:=3) rfl _ _ m _ _ _ rfl rfl bz Tryz.underlying50 rfl info26) rfl (by rw[HDR.out];exact⟨by rw[←HM.out];exact BZ.out,zerSf,rfl,zero_sg _ _ 0⟩)
     | true=>
      replace HDR:Hid (DR=(s,0)):=qH HDR.out;have hmsm:=hmm;go_wp2_with (first|refine wpList_load_blk rfl 50 _ rfl ms rfl _ 50 _ X2.out Tryz.underlying50 rfl (by rw[HSZ.out];exact info26) ?_|(refine wpList_store_blk rfl 50 _ _ rfl rfl m CS _ 50 rfl rfl R2.out (by rw[HSZ.out];rfl) (by rw[HSZ.out];exact info26) HOC.out ?_;intro vz bz oz));have BZ:=qH (B2.out.trans (oz.below (n:=m) (by simp) (by have:=B2.out.size;have:=HM.out;omega)))
      exact bodyPost_ret (results_dec (a:=2) (b:=3) rfl _ _ m _ _ _ rfl rfl bz Tryz.underlying50 rfl (by rw[HSZ.out];exact info26)) rfl (by rw[HDR.out];exact⟨by rw[←HM.out];exact BZ.out,x,by rw[HCS.out];rfl,((G2.out.onlyB oz (fun b hb _=>by simp;omega)).mono (fun b hb _=>by have:=HM.out;omega))⟩)
    ·
     have HDR:Hid (DR=(zeroSg,6)):=qH (by
      rw[HD.out];show (if REST.size=0∧validS s=true then _ else _)=_;rw[if_neg (fun h=>hr0 h.1)])
     have hre:=isEmpty_no hr0;clear HD hr0;go_wp2_with (refine wpList_store_blk rfl 50 _ _ rfl rfl m zG _ 50 rfl rfl R1.out rfl info26 (by simp[Value.oneCell']) ?_;intro vz bz oz);have BZ:=qH (B1.out.trans (oz.below (n:=m) (by simp) (by have:=B1.out.size;have:=HM.out;omega)));exact bodyPost_ret (results_dec (a:=2) (b:=3) rfl _ _ m _ _ _ rfl rfl bz Tryz.underlying50 rfl info26) rfl (by rw[HDR.out];exact⟨by rw[←HM.out];exact BZ.out,zerSf,rfl,zero_sg _ _ 0⟩)
   ·
    have hlt7:i<7:=by omega
    obtain⟨g0,g1,g2,g3⟩:=fld_cells hlt7;have f0:=(F1.out.cell (i*4)).trans g0;have f1:=(F1.out.cell (i*4+1)).trans g1;have f2:=(F1.out.cell (i*4+2)).trans g2;have f3:=(F1.out.cell (i*4+3)).trans g3;have eS:=set_enter hlt7;have CSET:=qH (fun(s:Sg) (x:Sf) (t:Tm) (y:Ft) (B:Nat) (w:World) hb hy hf=>set_any hlt7 s x (t:=t) y B w hb hy hf);have HSAT:=qH (fun(w:World) (s:Sg) (x:Sf) (t:Tm) (y:Ft) (h:SgAt (fun c=>ms<c) w s x) (hy:TmAt (fun c=>ms<c) w t y)=>set_at hlt7 h hy)
    have HUB:Hid (hasU u i = !(bits BinOp.and IntKind.i64 u (fldB i)==0)):=qH rfl;have HF7:=qH (from7_cons hlt7);obtain⟨bit,hbit⟩:∃ q,q=fldB i:=⟨_,rfl⟩;obtain⟨kd,hkd⟩:∃ q,q=fldK i:=⟨_,rfl⟩;obtain⟨gf,hgf⟩:∃ q,q=getN i:=⟨_,rfl⟩;obtain⟨sf,hsf⟩:∃ q,q=setN i:=⟨_,rfl⟩;rw[←hbit] at f0 HUB;rw[←hkd] at f1;rw[←hgf] at f2;rw[←hsf] at f3 eS CSET;have HKD:Hid (fldK i=kd):=qH hkd.symm;clear g0 g1 g2 g3 hbit hkd hgf hsf
    obtain⟨z,hz⟩:∃ q,q=wr.heap.size:=⟨_,rfl⟩;have HZ:=qH hz;have hzx:ms<z:=by rw[hz];exact X1.out.lt
    have hzr:m<z:=by rw[hz];exact R1.out.lt
    have hzf:mf<z:=by rw[hz];exact F1.out.lt
    have X0:=qH (Blk.new wr 131 #[.int .i64 0,.int .i64 0,.nilFunc,.nilFunc]);have O0:=qH (Only.alloc [z] wr (.cells #[.int .i64 0,.int .i64 0,.nilFunc,.nilFunc] 131));rw[←hz] at X0;go_upto_region 8 with (rw[←hz];refine wpList_store_blk rfl 131 _ _ rfl rfl z #[.int .i64 bit,.int .i64 kd,.func (.func gf) #[] #[],.func (.func sf) #[] #[]] _ 131 rfl rfl X0.out rfl info54 (by simp[Value.oneCell']) ?_;intro v1 b1 o1)
    have BV:=qH (show Below z wr v1 from(O0.out.trans o1).below (by simp) (by rw[HZ.out];exact Nat.le_refl _));have R2:=qH (R1.out.below BV.out hzr);have X2:=qH (X1.out.below BV.out hzx);have F2:=qH (F1.out.below BV.out hzf);have B2:=qH (HTR.out _ _ B1.out (by rw[←HZ.out];exact BV.out));have G2:=qH (G1.out.below BV.out (fun b _ h=>by rw[HZ.out];exact h));have T2:=qH b1;clear f0 f1 f2 f3 X0 O0 b1 o1 R1 X1 F1 B1 G1 BV hz
    refine wp_region_held_drew (S:=(fun w'=>Blk w' ms 50 (sgC s x).toArray∧Blk w' z 131 #[.int .i64 bit,.int .i64 kd,.func (.func gf) #[] #[],.func (.func sf) #[] #[]])) (by kernel_rfl) (⟨X2.out.drew,T2.out.drew⟩) (fun hS=>?_);have F3:=qH F2.out.drew;have R3:=qH R2.out.drew;have B3:=qH B2.out.drew;have X3:=qH X2.out.drew;have T3:=qH T2.out.drew;have G3:=qH (G2.out.below ((Below.refl v1.heap.size v1).drew) (fun _ _ h=>h))
    clear X2 T2 F2 B2 R2 G2;generalize v1.drew=w0 at *;refine tl 0 25 (v:=?_) rfl ?_ ?_;rotate_left
    ·
     intro w hSw;go_simp
     with_reducible rfl
    simp only[PU];refine tl 1 26 (v:=?_) rfl ?_ ?_;rotate_left
    ·
     intro w hSw;have cc:=(hSw.1.cell 0).trans (sgC_zero (s:=s) (x:=x));go_simp
     with_reducible rfl
    simp only[PU];refine tl 3 28 (v:=?_) rfl ?_ ?_;rotate_left
    ·
     intro w hSw;go_simp
     with_reducible rfl
    simp only[PU];refine tl 4 29 (v:=?_) rfl ?_ ?_;rotate_left
    ·
     intro w hSw;have cc:=hSw.2.cell 0;simp only[List.getElem?_toArray,List.getElem?_cons_zero] at cc;go_simp
     with_reducible rfl
    simp only[PU];refine wpAnyH_ready (rs:=[2]) (by kernel_rfl) (by simp) ?_;refine AllReadyH.cons rfl (fun K hK=>?_) AllReadyH.nil;rw[HK.out];go_simp;refine(CU.out w0).mono ?_;rintro e w5 ⟨rfl,b5⟩;have F2:=qH (F3.out.below b5 F3.out.lt);have R2:=qH (R3.out.below b5 R3.out.lt);have B2:=qH (HTR.out _ _ B3.out b5);have X2:=qH (X3.out.below b5 X3.out.lt);have T2:=qH (T3.out.below b5 T3.out.lt);have G2:=qH (G3.out.below b5 (fun b _ h=>h))
    clear b5 F3 B3 X3 T3 R3 G3;go_wp2_with fail;refine hK.out _ _ (⟨X2.out,T2.out⟩) (fun hS=>?_);clear hK K
    try simp only[PU]
    obtain⟨hb,hhb⟩:∃ q,q=(bits BinOp.and IntKind.i64 u bit==0):=⟨_,rfl⟩;have hbe:(bits BinOp.and IntKind.i64 u bit==0)=hb:=by rw[hhb]
    have HU:Hid (hasU u i = !hb):=qH (by rw[HUB.out,hhb]);clear hhb;refine tl 5 30 (v:=?_) rfl ?_ ?_;rotate_left
    ·
     intro w hSw;go_simp
     with_reducible rfl
    simp only[PU];refine tl 6 31 (v:=?_) rfl ?_ ?_;rotate_left
    ·
     intro w hSw;go_simp
     with_reducible rfl
    simp only[PU];refine wpAnyH_done (by kernel_rfl) ?_ _;cases hb with
    | true=>
     have HD2:Hid (DR=decE (decL u (from7 (i+1)) s REST)):=qH (by rw[HD.out,HF7.out,decL_no (from7 (i+1)) s REST HU.out]);clear HD;go_wp2_with fail;go_roundw
     case rel=>exact⟨i+1,s,x,REST,by omega,by go_num,rfl,by omega,HD2,HK,HF,R2,X2,F2,B2,G2⟩
     case measure=>simp[intOf];omega
    | false=>
     have CT:=qH (take_any' REST hrs w5);obtain⟨ft,hft⟩:∃ q,q=takeF REST:=⟨_,rfl⟩;have HER:=takeF_err REST;have HSN:=qH (fun h=>takeF_snd (s:=REST) hrs h);have HBAD:=qH (fun h=>decL_bad (i:=i) (from7 (i+1)) s REST HU.out h);have HYES:=qH (fun h=>decL_yes (i:=i) (from7 (i+1)) s REST HU.out h);rw[←hft] at CT HER HSN HBAD HYES;rw[HKD.out] at HBAD HYES;obtain⟨t,n,er⟩:=ft;dsimp only at HER;clear hft;go_wp2_with fail
     refine CT.out.mono ?_;rintro e v2 ⟨b2,y,rfl,ty⟩;dsimp only at ty;obtain⟨_,sy,cy,vy⟩:=ty.its.2.form;obtain⟨yf,yv⟩:=y;dsimp only at vy;subst vy;have HYF:Hid (yf=t.f):=qH ty.its.1;obtain⟨ly,hly⟩:∃ l,l=t.l.length:=⟨_,rfl⟩;rw[←hly] at ty ⊢;clear hly;replace R2:=qH (R2.out.below b2 R2.out.lt);have T3:=qH ((ty.mono (S':=fun c=>ms<c) (fun b hb _=>Nat.lt_of_lt_of_le X2.out.lt hb)));replace F2:=qH (F2.out.below b2 F2.out.lt)
     replace T2:=qH (T2.out.below b2 T2.out.lt);replace B2:=qH (HTR.out _ _ B2.out b2);replace G2:=qH (G2.out.below b2 (fun b _ h=>h));replace X2:=qH (X2.out.below b2 X2.out.lt);clear b2 ty CT;unfold ftV;dsimp only;obtain⟨q,hq⟩:∃ q,q=v2.heap.size:=⟨_,rfl⟩;have HQ:=qH hq;have hqx:ms<q:=by rw[hq];exact X2.out.lt
     have hqr:m<q:=by rw[hq];exact R2.out.lt
     have hqf:mf<q:=by rw[hq];exact F2.out.lt
     have hqz:z<q:=by rw[hq];exact T2.out.lt
     have X0:=qH (Blk.new v2 48 zT);have O0:=qH (Only.alloc [q] v2 (.cells zT 48));rw[←hq] at X0;go_upto_region 10 with (rw[←hq];refine wpList_store_blk rfl 48 _ _ rfl rfl q #[.int .i64 yf.k,.int .i64 yf.n,.int .i64 yf.g,.string yf.nm,.string yf.fn,.int .i64 yf.ar,.slice sy ly cy,.string yf.bs,.int .i64 yf.bt] _ 48 rfl rfl X0.out rfl info25 (by simp[Value.oneCell']) ?_;intro v3 b3 o3)
     have BV:=qH (show Below q v2 v3 from(O0.out.trans o3).below (by simp) (by rw[HQ.out];exact Nat.le_refl _));replace R2:=qH (R2.out.below BV.out hqr);replace X2:=qH (X2.out.below BV.out hqx);replace F2:=qH (F2.out.below BV.out hqf);replace T2:=qH (T2.out.below BV.out hqz);replace T3:=qH (T3.out.below BV.out (fun b _ h=>by rw[HQ.out];exact h));replace G2:=qH (G2.out.below BV.out (fun b _ h=>by rw[HQ.out];exact h))
     replace B2:=qH (HTR.out _ _ B2.out (by rw[←HQ.out];exact BV.out));have P2:=qH b3;clear BV b3 o3 O0 X0 hq;have c1:=T2.out.cell 1;have c3:=T2.out.cell 3;have d0:=P2.out.cell 0;simp only[List.getElem?_toArray,List.getElem?_cons_zero,List.getElem?_cons_succ] at c1 c3 d0;rcases HER with rfl|rfl
     ·
      obtain⟨hv,hft,hm,hn⟩:=HSN.out rfl
      try dsimp only at hv hft hm hn
      have hnl:n≤REST.size:=by
       obtain⟨mm,hmm⟩:=hm;rw[hn,size_list,hmm,List.length_append];omega
      have HN:=qH (ok_of hv hft);clear hv hft hm hn HSN
      by_cases hk0:kd=0
      ·
       subst hk0;have HD2:Hid (DR=decE (decL u (from7 (i+1)) (setF s t i) (REST.extract n REST.size))):=qH (by rw[HD.out,HF7.out,HYES.out (by rintro(h|⟨h,_⟩)<;>exact h rfl)]);have hrs2:(REST.extract n REST.size).size≤200000:=by rw[slice_ge hnl];omega
       have HK2:Hid ((setF s t i).k=k):=qH ((setF_kk s t i).trans HK.out);have HF2:=qH (HF.out.put7 HN.out i);clear HD HYES HBAD HF HK;have CS1:=qH (CSET.out s x t ⟨yf,.slice sy ly cy⟩ ms v3 X2.out ⟨_,_,_,rfl⟩ HYF.out);unfold ftV at CS1;dsimp only at CS1;go_wp2_with (refine wpList_load_blk rfl 48 _ rfl q rfl _ 48 _ P2.out Tryz.underlying48 rfl info25 ?_);refine CS1.out.mono ?_;rintro e v5 ⟨rfl,y5,o5⟩
       have X3:=qH y5;have R3:=qH (R2.out.only o5 (by simp;omega));have F3:=qH (F2.out.only o5 (by simp;omega));have B3:=qH (B2.out.trans (o5.below (n:=m) (by simp;omega) (by have:=B2.out.size;have:=HM.out;omega)));have G3:=qH (HSAT.out _ _ _ _ _ (G2.out.onlyB o5 (fun b hb _=>by simp;omega)) (T3.out.only o5 (fun b hb _=>by simp;omega)));clear y5 o5 CS1 X2 R2 F2 B2 G2 T3 P2 T2 c1 c3 d0;go_wp2_with fail
       go_roundw
       case rel=>exact⟨i+1,_,_,_,by omega,by go_num,rfl,hrs2,HD2,HK2,HF2,R3,X3,F3,B3,G3⟩
       case measure=>simp[intOf];omega
      ·
       have ek0:(kd != 0)=true:=i64n _ _ hk0
       by_cases hk:yf.k=kd
       ·
        rw[hk] at d0;have HYK:Hid (t.f.k=kd):=qH (by rw[←HYF.out];exact hk);clear hk;have HD2:Hid (DR=decE (decL u (from7 (i+1)) (setF s t i) (REST.extract n REST.size))):=qH (by rw[HD.out,HF7.out,HYES.out (by rintro(h|⟨_,h⟩);exact h rfl;exact h HYK.out)]);have hrs2:(REST.extract n REST.size).size≤200000:=by rw[slice_ge hnl];omega
        have HK2:Hid ((setF s t i).k=k):=qH ((setF_kk s t i).trans HK.out);have HF2:=qH (HF.out.put7 HN.out i);clear HD HYES HBAD HF HK;have CS1:=qH (CSET.out s x t ⟨yf,.slice sy ly cy⟩ ms v3 X2.out ⟨_,_,_,rfl⟩ HYF.out);unfold ftV at CS1;dsimp only at CS1;go_wp2_with (refine wpList_load_blk rfl 48 _ rfl q rfl _ 48 _ P2.out Tryz.underlying48 rfl info25 ?_);refine CS1.out.mono ?_;rintro e v5 ⟨rfl,y5,o5⟩
        have X3:=qH y5;have R3:=qH (R2.out.only o5 (by simp;omega));have F3:=qH (F2.out.only o5 (by simp;omega));have B3:=qH (B2.out.trans (o5.below (n:=m) (by simp;omega) (by have:=B2.out.size;have:=HM.out;omega)));have G3:=qH (HSAT.out _ _ _ _ _ (G2.out.onlyB o5 (fun b hb _=>by simp;omega)) (T3.out.only o5 (fun b hb _=>by simp;omega)));clear y5 o5 CS1 X2 R2 F2 B2 G2 T3 P2 T2 c1 c3 d0;go_wp2_with fail
        go_roundw
        case rel=>exact⟨i+1,_,_,_,by omega,by go_num,rfl,hrs2,HD2,HK2,HF2,R3,X3,F3,B3,G3⟩
        case measure=>simp[intOf];omega
       ·
        have ek:(yf.k != kd)=true:=i64n _ _ hk;have HDR:Hid (DR=(zeroSg,6)):=qH (by rw[HD.out,HF7.out,HBAD.out (.inr ⟨hk0,by show ¬t.f.k=kd;rw[←HYF.out];exact hk⟩)];rfl);clear HD HYES HBAD hk hk0;go_wp2_with (refine wpList_store_blk rfl 50 _ _ rfl rfl m zG _ 50 rfl rfl R2.out rfl info26 (by simp[Value.oneCell']) ?_;intro vz bz oz);have BZ:=qH (B2.out.trans (oz.below (n:=m) (by simp) (by have:=B2.out.size;have:=HM.out;omega)))
        exact bodyPost_ret (results_dec (a:=2) (b:=3) rfl _ _ m _ _ _ rfl rfl bz Tryz.underlying50 rfl info26) rfl (by rw[HDR.out];exact⟨by rw[←HM.out];exact BZ.out,zerSf,rfl,zero_sg _ _ 0⟩)
     ·
      have HDR:Hid (DR=(zeroSg,6)):=qH (by rw[HD.out,HF7.out,HBAD.out (.inl (by show (6:Int)≠0;decide))];rfl);clear HD HYES HBAD HSN T3 c1 c3 d0 T2 P2 X2 F2 G2;go_upto_region 11 with fail
      go_wp2_with (refine wpList_store_blk rfl 50 _ _ rfl rfl m zG _ 50 rfl rfl R2.out rfl info26 (by simp[Value.oneCell']) ?_;intro vz bz oz);have BZ:=qH (B2.out.trans (oz.below (n:=m) (by simp) (by have:=B2.out.size;have:=HM.out;omega)));exact bodyPost_ret (results_dec (a:=2) (b:=3) rfl _ _ m _ _ _ rfl rfl bz Tryz.underlying50 rfl info26) rfl (by rw[HDR.out];exact⟨by rw[←HM.out];exact BZ.out,zerSf,rfl,zero_sg _ _ 0⟩)
def encT (u:Int) (s:Sg):List Nat→List UInt8
 | []=>[]
 | i::r=>(if hasU u i then codeT (fldT s i) else [])++encT u s r
theorem encP_T (u:Int) (s:Sg):encP u s 7=UInt8.ofNat (s.k % 256).toNat::encT u s [0,1,2,3,4,5,6]:=by
 simp[encP,encT]
def onS (u:Int) (s:Sg):List Nat→Sg→Sg
 | [],s0=>s0
 | i::r,s0=>onS u s r (if hasU u i then setF s0 (fldT s i) i else s0)
theorem bytesB_list (l:List UInt8):(bytesB l).data.toList=l:=by simp[bytesB]
theorem bytesB_size (l:List UInt8):(bytesB l).size=l.length:=by rw[size_list,bytesB_list]
theorem bytesB_extract (a b:List UInt8):(bytesB (a++b)).extract a.length (bytesB (a++b)).size=bytesB b:=by
 apply bytes_list;rw[ByteArray.data_extract,Array.toList_extract,bytesB_list,bytesB_list,bytesB_size];simp[List.extract]
theorem decL_on {u:Int} {s:Sg} (hf:FitE s):∀ (l:List Nat) (s0:Sg),(∀ i∈l,hasU u i=true→okFld s i=true)→decL u l s0 (bytesB (encT u s l))=some (onS u s l s0,bytesB [])
 | [],s0,_=>rfl
 | i::r,s0,h=>by
  have ih:=decL_on (u:=u) hf r;cases hu:hasU u i with
  | false=>
   have e1:encT u s (i::r)=encT u s r:=by rw[encT,hu];rfl
   have e2:onS u s (i::r) s0=onS u s r s0:=by rw[onS,hu];rfl
   rw[e1,e2,decL_no r s0 _ hu];exact ih s0 (fun j hj=>h j (List.mem_cons_of_mem _ hj))
  | true=>
   have hok:=h i List.mem_cons_self hu;have hv:=okFld_valid hok;have hk:fldK i=0∨(fldT s i).f.k=fldK i:=by
    unfold okFld at hok;simp only[Bool.and_eq_true,Bool.or_eq_true,decide_eq_true_eq] at hok;exact hok.2.1
   have e1:encT u s (i::r)=codeT (fldT s i)++encT u s r:=by rw[encT,hu];rfl
   have e2:onS u s (i::r) s0=onS u s r (setF s0 (fldT s i) i):=by rw[onS,hu];rfl
   rw[e1,e2];have ht:=takeF_code hv (hf.fld i).1 (s:=bytesB (codeT (fldT s i)++encT u s r)) (m:=encT u s r) (bytesB_list _);rw[decL_yes r s0 _ hu (by
    rw[ht];rintro(h|⟨h1,h2⟩)
    ·
     exact h rfl
    ·
     rcases hk with h|h
     ·
      exact h1 h
     ·
      exact h2 h),ht]
   show decL u r (setF s0 (fldT s i) i) ((bytesB (codeT (fldT s i)++encT u s r)).extract (codeT (fldT s i)).length _)=_;rw[bytesB_extract];exact ih _ (fun j hj=>h j (List.mem_cons_of_mem _ hj))
theorem set0 (c:Bool) (s0:Sg) (t:Tm):(if c then setF s0 t 0 else s0) = { s0 with fr:=if c then t else s0.fr }:=by cases c<;>rfl
theorem set1 (c:Bool) (s0:Sg) (t:Tm):(if c then setF s0 t 1 else s0) = { s0 with tt:=if c then t else s0.tt }:=by cases c<;>rfl
theorem set2 (c:Bool) (s0:Sg) (t:Tm):(if c then setF s0 t 2 else s0) = { s0 with node:=if c then t.f.nm else s0.node }:=by cases c<;>rfl
theorem set3 (c:Bool) (s0:Sg) (t:Tm):(if c then setF s0 t 3 else s0) = { s0 with name:=if c then t.f.nm else s0.name }:=by cases c<;>rfl
theorem set4 (c:Bool) (s0:Sg) (t:Tm):(if c then setF s0 t 4 else s0) = { s0 with ref:=if c then t else s0.ref }:=by cases c<;>rfl
theorem set5 (c:Bool) (s0:Sg) (t:Tm):(if c then setF s0 t 5 else s0) = { s0 with num:=if c then t.f.n else s0.num }:=by cases c<;>rfl
theorem set6 (c:Bool) (s0:Sg) (t:Tm):(if c then setF s0 t 6 else s0) = { s0 with val:=if c then t else s0.val }:=by cases c<;>rfl
theorem on_only (u:Int) (s:Sg):onS u s [0,1,2,3,4,5,6] { zeroSg with k:=s.k } = { onlyS u s 7 with k:=s.k }:=by
 simp only[onS,set0,set1,set2,set3,set4,set5,set6];simp[onlyS,zeroSg,fldT,atmT,nmbT,Tm.f]
theorem same_only {s t:Sg} (h:sameS s t=true) : { s with k:=t.k } = t:=by
 unfold sameS at h;simp only[Bool.and_eq_true,decide_eq_true_eq,eqT_iff] at h;obtain⟨h1,h2,h3,h4,h5,h6,h7⟩:=h;obtain⟨k,a,b,c,d,e,f,g⟩:=t;dsimp only at *;rw[h1,h2,h3,h4,h5,h6,h7]
theorem uses_range {k:Int} (h:usesF k≠0):1≤k∧k≤13:=by
 refine Decidable.byContradiction fun hk=>h ?_
 unfold usesF
 repeat rw[if_neg (by omega)]
theorem validS_iff {s:Sg} (h:validS s=true):usesF s.k≠0∧allFld (usesF s.k) s 7=true∧sameS (onlyS (usesF s.k) s 7) s=true:=by
 unfold validS at h;simp only[Bool.and_eq_true,decide_eq_true_eq] at h;exact h
theorem encB_valid {s:Sg} (h:validS s=true):encB s=bytesB (UInt8.ofNat (s.k % 256).toNat::encT (usesF s.k) s [0,1,2,3,4,5,6]):=by
 unfold encB;rw[if_pos h,encP_T]
theorem dec_enc {s:Sg} (hv:validS s=true) (hf:FitE s):decS (encB s)=some s:=by
 obtain⟨h1,h2,h3⟩:=validS_iff hv;obtain⟨r1,r2⟩:=uses_range h1;rw[encB_valid hv];unfold decS;have hz:(bytesB (UInt8.ofNat (s.k % 256).toNat::encT (usesF s.k) s [0,1,2,3,4,5,6])).size≠0:=by rw[bytesB_size];simp
 rw[if_neg hz];have hk:((((bytesB (UInt8.ofNat (s.k % 256).toNat::encT (usesF s.k) s [0,1,2,3,4,5,6])).data[0]?.getD 0).toNat:Nat):Int)=s.k:=by
  show (((UInt8.ofNat (s.k % 256).toNat).toNat:Nat):Int)=s.k;rw[UInt8.toNat_ofNat'];omega
 rw[hk];have hx:=bytesB_extract [UInt8.ofNat (s.k % 256).toNat] (encT (usesF s.k) s [0,1,2,3,4,5,6]);simp only[List.singleton_append,List.length_singleton] at hx;dsimp only;rw[hx];have hall:∀ i∈[0,1,2,3,4,5,6],hasU (usesF s.k) i=true→okFld s i=true:=by
  intro i hi hu;refine allFld_get h2 ?_ hu;simp only[List.mem_cons,List.not_mem_nil,or_false] at hi;omega
 have hd:=decL_on hf _ { zeroSg with k:=s.k } hall;rw[on_only,same_only h3] at hd;dsimp only at hd;rw[hd];dsimp only;rw[if_pos ⟨rfl,hv⟩]
theorem FitE.set {s:Sg} (h:FitE s) {t:Tm} (ht:okT t) (i:Nat):FitE (setF s t i):=by
 obtain⟨f,l⟩:=t;have hf:=ht.1;rw[fitT] at hf;have hn:f.nm.size≤200000:=hf.1.1.1;have hm : -9223372036854775808≤f.n∧f.n≤9223372036854775807:=by
  obtain⟨⟨_,_,hm,_⟩,_⟩:=hf;exact hm
 obtain⟨h1,h2,h3,h4,h5,h6,h7⟩:=h;unfold setF;split
 ·
  exact⟨ht,h2,h3,h4,h5,h6,h7⟩
 ·
  exact⟨h1,ht,h3,h4,h5,h6,h7⟩
 ·
  exact⟨h1,h2,h3,h4,hn,h6,h7⟩
 ·
  exact⟨h1,h2,h3,h4,h5,hn,h7⟩
 ·
  exact⟨h1,h2,ht,h4,h5,h6,h7⟩
 ·
  exact⟨h1,h2,h3,h4,h5,h6,hm⟩
 ·
  exact⟨h1,h2,h3,ht,h5,h6,h7⟩
end Go.Proofs.YtoaimoemaoinhaaGreatDoor
