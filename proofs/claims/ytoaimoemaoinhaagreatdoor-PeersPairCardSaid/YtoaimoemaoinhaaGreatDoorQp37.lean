/- PeersX: a part of the proof. No condition beyond the premises of each theorem. -/
import Derived.Test.YtoaimoemaoinhaaGreatDoorQp35
import Derived.Test.YtoaimoemaoinhaaGreatDoorQp36
import Derived.Test.YtoaimoemaoinhaaGreatDoorQp01
import Derived.ChangeSame
import Derived.DataReads
import Derived.Test.YtoaimoemaoinhaaGreatDoorRows
import Derived.Carry
import Derived.ProofKit
import Derived.LaidMore
import Derived.OpenShut
import Derived.ShutString
import Derived.Stop.Joined
import Derived.Test.YtoaimoemaoinhaaGreatDoorQp00
set_option maxRecDepth 100000
namespace Go.Proofs.YtoaimoemaoinhaaGreatDoor
open Go.RowKit Go.Rt Go.Rw Go.Mp
section
variable {x:ByteArray} {base:Nat} {w0:World} {g M C r:Nat} {s:Ds} {n:Nu} {w:World} {P:Pb}
theorem InP.mono (h:InP x base w0 g M C r s n w):InP x base w0 g (M+1) (C+1) r s n w:=by
 obtain⟨P,h1,h2,h3,h4,h5⟩:=h;exact⟨P,h1,h2,h3.mono (by omega),h4.mono,h5⟩
def dA (s:Ds):Ds:={ s with na:=(dialN s.na exB).1 }
def dB (s:Ds):Ds:={ s with nb:=(dialN s.nb exA).1 }
theorem dA_c (hP:PwAt w base s n P) (ok:PpOk M s):Calls Tryz.prog 10 #[ptrV P.a.g,.string exB] w fun e w'=>e = .returned (.int .i64 (dialN s.na exB).2)∧Col w base (dA s) n P w'∧w'.cell? ⟨P.g,0,none⟩=some (.pointer (some ⟨P.a.g,0,none⟩)):=
 (dial_any hP.na ok.a.nd ok.a.di exB (by rw[ok.a.o];simp)).mono fun _ _ ⟨h1,a',h2,h3⟩=>⟨h1,⟨{ P with a:=a' },rfl,hP.setA h2 h3,Trail.kept hP.na h3⟩,by rw[←h3.g];exact(hP.setA h2 h3).cpa rfl⟩
theorem dB_c (hP:PwAt w base s n P) (ok:PpOk M s):Calls Tryz.prog 10 #[ptrV P.b.g,.string exA] w fun e w'=>e = .returned (.int .i64 (dialN s.nb exA).2)∧Col w base (dB s) n P w'∧w'.cell? ⟨P.g,1,none⟩=some (.pointer (some ⟨P.b.g,0,none⟩)):=
 (dial_any hP.nb ok.b.nd ok.b.di exA (by rw[ok.b.o];simp)).mono fun _ _ ⟨h1,a',h2,h3⟩=>⟨h1,⟨{ P with b:=a' },rfl,hP.setB h2 h3,Trail.kept hP.nb h3⟩,by rw[←h3.g];exact(hP.setB h2 h3).cpb rfl⟩
theorem dA_out (h:Pp x M r s n):(outQ (dA s).na exB).length≤1∧(outQ (dA s).nb exA).length≤1:=
 ⟨(pp_dialA h).1,by show (outQ s.nb exA).length≤1;rw[(pp_out h).2.2.2];simp⟩
theorem dB_out (h:Pp x M r s n):(outQ (dB s).na exB).length≤1∧(outQ (dB s).nb exA).length≤1:=
 ⟨by show (outQ s.na exB).length≤1;rw[(pp_out h).2.1];simp,(pp_dialB h).1⟩
theorem col_a (h:Pp x M r s n) (n1:Nd):colS { s with na:=n1 } = ⟨dropO n1 exB,s.nb,s.wa,s.wb++outQ n1 exB,s.ua,s.ub⟩:=by
 have hd:=pp_out h;show (⟨dropO n1 exB,dropO s.nb exA,s.wa++outQ s.nb exA,s.wb++outQ n1 exB,s.ua,s.ub⟩:Ds)=_;rw[hd.2.2.1,hd.2.2.2,List.append_nil]
theorem col_b (h:Pp x M r s n) (n1:Nd):colS { s with nb:=n1 } = ⟨s.na,dropO n1 exA,s.wa++outQ n1 exA,s.wb,s.ua,s.ub⟩:=by
 have hd:=pp_out h;show (⟨dropO s.na exB,dropO n1 exA,s.wa++outQ n1 exA,s.wb++outQ s.na exB,s.ua,s.ub⟩:Ds)=_;rw[hd.1,hd.2.1,List.append_nil]
theorem dA_in (h:Pp x M r s n) (hn:NuOk C s.ua s.ub n) (hC:∃ P,P.g=g∧PwAt w base (colS (dA s)) n P) (hB:Below base w0 w):∃ r' s',InP x base w0 g (M+1) (C+1) r' s' n w:=by
 obtain⟨P,hg,hP⟩:=hC;obtain⟨-,r',h2⟩:=pp_dialA h;rw[show dA s = { s with na:=(dialN s.na exB).1 } from rfl,col_a h] at hP;exact⟨r',_,P,hg,hP,h2,hn.mono,hB⟩
theorem dB_in (h:Pp x M r s n) (hn:NuOk C s.ua s.ub n) (hC:∃ P,P.g=g∧PwAt w base (colS (dB s)) n P) (hB:Below base w0 w):∃ r' s',InP x base w0 g (M+1) (C+1) r' s' n w:=by
 obtain⟨P,hg,hP⟩:=hC;obtain⟨-,r',h2⟩:=pp_dialB h;rw[show dB s = { s with nb:=(dialN s.nb exA).1 } from rfl,col_b h] at hP;exact⟨r',_,P,hg,hP,h2,hn.mono,hB⟩
theorem pp_nm (h:Pp x M r s n):(s.na.nm=exA∧s.na.gen=1)∧s.nb.nm=exB∧s.nb.gen=1:=by
 cases h<;>exact⟨⟨rfl,rfl⟩,rfl,rfl⟩
theorem sendA_p (h:InP x base w0 g M C r s n w) (K:Cok x base M C w0) :
  Calls Tryz.prog 13 #[ptrV g,.int .i64 0] w fun e w'=>e = .returned (.tuple #[])∧∃ r' s' n',InP x base w0 g (M+1) (C+1) r' s' n' w':=by
 obtain⟨P,rfl,hP,hp,hn,hB⟩:=h;have hM:=K.m;have hC:=K.c;have ok:=pp_ok hp (by omega) K.x;have hnn:=hn.num K.c;have hd:=pp_out hp;have hs:=hn.sa;obtain⟨n1,c,r',h1,h2,h3⟩:=pp_sendA hp;have hc:(c=0∧s.ua=true)∨(c=9∧s.ua=false):=h3.imp (fun z=>⟨z.1,z.2.1⟩) (fun z=>⟨z.1,z.2.1⟩);refine(lsenda hP ok.a (pp_nm hp).1 (by omega) (by omega) h1 hc (fun y hy hg=>⟨(ok.ia y hy hg).1,by have:=(ok.ia y hy hg).2;omega⟩) h2 (by rw[hd.2.2.2];simp) (by have:=ok.la;omega) (by have:=ok.lb;omega)).mono ?_
 rintro e w' ⟨he,k1,k2⟩;refine⟨he,?_⟩;rw[col_a hp] at k1 k2;rcases h3 with ⟨e0,-,-,-,h4⟩|⟨e9,-,h4⟩
 ·
  obtain⟨P',g1,g2,g3⟩:=k1 e0;exact⟨r',_,_,P',g1,g2,h4,hn.sentA,hB.trans g3⟩
 ·
  obtain⟨P',g1,g2,g3⟩:=k2 e9;exact⟨r',_,_,P',g1,g2,h4,hn.mono,hB.trans g3⟩
theorem sendB_p (h:InP x base w0 g M C r s n w) (K:Cok x base M C w0) :
  Calls Tryz.prog 13 #[ptrV g,.int .i64 1] w fun e w'=>e = .returned (.tuple #[])∧∃ r' s' n',InP x base w0 g (M+1) (C+1) r' s' n' w':=by
 obtain⟨P,rfl,hP,hp,hn,hB⟩:=h;have hM:=K.m;have hC:=K.c;have ok:=pp_ok hp (by omega) K.x;have hnn:=hn.num K.c;have hd:=pp_out hp;have hs:=hn.sb;obtain⟨n1,c,r',h1,h2,h3⟩:=pp_sendB hp;have hc:(c=0∧s.ub=true)∨(c=9∧s.ub=false):=h3.imp (fun z=>⟨z.1,z.2.1⟩) (fun z=>⟨z.1,z.2.1⟩);refine(lsendb hP ok.b (pp_nm hp).2 (by omega) (by omega) h1 hc (fun y hy hg=>⟨(ok.ib y hy hg).1,by have:=(ok.ib y hy hg).2;omega⟩) h2 (by rw[hd.2.1];simp) (by have:=ok.la;omega) (by have:=ok.lb;omega)).mono ?_
 rintro e w' ⟨he,k1,k2⟩;refine⟨he,?_⟩;rw[col_b hp] at k1 k2;rcases h3 with ⟨e0,-,-,-,h4⟩|⟨e9,-,h4⟩
 ·
  obtain⟨P',g1,g2,g3⟩:=k1 e0;exact⟨r',_,_,P',g1,g2,h4,hn.sentB,hB.trans g3⟩
 ·
  obtain⟨P',g1,g2,g3⟩:=k2 e9;exact⟨r',_,_,P',g1,g2,h4,hn.mono,hB.trans g3⟩
def cutUa (ua:Bool) (n:Nu):Nu:={ n with ta:=if ua then max n.ta n.fa else n.ta }
theorem cut_evA (g:Nat) {ua ub:Bool} {n:Nu} {evs:List Ev} (h:evs=if ua then [downE exB] else []):EvDo g 0 evs ua ub n false ub (cutUa ua n):=by
 subst h;unfold cutUa;cases ua
 ·
  exact evdo_no 0
 ·
  exact evdo_downA
theorem cut_evB (g:Nat) {ua ub:Bool} {n:Nu} {evs:List Ev} (h:evs=if ub then [downE exA] else []):EvDo g 1 evs false ub (cutUa ua n) false false (cutU ua ub n):=by
 subst h;cases ub
 ·
  exact evdo_no 1
 ·
  exact evdo_downB
def sC1 (s:Ds):Ds:=⟨cutN s.na exB,s.nb,[],s.wb,false,s.ub⟩
def sC2 (s:Ds):Ds:=⟨cutN s.na exB,cutN s.nb exA,[],[],false,false⟩
theorem cut_in (h:Pp x M r s n) (hn:NuOk C s.ua s.ub n) (hC:∃ P,P.g=g∧PwAt w base (sC2 s) (cutU s.ua s.ub n) P) (hB:Below base w0 w):InP x base w0 g (M+1) (C+1) 0 (sC2 s) (cutU s.ua s.ub n) w:=by
 obtain⟨P,hg,hP⟩:=hC;exact⟨P,hg,hP,(pp_cut h _).1.mono (by omega),hn.cut,hB⟩
end
end Go.Proofs.YtoaimoemaoinhaaGreatDoor
namespace Go.Rw
open Go Go.RowKit Go.Rt
variable {α:Type}
theorem choose_list (p:Nat→α→Prop):∀ n,(∀ i,i<n→∃ a,p i a)→∃ l:List α,l.length=n∧∀ i (h:i<l.length),p i l[i]
 | 0,_=>⟨[],rfl,fun i h=>by simp at h⟩
 | n+1,h=>by
  obtain⟨l,h1,h2⟩:=choose_list p n (fun i hi=>h i (by omega));obtain⟨a,ha⟩:=h n (by omega);refine⟨l ++ [a],by simp[h1],fun i hi=>?_⟩;rcases Nat.lt_or_ge i l.length with q|q
  ·
   rw[List.getElem_append_left q];exact h2 i q
  ·
   simp only[List.length_append,List.length_cons,List.length_nil] at hi;obtain rfl:i=l.length:=by omega
   rw[List.getElem_append_right (Nat.le_refl _)];simp only[Nat.sub_self,List.getElem_cons_zero,h1];exact ha
theorem slice_at {H:Type} {enc:TypeId×Value→H} {P:Program} {W:World} {fuel:Nat} {t e:TypeId} {k:Nat} {v:Value} {x:DataW H×List MemPlace} (c:α→List Value) (good:α→Prop)
  (ht:P.underlying t=some (.slice e)) (hk:P.cellsOf e=k) (hk0:0<k)
  (hopen:∀ n cs y,DataW.trod enc P W 0 (fun _=>true) true n e cs=some y→∃ a,cs=c a∧good a)
  (h:DataW.trod enc P W 0 (fun _=>true) true fuel t [v]=some x):∃ As,SlAt W k c v As∧∀ a∈As,good a:=by
 rcases DataW.trod_slice ht h with ⟨hcs,_⟩|⟨a,len,cap,elems,rest,n,_,hcs,_,_,hl,hm,hlen,hel,_⟩
 ·
  simp only[List.cons.injEq,and_true] at hcs;exact⟨[],.inl ⟨rfl,none,0,hcs⟩,by simp⟩
 ·
  simp only[List.cons.injEq,and_true] at hcs;subst hcs;have each:∀ i,i<len→∃ u:α,(∀ j,j<k→W.cell? ((a.add (i*k)).add j)=(c u)[j]?)∧(c u).length=k∧good u:=by
   intro i hi
   have:=hel i hi
   rw[List.getElem?_eq_getElem (by omega),Option.bind_eq_some_iff] at this;obtain⟨cs,h1,h2⟩:=this;rw[hk] at h1;obtain⟨_,q2,q3⟩:=World.cells?_some h1;obtain⟨u,rfl,hu⟩:=hopen _ _ _ h2;exact⟨u,q3,q2,hu⟩
  obtain⟨As,hA,hg⟩:=choose_list _ len each;refine⟨As,?_,fun u hu=>?_⟩
  ·
   by_cases h0:len=0
   ·
    subst h0;exact .inl ⟨List.eq_nil_of_length_eq_zero hA,some a,cap,rfl⟩
   ·
    have c0:=(hg 0 (by omega)).1 0 hk0;rw[List.getElem?_eq_getElem (by rw[(hg 0 (by omega)).2.1];exact hk0)] at c0;obtain⟨b,o,sp⟩:=a;have hb:b<W.heap.size∧sp=none:=by
     unfold World.cell? at c0;simp only[Addr.add] at c0;split at c0
     ·
      rename_i hh;cases sp with
      | none=>
       simp only[Nat.zero_mul,Nat.add_zero] at hh;exact⟨(Array.getElem?_eq_some_iff.1 (by simpa using hh)).1,rfl⟩
      | some q=>simp at c0
     ·
      cases c0
    obtain⟨hb,rfl⟩:=hb;refine .inr ⟨b,o,cap,by rw[hA],by rw[hA];unfold maxLen at hm;omega,hb,?_⟩;intro i j hi hj
    have:=(hg i hi).1 j hj
    rw[add_none,add_none] at this;exact this
  ·
   obtain⟨i,hi,rfl⟩:=List.getElem_of_mem hu;exact(hg i hi).2.2
end Go.Rw
namespace Go.Proofs.YtoaimoemaoinhaaGreatDoor
open Go.RowKit Go.Rt Go.Rw
def intC (n:Int):List Value:=[.int .i64 n]
def I64 (n:Int):Prop:=-9223372036854775808≤n∧n≤9223372036854775807
theorem lit_bounds {n:Int} (h:(Lit.int .i64 n).wf=true):I64 n:=by
 unfold Lit.wf at h;rw[Bool.and_eq_true,decide_eq_true_eq,decide_eq_true_eq,show IntKind.i64.min = -9223372036854775808 from rfl,show IntKind.i64.max=9223372036854775807 from rfl] at h;exact h
theorem int_open {H:Type} {enc:TypeId×Value→H} {W:World} (n:Nat) (cs:List Value) (y:DataW H×List MemPlace) (h:DataW.trod enc Tryz.prog W 0 (fun _=>true) true n 3 cs=some y):∃ a:Int,cs=intC a∧I64 a:=by
 obtain⟨s,e,-,wf⟩:=DataW.trod_int Tryz.underlying3 h;exact⟨s,e,lit_bounds wf⟩
end Go.Proofs.YtoaimoemaoinhaaGreatDoor
namespace Go.Proofs.YtoaimoemaoinhaaGreatDoor
open Go.RowKit Go.Rt Go.Rw Go.Mp
def ckP : ByteArray:=⟨#[120]⟩
theorem cell_to {w:World} {g g' i:Nat} {v:Value} (e:g=g') (h:w.cell? ⟨g,i,none⟩=some v):w.cell? ⟨g',i,none⟩=some v:=by rw[←e];exact h
theorem sint_at {w W:World} {v:Value} {L:List Int} (h:SlAt w 1 intC v L) (b:Below w.heap.size w W):∀ k,(hk:k<L.length)→∃ g o cap,v = .slice (some ⟨g,o,none⟩) L.length cap∧g<w.heap.size∧W.cell? ⟨g,o+k,none⟩=some (.int .i64 L[k]):=by
 intro k hk;rcases h with ⟨rfl,_⟩|⟨g,o,cap,rfl,_,hg,hc⟩
 ·
  simp at hk
 ·
  refine⟨g,o,cap,rfl,hg,?_⟩
  have:=hc k 0 hk (by omega)
  rw[Nat.mul_one,Nat.add_zero] at this;rw[b.cell hg,this];rfl
set_option maxHeartbeats 16000000 in
theorem pair_walk (L:List Int) (v:Value) (w:World) (hv:SlAt w 1 intC v L) (hL:∀ x∈L,I64 x) (hT:Sk.Tabs w) (hb:2≤w.heap.size):Calls Tryz.prog 3 #[v] w fun e w'=>e = .returned (.bool true)∧Below w.heap.size w w':=by
 obtain⟨hlen,sa,cap,rfl⟩:=hv.len;have HV:=qH hv;have HL:=qH hL;have HT:=qH hT;have HB:=qH hb;have hix0:=name_at false;have hix1:=name_at true;simp only[if_true,if_false,Bool.false_eq_true] at hix0 hix1;have e1:IntKind.i64.wrap 1=1:=by kernel_rfl
 have e0:IntKind.i64.wrap 0=0:=by kernel_rfl
 clear hv hL hT hb;go_enter Tryz.func3,Tryz.ntmps3;go_wp2_with fail;refine(shown6 w).mono ?_;rintro e wc0 ⟨rfl,b1⟩;have BW1:=qH b1;have HTT:=qH (HT.out.below b1 HT.out.two);have HBB0:=qH (show 2≤wc0.heap.size from Nat.le_trans HB.out b1.size);clear b1
 by_cases hbig:300<L.length
 ·
  have hbi:(300:Int)<(L.length:Int):=by omega
  go_wp2_with fail;go_ret;exact⟨rfl,BW1.out⟩
 ·
  have hbi:¬((300:Int)<(L.length:Int)):=by omega
  have HLEN:=qH (show L.length≤300 by omega);clear hbig;have CM:Hid (Calls Tryz.prog 8 #[.string ⟨#[120]⟩,.string ⟨#[120]⟩] wc0 fun e w'=>∃ P:Pb,e = .returned (ptrV P.g)∧PwAt w' wc0.heap.size ⟨NA ckP 7 0 none false,NB ckP 70 0 none false,[],[],false,false⟩ (nuD false false) P∧Below wc0.heap.size wc0 w'):=qH (made_any ckP ckP wc0);obtain⟨base,hbase⟩:∃ b,b=wc0.heap.size:=⟨_,rfl⟩;have HCK0:Hid (∀ k,k≤300→Cok ckP base (70+k) k wc0):=qH (fun k h=>⟨by omega,by omega,by decide,HTT.out,by rw[hbase];exact HBB0.out⟩)
  rw[←hbase] at CM;have HBS:=qH hbase;clear hbase HBB0;unfold ptrV at CM;go_wp2_with fail;refine CM.out.mono ?_;rintro e w2 ⟨P0,rfl,hP0,b2⟩;obtain⟨g,hg⟩:∃ g,g=P0.g:=⟨_,rfl⟩;have H0:Hid (InP ckP base wc0 g (70+0) 0 0 ⟨NA ckP 7 0 none false,NB ckP 70 0 none false,[],[],false,false⟩ (nuD false false) w2):=qH ⟨P0,hg.symm,hP0,pp_start _ _ (by omega) _,⟨by simp[nuD],by simp[nuD],by simp[nuD],by simp[nuD],fun h=>(by cases h),fun h=>(by cases h),by simp[nuD],by simp[nuD]⟩,b2⟩
  rw[←hg];clear hg hP0 b2 CM;go_wp2_with fail;go_loopw [4] (fun i wr=>∃ k:Nat,k≤L.length∧i = .int .i64 k∧Hid (∃ r s n,InP ckP base wc0 g (70+k) k r s n wr)) (fun i _=>L.length-(intOf i).toNat)
  case atStart=>exact⟨0,by omega,rfl,qH ⟨0,_,_,H0.out⟩⟩
  case round=>
   obtain⟨k,hk,rfl,hr⟩:=hrel;obtain⟨r,s,n,hI⟩:=hr.out;have HCK:=qH (HCK0.out k (by have:=HLEN.out;omega));have HI:=qH hI;have c16:wr.cell? ⟨g,16,none⟩=some (.bool true):=by
    obtain⟨P1,hg1,hP1,-,-⟩:=hI;exact blk_at hP1.blk 16 hg1 rfl rfl
   clear hI H0 hr
   by_cases hlt:k<L.length
   ·
    have HLT:=qH (show k+1≤L.length from hlt);have hkl:(k:Int)<(L.length:Int):=by omega
    have hk0:(0:Int)≤(k:Int):=by omega
    obtain⟨P9,-,hP9,-,-,hB9⟩:=HI.out;obtain⟨gs,os,caps,hsa,hgs,hcs⟩:=sint_at HV.out (BW1.out.trans (hB9.mono (by rw[HBS.out];exact BW1.out.size))) k hlt;cases hsa;have CPK:=qH (pick_any (L[k]'hlt) 32 (by omega) (by omega) (HL.out _ (List.getElem_mem hlt)));obtain⟨xv,hxv⟩:∃ x,x=L[k]'hlt:=⟨_,rfl⟩;have hrg:=pickF_range (L[k]'hlt) 32 (by omega);rw[←hxv] at hcs CPK hrg;have HRG:=qH hrg;clear hxv hrg hlt hP9 hB9
    go_wp2_with fail;refine(CPK.out _).mono ?_;rintro e w3 ⟨rfl,rfl⟩;obtain⟨pk,hpk⟩:∃ z,z=pickF xv 32:=⟨_,rfl⟩;rw[←hpk] at HRG ⊢;have HPK:Hid ((pk.tmod 2=0∨pk.tmod 2=1)∧(pk<4∨(¬pk<4∧pk<14)∨pk=14∨(¬pk<4∧¬pk<14∧(pk==14)=false))):=qH (by
     have:=HRG.out
     have e:=Int.tmod_eq_emod_of_nonneg (a:=pk) (b:=2) (by omega);rw[e];refine⟨by omega,?_⟩;rw[beq_eq_false_iff_ne];omega)
    clear hpk CPK HRG hcs;obtain⟨hpar,hcl⟩:=HPK.out;clear HPK;rcases hcl with h4|⟨h4,h14⟩|rfl|⟨h4,h14,hne⟩
    ·
     rcases hpar with hp|hp
     ·
      obtain⟨P1,hg1,hP1,hph1,hn1,hB1⟩:=HI.out;have HP1:=qH hP1;have HPH:=qH hph1;have HNU:=qH hn1;have HB1:=qH hB1;have HG1:=qH hg1;have HOK:=qH (pp_ok hph1 (by have:=HCK.out.m;omega) HCK.out.x);have c0:w3.cell? ⟨g,0,none⟩=some (.pointer (some ⟨P1.a.g,0,none⟩)):=hP1.cpa hg1;clear hg1 hP1 hph1 hn1 hB1;go_upto_region 13 with fail
      go_region_held3 (fun w'=>w'.cell? ⟨g,0,none⟩=some (.pointer (some ⟨P1.a.g,0,none⟩))) (first|exact c0|exact m0)
       ((first
        | (go_at_call 11;refine(names_any _).mono ?_;rintro e w5 ⟨rfl,b5⟩;have H5:=qH ((HP1.out.below (Below.refl _ w3).drew).below b5);have B5:=qH ((HB1.out.trans (Below.refl base w3).drew).trans (b5.mono HP1.out.na.bz));have m0:w5.cell? ⟨g,0,none⟩=some (.pointer (some ⟨P1.a.g,0,none⟩)):=H5.out.cpa HG1.out;clear b5)
        | (go_at_call 10;have CD:=dA_c H5.out HOK.out;unfold ptrV at CD;refine CD.mono ?_;rintro e w6 ⟨rfl,h6,h7⟩;have H6:=qH h6;have m0:w6.cell? ⟨g,0,none⟩=some (.pointer (some ⟨P1.a.g,0,none⟩)):=cell_to HG1.out h7;clear h6 h7 CD)))
      clear m0 c0;obtain⟨P6,hg6,hP6,hB6⟩:=H6.out;have HG6:=qH (hg6.trans HG1.out);have H7:=qH hP6;have B7:=qH (B5.out.trans hB6);clear hg6 hP6 hB6;have CC:=qH (collect_any H7.out (dA_out HPH.out).1 (dA_out HPH.out).2 (by have:=HOK.out.la;have:=HCK.out.m;show s.wa.length≤1000;omega) (by have:=HOK.out.lb;have:=HCK.out.m;show s.wb.length≤1000;omega));rw[HG6.out] at CC;unfold ptrV at CC;go_wp2_with fail
      refine CC.out.mono ?_;rintro e w8 ⟨rfl,P8,hg8,hP8,hB8⟩;have HN:=qH (dA_in (g:=g) (base:=base) (w0:=wc0) HPH.out HNU.out ⟨P8,hg8.trans HG6.out,hP8⟩ (B7.out.trans hB8));clear CC hg8 hP8 hB8;obtain⟨r2,s2,h2⟩:=HN.out;have HI2:=qH h2;clear h2 HN H7 B7 H6;go_wp2_with fail;go_roundw
      case rel=>exact⟨k+1,HLT.out,by go_num,qH ⟨r2,s2,n,HI2.out⟩⟩
      case measure=>simp[intOf];have:=HLT.out;omega
     ·
      obtain⟨P1,hg1,hP1,hph1,hn1,hB1⟩:=HI.out;have HP1:=qH hP1;have HPH:=qH hph1;have HNU:=qH hn1;have HB1:=qH hB1;have HG1:=qH hg1;have HOK:=qH (pp_ok hph1 (by have:=HCK.out.m;omega) HCK.out.x);have c0:w3.cell? ⟨g,1,none⟩=some (.pointer (some ⟨P1.b.g,0,none⟩)):=hP1.cpb hg1;clear hg1 hP1 hph1 hn1 hB1;go_upto_region 13 with fail
      go_region_held3 (fun w'=>w'.cell? ⟨g,1,none⟩=some (.pointer (some ⟨P1.b.g,0,none⟩))) (first|exact c0|exact m0)
       ((first
        | (go_at_call 11;refine(names_any _).mono ?_;rintro e w5 ⟨rfl,b5⟩;have H5:=qH ((HP1.out.below (Below.refl _ w3).drew).below b5);have B5:=qH ((HB1.out.trans (Below.refl base w3).drew).trans (b5.mono HP1.out.na.bz));have m0:w5.cell? ⟨g,1,none⟩=some (.pointer (some ⟨P1.b.g,0,none⟩)):=H5.out.cpb HG1.out;clear b5)
        | (go_at_call 10;have CD:=dB_c H5.out HOK.out;unfold ptrV at CD;refine CD.mono ?_;rintro e w6 ⟨rfl,h6,h7⟩;have H6:=qH h6;have m0:w6.cell? ⟨g,1,none⟩=some (.pointer (some ⟨P1.b.g,0,none⟩)):=cell_to HG1.out h7;clear h6 h7 CD)))
      clear m0 c0;obtain⟨P6,hg6,hP6,hB6⟩:=H6.out;have HG6:=qH (hg6.trans HG1.out);have H7:=qH hP6;have B7:=qH (B5.out.trans hB6);clear hg6 hP6 hB6;have CC:=qH (collect_any H7.out (dB_out HPH.out).1 (dB_out HPH.out).2 (by have:=HOK.out.la;have:=HCK.out.m;show s.wa.length≤1000;omega) (by have:=HOK.out.lb;have:=HCK.out.m;show s.wb.length≤1000;omega));rw[HG6.out] at CC;unfold ptrV at CC;go_wp2_with fail
      refine CC.out.mono ?_;rintro e w8 ⟨rfl,P8,hg8,hP8,hB8⟩;have HN:=qH (dB_in (g:=g) (base:=base) (w0:=wc0) HPH.out HNU.out ⟨P8,hg8.trans HG6.out,hP8⟩ (B7.out.trans hB8));clear CC hg8 hP8 hB8;obtain⟨r2,s2,h2⟩:=HN.out;have HI2:=qH h2;clear h2 HN H7 B7 H6;go_wp2_with fail;go_roundw
      case rel=>exact⟨k+1,HLT.out,by go_num,qH ⟨r2,s2,n,HI2.out⟩⟩
      case measure=>simp[intOf];have:=HLT.out;omega
    ·
     rcases hpar with hp|hp
     ·
      have CT:=qH (sendA_p HI.out HCK.out);unfold ptrV at CT;go_wp2_with fail;refine CT.out.mono ?_;rintro e w8 ⟨rfl,r2,s2,n2,h2⟩;have HI2:=qH h2;clear h2 CT;go_wp2_with fail;go_roundw
      case rel=>exact⟨k+1,HLT.out,by go_num,qH ⟨r2,s2,n2,HI2.out⟩⟩
      case measure=>simp[intOf];have:=HLT.out;omega
     ·
      have CT:=qH (sendB_p HI.out HCK.out);unfold ptrV at CT;go_wp2_with fail;refine CT.out.mono ?_;rintro e w8 ⟨rfl,r2,s2,n2,h2⟩;have HI2:=qH h2;clear h2 CT;go_wp2_with fail;go_roundw
      case rel=>exact⟨k+1,HLT.out,by go_num,qH ⟨r2,s2,n2,HI2.out⟩⟩
      case measure=>simp[intOf];have:=HLT.out;omega
    ·
     clear hpar;obtain⟨P0,hg0,hP0,hph0,hn0,hB0⟩:=HI.out;have HPH:=qH hph0;have HNU:=qH hn0;have HRA:=qH (pp_cut hph0 n).2.1;have HRB:=qH (pp_cut hph0 n).2.2;have HQ0:Hid (∃ P,P.g=g∧PwAt w3 base s n P∧Below base wc0 w3):=qH ⟨P0,hg0,hP0,hB0⟩;have hwa:=way_at g;have hwb:=way_at0 g;clear hg0 hP0 hph0 hn0 hB0;go_wp2_with fail;go_loopw [7] (fun i wq=>(i = .int .i64 0∧Hid (∃ P,P.g=g∧PwAt wq base s n P∧Below base wc0 wq))∨(i = .int .i64 1∧Hid (∃ P,P.g=g∧PwAt wq base (sC1 s) (cutUa s.ua n) P∧Below base wc0 wq))∨(i = .int .i64 2∧Hid (∃ P,P.g=g∧PwAt wq base (sC2 s) (cutU s.ua s.ub n) P∧Below base wc0 wq))) (fun i _=>2-(intOf i).toNat)
     case atStart=>exact .inl ⟨rfl,HQ0⟩
     case round=>
      rename World=>wq
      clear HQ0 HI;rcases hrel with ⟨rfl,HQ⟩|⟨rfl,HQ⟩|⟨rfl,HQ⟩
      ·
       obtain⟨P1,hg1,hP1,hB1⟩:=HQ.out;have HP1:=qH hP1;have HB1:=qH hB1;have HG1:=qH hg1;have c0:wq.cell? ⟨g,0,none⟩=some (.pointer (some ⟨P1.a.g,0,none⟩)):=hP1.cpa hg1;clear hg1 hP1 hB1 HQ;go_upto_region 21 with fail
       go_region_held3 (fun w'=>w'.cell? ⟨g,0,none⟩=some (.pointer (some ⟨P1.a.g,0,none⟩))) (first|exact c0|exact m0)
        ((first
         | (go_at_call 11;refine(names_any _).mono ?_;rintro e w5 ⟨rfl,b5⟩;have H5:=qH ((HP1.out.below (Below.refl _ wq).drew).below b5);have B5:=qH ((HB1.out.trans (Below.refl base wq).drew).trans (b5.mono HP1.out.na.bz));have m0:w5.cell? ⟨g,0,none⟩=some (.pointer (some ⟨P1.a.g,0,none⟩)):=H5.out.cpa HG1.out;clear b5)
         | (go_at_call 15;have CD:=cut_any H5.out.na exB;unfold ptrV at CD;refine CD.mono ?_;rintro e w6 ⟨v6,a6,rfl,q1,q2,q3⟩;have HEV:=qH q1;have H6:Hid (PwAt w6 base { s with na:=cutN s.na exB } n { P1 with a:=a6 }):=qH (H5.out.setA q2 q3);have B6:=qH (B5.out.trans (Trail.kept H5.out.na q3));have HSZ:=qH (show g<w5.heap.size by rw[←HG1.out];exact H5.out.blk.lt);have HAG:=qH q3.g;clear m0;have m0:w6.cell? ⟨g,0,none⟩=some (.pointer (some ⟨P1.a.g,0,none⟩)):=(H6.out.cpa HG1.out).trans (by rw[q3.g]);clear q1 q2 q3 CD)
         | (go_at_call 14;have CE:=(cut_evA g (ua:=s.ua) (ub:=s.ub) (n:=n) HRA.out) w6 v6 w5.heap.size _ _ _ _ HSZ.out HEV.out (by have:=H6.out.blk;rw[show ({ P1 with a:=a6 } : Pb).g=g from HG1.out] at this;exact this);unfold ptrV at CE;refine CE.mono ?_;rintro e w7 ⟨rfl,q1,q2⟩;have H7:Hid (PwAt w7 base { s with na:=cutN s.na exB,ua:=false,ub:=s.ub } (cutUa s.ua n) { P1 with a:=a6 }):=qH (H6.out.own (by rw[show ({ P1 with a:=a6 } : Pb).g=g from HG1.out];exact q2) (by rw[show ({ P1 with a:=a6 } : Pb).g=g from HG1.out];exact q1));have B7:=qH (B6.out.trans (q2.below (fun b hb=>by rw[List.mem_singleton.1 hb,←HG1.out];exact H6.out.bg) H6.out.na.bz));clear m0;have m0:w7.cell? ⟨g,0,none⟩=some (.pointer (some ⟨P1.a.g,0,none⟩)):=(H7.out.cpa HG1.out).trans (by rw[HAG.out]);clear q1 q2 CE)))
       clear m0 c0 H5 B5 HEV H6 B6 HSZ HAG;obtain⟨P2,hP2⟩:∃ y:Pb,y = { P1 with a:=a6 }:=⟨_,rfl⟩;have HG2:Hid (P2.g=g):=qH (by rw[hP2];exact HG1.out);rw[←hP2] at H7;clear hP2;have hc:w7.cell? ⟨g,2,none⟩=some P2.va:=H7.out.cwa HG2.out rfl;have fc:w7.frozen? ⟨g,2,none⟩=false:=by rw[←HG2.out];exact H7.out.blk.frozen 2
       have H8:Hid (∃ P3:Pb,P3.g=g∧PwAt (w7.setCell ⟨g,2,none⟩ (.slice none 0 0)) base (sC1 s) (cutUa s.ua n) P3):=qH (by
        have:=H7.out.wayA (v:=.slice none 0 0) (L:=[]) (Only.refl _ w7) (Wq.nil _ _) (.inl rfl) (Only.setCell w7 ⟨P2.g,2,none⟩ (.slice none 0 0) (by simp)) (H7.out.blk.set_ 2 (.slice none 0 0))
        rw[HG2.out] at this;exact⟨_,rfl,this⟩)
       have B8:=qH (B7.out.setCell (p:=⟨g,2,none⟩) (by rw[←HG2.out];exact H7.out.bg) (.slice none 0 0));go_wp2_with fail;go_roundw
       case rel=>exact .inr (.inl ⟨rfl,qH (by obtain⟨P3,k1,k2⟩:=H8.out;exact⟨P3,k1,k2,B8.out⟩)⟩)
       case measure=>simp[intOf]
      ·
       obtain⟨P1,hg1,hP1,hB1⟩:=HQ.out;have HP1:=qH hP1;have HB1:=qH hB1;have HG1:=qH hg1;have c0:wq.cell? ⟨g,1,none⟩=some (.pointer (some ⟨P1.b.g,0,none⟩)):=hP1.cpb hg1;clear hg1 hP1 hB1 HQ;go_upto_region 21 with fail
       go_region_held3 (fun w'=>w'.cell? ⟨g,1,none⟩=some (.pointer (some ⟨P1.b.g,0,none⟩))) (first|exact c0|exact m0)
        ((first
         | (go_at_call 11;refine(names_any _).mono ?_;rintro e w5 ⟨rfl,b5⟩;have H5:=qH ((HP1.out.below (Below.refl _ wq).drew).below b5);have B5:=qH ((HB1.out.trans (Below.refl base wq).drew).trans (b5.mono HP1.out.na.bz));have m0:w5.cell? ⟨g,1,none⟩=some (.pointer (some ⟨P1.b.g,0,none⟩)):=H5.out.cpb HG1.out;clear b5)
         | (go_at_call 15;have CD:=cut_any H5.out.nb exA;unfold ptrV at CD;refine CD.mono ?_;rintro e w6 ⟨v6,a6,rfl,q1,q2,q3⟩;have HEV:=qH q1;have H6:Hid (PwAt w6 base { sC1 s with nb:=cutN s.nb exA } (cutUa s.ua n) { P1 with b:=a6 }):=qH (H5.out.setB q2 q3);have B6:=qH (B5.out.trans (Trail.kept H5.out.nb q3));have HSZ:=qH (show g<w5.heap.size by rw[←HG1.out];exact H5.out.blk.lt);have HAG:=qH q3.g;clear m0;have m0:w6.cell? ⟨g,1,none⟩=some (.pointer (some ⟨P1.b.g,0,none⟩)):=(H6.out.cpb HG1.out).trans (by rw[q3.g]);clear q1 q2 q3 CD)
         | (go_at_call 14;have CE:=(cut_evB g (ua:=s.ua) (ub:=s.ub) (n:=n) HRB.out) w6 v6 w5.heap.size _ _ _ _ HSZ.out HEV.out (by have:=H6.out.blk;rw[show ({ P1 with b:=a6 } : Pb).g=g from HG1.out] at this;exact this);unfold ptrV at CE;refine CE.mono ?_;rintro e w7 ⟨rfl,q1,q2⟩;have H7:Hid (PwAt w7 base { sC1 s with nb:=cutN s.nb exA,ua:=false,ub:=false } (cutU s.ua s.ub n) { P1 with b:=a6 }):=qH (H6.out.own (by rw[show ({ P1 with b:=a6 } : Pb).g=g from HG1.out];exact q2) (by rw[show ({ P1 with b:=a6 } : Pb).g=g from HG1.out];exact q1));have B7:=qH (B6.out.trans (q2.below (fun b hb=>by rw[List.mem_singleton.1 hb,←HG1.out];exact H6.out.bg) H6.out.na.bz));clear m0;have m0:w7.cell? ⟨g,1,none⟩=some (.pointer (some ⟨P1.b.g,0,none⟩)):=(H7.out.cpb HG1.out).trans (by rw[HAG.out]);clear q1 q2 CE)))
       clear m0 c0 H5 B5 HEV H6 B6 HSZ HAG;obtain⟨P2,hP2⟩:∃ y:Pb,y = { P1 with b:=a6 }:=⟨_,rfl⟩;have HG2:Hid (P2.g=g):=qH (by rw[hP2];exact HG1.out);rw[←hP2] at H7;clear hP2;have hc:w7.cell? ⟨g,3,none⟩=some P2.vb:=H7.out.cwb HG2.out rfl;have fc:w7.frozen? ⟨g,3,none⟩=false:=by rw[←HG2.out];exact H7.out.blk.frozen 3
       have H8:Hid (∃ P3:Pb,P3.g=g∧PwAt (w7.setCell ⟨g,3,none⟩ (.slice none 0 0)) base (sC2 s) (cutU s.ua s.ub n) P3):=qH (by
        have:=H7.out.wayB (v:=.slice none 0 0) (L:=[]) (Only.refl _ w7) (Wq.nil _ _) (.inl rfl) (Only.setCell w7 ⟨P2.g,3,none⟩ (.slice none 0 0) (by simp)) (H7.out.blk.set_ 3 (.slice none 0 0))
        rw[HG2.out] at this;exact⟨_,rfl,this⟩)
       have B8:=qH (B7.out.setCell (p:=⟨g,3,none⟩) (by rw[←HG2.out];exact H7.out.bg) (.slice none 0 0));go_wp2_with fail;go_roundw
       case rel=>exact .inr (.inr ⟨rfl,qH (by obtain⟨P3,k1,k2⟩:=H8.out;exact⟨P3,k1,k2,B8.out⟩)⟩)
       case measure=>simp[intOf]
      ·
       obtain⟨P1,hg1,hP1,hB1⟩:=HQ.out;have HI2:=qH (cut_in HPH.out HNU.out ⟨P1,hg1,hP1⟩ hB1);clear hg1 hP1 hB1 HQ;go_wp2_with fail;go_roundw
       case rel=>exact⟨k+1,HLT.out,by go_num,qH ⟨0,sC2 s,cutU s.ua s.ub n,HI2.out⟩⟩
       case measure=>simp[intOf];have:=HLT.out;omega
    ·
     rcases hpar with hp|hp
     ·
      have CT:=qH (turnA' HI.out HCK.out);unfold ptrV at CT;go_wp2_with fail;refine CT.out.mono ?_;rintro e w8 ⟨rfl,r2,s2,n2,h2,-⟩;have HI2:=qH h2.mono;clear h2 CT;go_wp2_with fail;go_roundw
      case rel=>exact⟨k+1,HLT.out,by go_num,qH ⟨r2,s2,n2,HI2.out⟩⟩
      case measure=>simp[intOf];have:=HLT.out;omega
     ·
      have CT:=qH (turnB' HI.out HCK.out);unfold ptrV at CT;go_wp2_with fail;refine CT.out.mono ?_;rintro e w8 ⟨rfl,r2,s2,n2,h2,-⟩;have HI2:=qH h2.mono;clear h2 CT;go_wp2_with fail;go_roundw
      case rel=>exact⟨k+1,HLT.out,by go_num,qH ⟨r2,s2,n2,HI2.out⟩⟩
      case measure=>simp[intOf];have:=HLT.out;omega
   ·
    obtain rfl:k=L.length:=by omega
    clear hlt;have CDR:=qH (drain_p HI.out HCK.out);unfold ptrV at CDR;go_wp2_with fail;refine CDR.out.mono ?_;rintro e w4 ⟨rfl,h3⟩;clear CDR c16;obtain⟨s4,n4,P,hg,hP,hph,hn,hB⟩:=h3;have hpe:=pp_end hph;have HPE:=qH hpe.2;have c16:w4.cell? ⟨g,16,none⟩=some (.bool true):=blk_at hP.blk 16 hg rfl rfl;have c4:w4.cell? ⟨g,4,none⟩=some (.bool s4.ua):=blk_at hP.blk 4 hg rfl rfl;have c5:w4.cell? ⟨g,5,none⟩=some (.bool s4.ua):=blk_at hP.blk 5 hg (v':=.bool s4.ub) (by rw[hpe.1]) rfl
    have c12:w4.cell? ⟨g,12,none⟩=some (.int .i64 n4.ga):=blk_at hP.blk 12 hg rfl rfl;have c13:w4.cell? ⟨g,13,none⟩=some (.int .i64 n4.gb):=blk_at hP.blk 13 hg rfl rfl;have c8:w4.cell? ⟨g,8,none⟩=some (.int .i64 n4.sa):=blk_at hP.blk 8 hg rfl rfl;have c9:w4.cell? ⟨g,9,none⟩=some (.int .i64 n4.sb):=blk_at hP.blk 9 hg rfl rfl;have BE:=qH (BW1.out.trans (hB.mono (by rw[HBS.out];exact BW1.out.size)));obtain⟨u4,hu4⟩:∃ u,u=s4.ua:=⟨_,rfl⟩
    rw[←hu4] at c4 c5 HPE;clear hpe hg hP hph hn hB hu4;have hww:∀ u:Bool,(u != u)=false:=fun u=>by cases u<;>rfl
    cases u4
    ·
     go_upto_region 24 with fail
     refine wp_region_held_drew (S:=(fun w'=>w'.cell? ⟨g,16,none⟩=some (.bool true)∧w'.cell? ⟨g,4,none⟩=some (.bool false)∧w'.cell? ⟨g,5,none⟩=some (.bool false)∧w'.cell? ⟨g,12,none⟩=some (.int .i64 n4.ga)∧w'.cell? ⟨g,9,none⟩=some (.int .i64 n4.sb)∧w'.cell? ⟨g,13,none⟩=some (.int .i64 n4.gb)∧w'.cell? ⟨g,8,none⟩=some (.int .i64 n4.sa))) (by kernel_rfl) (⟨c16,c4,c5,c12,c9,c13,c8⟩) (fun hS=>?_);replace BE:=qH BE.out.drew
     generalize w4.drew=w5 at *;clear c16 c4 c5 c12 c9 c13 c8;refine tl 0 86 (v:=?_) rfl ?_ ?_;rotate_left
     ·
      intro w hSw;go_simp
      with_reducible rfl
     simp only[PU];refine tl 1 87 (v:=?_) rfl ?_ ?_;rotate_left
     ·
      intro w hSw;go_simp
      with_reducible rfl
     simp only[PU];refine tl 2 88 (v:=?_) rfl ?_ ?_;rotate_left
     ·
      intro w hSw;go_simp
      with_reducible rfl
     simp only[PU];refine tl 3 89 (v:=?_) rfl ?_ ?_;rotate_left
     ·
      intro w hSw;have a0:=hSw.1;go_simp
      with_reducible rfl
     simp only[PU];refine tl 4 90 (v:=?_) rfl ?_ ?_;rotate_left
     ·
      intro w hSw;go_simp
      with_reducible rfl
     simp only[PU];refine tl 5 91 (v:=?_) rfl ?_ ?_;rotate_left
     ·
      intro w hSw;go_simp
      with_reducible rfl
     simp only[PU];refine tl 6 92 (v:=?_) rfl ?_ ?_;rotate_left
     ·
      intro w hSw;go_simp
      with_reducible rfl
     simp only[PU];refine tl 7 93 (v:=?_) rfl ?_ ?_;rotate_left
     ·
      intro w hSw;go_simp
      with_reducible rfl
     simp only[PU];refine tl 8 94 (v:=?_) rfl ?_ ?_;rotate_left
     ·
      intro w hSw;go_simp
      with_reducible rfl
     simp only[PU];refine tl 9 95 (v:=?_) rfl ?_ ?_;rotate_left
     ·
      intro w hSw;go_simp
      with_reducible rfl
     simp only[PU];refine tl 10 96 (v:=?_) rfl ?_ ?_;rotate_left
     ·
      intro w hSw;have a0:=hSw.2.1;go_simp
      with_reducible rfl
     simp only[PU];refine tl 11 97 (v:=?_) rfl ?_ ?_;rotate_left
     ·
      intro w hSw;go_simp
      with_reducible rfl
     simp only[PU];refine tl 12 98 (v:=?_) rfl ?_ ?_;rotate_left
     ·
      intro w hSw;go_simp
      with_reducible rfl
     simp only[PU];refine tl 13 99 (v:=?_) rfl ?_ ?_;rotate_left
     ·
      intro w hSw;go_simp
      with_reducible rfl
     simp only[PU];refine tl 14 100 (v:=?_) rfl ?_ ?_;rotate_left
     ·
      intro w hSw;go_simp
      with_reducible rfl
     simp only[PU];refine tl 15 101 (v:=?_) rfl ?_ ?_;rotate_left
     ·
      intro w hSw;have a0:=hSw.2.2.1;go_simp
      with_reducible rfl
     simp only[PU];refine tl 16 102 (v:=?_) rfl ?_ ?_;rotate_left
     ·
      intro w hSw;go_simp
      with_reducible rfl
     simp only[PU];refine tl 17 103 (v:=?_) rfl ?_ ?_;rotate_left
     ·
      intro w hSw;go_simp
      with_reducible rfl
     simp only[PU];have HSF:=qH hS;refine wpAnyH_done (by kernel_rfl) ?_ _;clear hS;go_upto_region 26 with fail
     refine wp_region_held_drew (S:=(fun w'=>w'.cell? ⟨g,16,none⟩=some (.bool true)∧w'.cell? ⟨g,4,none⟩=some (.bool false)∧w'.cell? ⟨g,5,none⟩=some (.bool false)∧w'.cell? ⟨g,12,none⟩=some (.int .i64 n4.ga)∧w'.cell? ⟨g,9,none⟩=some (.int .i64 n4.sb)∧w'.cell? ⟨g,13,none⟩=some (.int .i64 n4.gb)∧w'.cell? ⟨g,8,none⟩=some (.int .i64 n4.sa))) (by kernel_rfl) (HSF.out) (fun hS=>?_);replace BE:=qH BE.out.drew
     generalize w5.drew=w6 at *;clear HSF;refine tl 0 104 (v:=?_) rfl ?_ ?_;rotate_left
     ·
      intro w hSw;go_simp
      with_reducible rfl
     simp only[PU];refine tl 1 105 (v:=?_) rfl ?_ ?_;rotate_left
     ·
      intro w hSw;go_simp
      with_reducible rfl
     simp only[PU];refine tl 2 106 (v:=?_) rfl ?_ ?_;rotate_left
     ·
      intro w hSw;go_simp
      with_reducible rfl
     simp only[PU];refine tl 3 107 (v:=?_) rfl ?_ ?_;rotate_left
     ·
      intro w hSw;go_simp
      with_reducible rfl
     simp only[PU];refine tl 4 108 (v:=?_) rfl ?_ ?_;rotate_left
     ·
      intro w hSw;have a0:=hSw.2.1;go_simp
      with_reducible rfl
     simp only[PU];refine tl 5 109 (v:=?_) rfl ?_ ?_;rotate_left
     ·
      intro w hSw;go_simp
      with_reducible rfl
     simp only[PU];refine tl 6 110 (v:=?_) rfl ?_ ?_;rotate_left
     ·
      intro w hSw;go_simp
      with_reducible rfl
     simp only[PU];refine tks (i:=7) rfl (by rfl) (by assumption) ?_;change wpAnyH _ _ _ _ _ _ _ (Act.put _ (some 111) _) _;simp only[PU];refine tks (i:=8) rfl (by rfl) (by assumption) ?_;change wpAnyH _ _ _ _ _ _ _ (Act.put _ (some 112) _) _;simp only[PU];refine tks (i:=9) rfl (by rfl) (by assumption) ?_;change wpAnyH _ _ _ _ _ _ _ (Act.put _ (some 113) _) _;simp only[PU];refine tks (i:=10) rfl (by rfl) (by assumption) ?_
     change wpAnyH _ _ _ _ _ _ _ (Act.put _ (some 114) _) _;simp only[PU];refine tks (i:=11) rfl (by rfl) (by assumption) ?_;change wpAnyH _ _ _ _ _ _ _ (Act.put _ (some 115) _) _;simp only[PU];refine tks (i:=12) rfl (by rfl) (by assumption) ?_;change wpAnyH _ _ _ _ _ _ _ (Act.put _ (some 116) _) _;simp only[PU];refine tks (i:=13) rfl (by rfl) (by assumption) ?_;change wpAnyH _ _ _ _ _ _ _ (Act.put _ (some 117) _) _
     simp only[PU];refine tks (i:=14) rfl (by rfl) (by assumption) ?_;change wpAnyH _ _ _ _ _ _ _ (Act.put _ (some 118) _) _;simp only[PU];refine tks (i:=15) rfl (by rfl) (by assumption) ?_;change wpAnyH _ _ _ _ _ _ _ (Act.put _ (some 119) _) _;simp only[PU];refine tks (i:=16) rfl (by rfl) (by assumption) ?_;change wpAnyH _ _ _ _ _ _ _ (Act.put _ (some 120) _) _;simp only[PU];refine tks (i:=17) rfl (by rfl) (by assumption) ?_
     change wpAnyH _ _ _ _ _ _ _ (Act.put _ (some 121) _) _;simp only[PU];refine tks (i:=18) rfl (by rfl) (by assumption) ?_;change wpAnyH _ _ _ _ _ _ _ (Act.put _ (some 122) _) _;simp only[PU];refine tks (i:=19) rfl (by rfl) (by assumption) ?_;change wpAnyH _ _ _ _ _ _ _ (Act.put _ (some 123) _) _;simp only[PU];refine tks (i:=20) rfl (by rfl) (by assumption) ?_;change wpAnyH _ _ _ _ _ _ _ (Act.put _ (some 124) _) _
     simp only[PU];refine tks (i:=21) rfl (by rfl) (by assumption) ?_;change wpAnyH _ _ _ _ _ _ _ (Act.put _ (some 125) _) _;simp only[PU];refine tks (i:=22) rfl (by rfl) (by assumption) ?_;change wpAnyH _ _ _ _ _ _ _ (Act.put _ (some 126) _) _;simp only[PU];refine tks (i:=23) rfl (by rfl) (by assumption) ?_;change wpAnyH _ _ _ _ _ _ _ (Act.put _ (some 127) _) _;simp only[PU];refine tks (i:=24) rfl (by rfl) (by assumption) ?_
     change wpAnyH _ _ _ _ _ _ _ (Act.put _ (some 128) _) _;simp only[PU];refine tks (i:=25) rfl (by rfl) (by assumption) ?_;change wpAnyH _ _ _ _ _ _ _ (Act.put _ (some 129) _) _;simp only[PU];refine tks (i:=26) rfl (by rfl) (by assumption) ?_;change wpAnyH _ _ _ _ _ _ _ (Act.put _ (some 130) _) _;simp only[PU];refine tks (i:=27) rfl (by rfl) (by assumption) ?_;change wpAnyH _ _ _ _ _ _ _ (Act.put _ (some 131) _) _
     simp only[PU];refine tks (i:=28) rfl (by rfl) (by assumption) ?_;change wpAnyH _ _ _ _ _ _ _ (Act.put _ (some 132) _) _;simp only[PU];refine tks (i:=29) rfl (by rfl) (by assumption) ?_;change wpAnyH _ _ _ _ _ _ _ (Act.put _ (some 133) _) _;simp only[PU];refine tks (i:=30) rfl (by rfl) (by assumption) ?_;change wpAnyH _ _ _ _ _ _ _ (Act.put _ (some 134) _) _;simp only[PU];refine tl 31 135 (v:=?_) rfl ?_ ?_
     rotate_left
     ·
      intro w hSw;go_simp
      with_reducible rfl
     simp only[PU];refine tl 32 2 (v:=?_) rfl ?_ ?_;rotate_left
     ·
      intro w hSw;go_simp
      with_reducible rfl
     simp only[PU];refine wpAnyH_done (by kernel_rfl) ?_ _;clear hS;go_wp2_with fail;go_ret;exact⟨rfl,BE.out⟩
    ·
     obtain⟨e1,e2⟩:=HPE.out rfl;rw[e1] at c12;rw[e2] at c13;have h1:(n4.sb==n4.sb)=true:=beq_self_eq_true _;have h2:(n4.sa==n4.sa)=true:=beq_self_eq_true _;go_upto_region 24 with fail
     refine wp_region_held_drew (S:=(fun w'=>w'.cell? ⟨g,16,none⟩=some (.bool true)∧w'.cell? ⟨g,4,none⟩=some (.bool true)∧w'.cell? ⟨g,5,none⟩=some (.bool true)∧w'.cell? ⟨g,12,none⟩=some (.int .i64 n4.sb)∧w'.cell? ⟨g,9,none⟩=some (.int .i64 n4.sb)∧w'.cell? ⟨g,13,none⟩=some (.int .i64 n4.sa)∧w'.cell? ⟨g,8,none⟩=some (.int .i64 n4.sa))) (by kernel_rfl) (⟨c16,c4,c5,c12,c9,c13,c8⟩) (fun hS=>?_);replace BE:=qH BE.out.drew
     generalize w4.drew=w5 at *;clear c16 c4 c5 c12 c9 c13 c8;refine tl 0 86 (v:=?_) rfl ?_ ?_;rotate_left
     ·
      intro w hSw;go_simp
      with_reducible rfl
     simp only[PU];refine tl 1 87 (v:=?_) rfl ?_ ?_;rotate_left
     ·
      intro w hSw;go_simp
      with_reducible rfl
     simp only[PU];refine tl 2 88 (v:=?_) rfl ?_ ?_;rotate_left
     ·
      intro w hSw;go_simp
      with_reducible rfl
     simp only[PU];refine tl 3 89 (v:=?_) rfl ?_ ?_;rotate_left
     ·
      intro w hSw;have a0:=hSw.1;go_simp
      with_reducible rfl
     simp only[PU];refine tl 4 90 (v:=?_) rfl ?_ ?_;rotate_left
     ·
      intro w hSw;go_simp
      with_reducible rfl
     simp only[PU];refine tl 5 91 (v:=?_) rfl ?_ ?_;rotate_left
     ·
      intro w hSw;go_simp
      with_reducible rfl
     simp only[PU];refine tl 6 92 (v:=?_) rfl ?_ ?_;rotate_left
     ·
      intro w hSw;go_simp
      with_reducible rfl
     simp only[PU];refine tl 7 93 (v:=?_) rfl ?_ ?_;rotate_left
     ·
      intro w hSw;go_simp
      with_reducible rfl
     simp only[PU];refine tl 8 94 (v:=?_) rfl ?_ ?_;rotate_left
     ·
      intro w hSw;go_simp
      with_reducible rfl
     simp only[PU];refine tl 9 95 (v:=?_) rfl ?_ ?_;rotate_left
     ·
      intro w hSw;go_simp
      with_reducible rfl
     simp only[PU];refine tl 10 96 (v:=?_) rfl ?_ ?_;rotate_left
     ·
      intro w hSw;have a0:=hSw.2.1;go_simp
      with_reducible rfl
     simp only[PU];refine tl 11 97 (v:=?_) rfl ?_ ?_;rotate_left
     ·
      intro w hSw;go_simp
      with_reducible rfl
     simp only[PU];refine tl 12 98 (v:=?_) rfl ?_ ?_;rotate_left
     ·
      intro w hSw;go_simp
      with_reducible rfl
     simp only[PU];refine tl 13 99 (v:=?_) rfl ?_ ?_;rotate_left
     ·
      intro w hSw;go_simp
      with_reducible rfl
     simp only[PU];refine tl 14 100 (v:=?_) rfl ?_ ?_;rotate_left
     ·
      intro w hSw;go_simp
      with_reducible rfl
     simp only[PU];refine tl 15 101 (v:=?_) rfl ?_ ?_;rotate_left
     ·
      intro w hSw;have a0:=hSw.2.2.1;go_simp
      with_reducible rfl
     simp only[PU];refine tl 16 102 (v:=?_) rfl ?_ ?_;rotate_left
     ·
      intro w hSw;go_simp
      with_reducible rfl
     simp only[PU];refine tl 17 103 (v:=?_) rfl ?_ ?_;rotate_left
     ·
      intro w hSw;go_simp
      with_reducible rfl
     simp only[PU];have HSF:=qH hS;refine wpAnyH_done (by kernel_rfl) ?_ _;clear hS;go_upto_region 26 with fail
     refine wp_region_held_drew (S:=(fun w'=>w'.cell? ⟨g,16,none⟩=some (.bool true)∧w'.cell? ⟨g,4,none⟩=some (.bool true)∧w'.cell? ⟨g,5,none⟩=some (.bool true)∧w'.cell? ⟨g,12,none⟩=some (.int .i64 n4.sb)∧w'.cell? ⟨g,9,none⟩=some (.int .i64 n4.sb)∧w'.cell? ⟨g,13,none⟩=some (.int .i64 n4.sa)∧w'.cell? ⟨g,8,none⟩=some (.int .i64 n4.sa))) (by kernel_rfl) (HSF.out) (fun hS=>?_);replace BE:=qH BE.out.drew
     generalize w5.drew=w6 at *;clear HSF;refine tl 0 104 (v:=?_) rfl ?_ ?_;rotate_left
     ·
      intro w hSw;go_simp
      with_reducible rfl
     simp only[PU];refine tl 1 105 (v:=?_) rfl ?_ ?_;rotate_left
     ·
      intro w hSw;go_simp
      with_reducible rfl
     simp only[PU];refine tl 2 106 (v:=?_) rfl ?_ ?_;rotate_left
     ·
      intro w hSw;go_simp
      with_reducible rfl
     simp only[PU];refine tl 3 107 (v:=?_) rfl ?_ ?_;rotate_left
     ·
      intro w hSw;go_simp
      with_reducible rfl
     simp only[PU];refine tl 4 108 (v:=?_) rfl ?_ ?_;rotate_left
     ·
      intro w hSw;have a0:=hSw.2.1;go_simp
      with_reducible rfl
     simp only[PU];refine tl 5 109 (v:=?_) rfl ?_ ?_;rotate_left
     ·
      intro w hSw;go_simp
      with_reducible rfl
     simp only[PU];refine tl 6 110 (v:=?_) rfl ?_ ?_;rotate_left
     ·
      intro w hSw;go_simp
      with_reducible rfl
     simp only[PU];refine tl 7 111 (v:=?_) rfl ?_ ?_;rotate_left
     ·
      intro w hSw;go_simp
      with_reducible rfl
     simp only[PU];refine tl 8 112 (v:=?_) rfl ?_ ?_;rotate_left
     ·
      intro w hSw;go_simp
      with_reducible rfl
     simp only[PU];refine tl 9 113 (v:=?_) rfl ?_ ?_;rotate_left
     ·
      intro w hSw;go_simp
      with_reducible rfl
     simp only[PU];refine tl 10 114 (v:=?_) rfl ?_ ?_;rotate_left
     ·
      intro w hSw;go_simp
      with_reducible rfl
     simp only[PU];refine tl 11 115 (v:=?_) rfl ?_ ?_;rotate_left
     ·
      intro w hSw;have a0:=hSw.2.2.2.1;go_simp
      with_reducible rfl
     simp only[PU];refine tl 12 116 (v:=?_) rfl ?_ ?_;rotate_left
     ·
      intro w hSw;go_simp
      with_reducible rfl
     simp only[PU];refine tl 13 117 (v:=?_) rfl ?_ ?_;rotate_left
     ·
      intro w hSw;go_simp
      with_reducible rfl
     simp only[PU];refine tl 14 118 (v:=?_) rfl ?_ ?_;rotate_left
     ·
      intro w hSw;go_simp
      with_reducible rfl
     simp only[PU];refine tl 15 119 (v:=?_) rfl ?_ ?_;rotate_left
     ·
      intro w hSw;go_simp
      with_reducible rfl
     simp only[PU];refine tl 16 120 (v:=?_) rfl ?_ ?_;rotate_left
     ·
      intro w hSw;have a0:=hSw.2.2.2.2.1;go_simp
      with_reducible rfl
     simp only[PU];refine tl 17 121 (v:=?_) rfl ?_ ?_;rotate_left
     ·
      intro w hSw;go_simp
      with_reducible rfl
     simp only[PU];refine tl 18 122 (v:=?_) rfl ?_ ?_;rotate_left
     ·
      intro w hSw;go_simp
      with_reducible rfl
     simp only[PU];refine tl 19 123 (v:=?_) rfl ?_ ?_;rotate_left
     ·
      intro w hSw;go_simp
      with_reducible rfl
     simp only[PU];refine tl 20 124 (v:=?_) rfl ?_ ?_;rotate_left
     ·
      intro w hSw;go_simp
      with_reducible rfl
     simp only[PU];refine tl 21 125 (v:=?_) rfl ?_ ?_;rotate_left
     ·
      intro w hSw;go_simp
      with_reducible rfl
     simp only[PU];refine tl 22 126 (v:=?_) rfl ?_ ?_;rotate_left
     ·
      intro w hSw;go_simp
      with_reducible rfl
     simp only[PU];refine tl 23 127 (v:=?_) rfl ?_ ?_;rotate_left
     ·
      intro w hSw;have a0:=hSw.2.2.2.2.2.1;go_simp
      with_reducible rfl
     simp only[PU];refine tl 24 128 (v:=?_) rfl ?_ ?_;rotate_left
     ·
      intro w hSw;go_simp
      with_reducible rfl
     simp only[PU];refine tl 25 129 (v:=?_) rfl ?_ ?_;rotate_left
     ·
      intro w hSw;go_simp
      with_reducible rfl
     simp only[PU];refine tl 26 130 (v:=?_) rfl ?_ ?_;rotate_left
     ·
      intro w hSw;go_simp
      with_reducible rfl
     simp only[PU];refine tl 27 131 (v:=?_) rfl ?_ ?_;rotate_left
     ·
      intro w hSw;go_simp
      with_reducible rfl
     simp only[PU];refine tl 28 132 (v:=?_) rfl ?_ ?_;rotate_left
     ·
      intro w hSw;have a0:=hSw.2.2.2.2.2.2;go_simp
      with_reducible rfl
     simp only[PU];refine tl 29 133 (v:=?_) rfl ?_ ?_;rotate_left
     ·
      intro w hSw;go_simp
      with_reducible rfl
     simp only[PU];refine tl 30 134 (v:=?_) rfl ?_ ?_;rotate_left
     ·
      intro w hSw;go_simp
      with_reducible rfl
     simp only[PU];refine tl 31 135 (v:=?_) rfl ?_ ?_;rotate_left
     ·
      intro w hSw;go_simp
      with_reducible rfl
     simp only[PU];refine tl 32 2 (v:=?_) rfl ?_ ?_;rotate_left
     ·
      intro w hSw;go_simp
      with_reducible rfl
     simp only[PU];refine wpAnyH_done (by kernel_rfl) ?_ _;clear hS;go_wp2_with fail;go_ret;exact⟨rfl,BE.out⟩
end Go.Proofs.YtoaimoemaoinhaaGreatDoor
namespace Go.Proofs.YtoaimoemaoinhaaGreatDoor
open Go.ChangeShapes Go.WideShapes Go.ChangeAt Go.RowKit
abbrev laid2 {H:Type} : List (String×DataW H):=[("stagehand/digest.start",Rows.laid_stagehand_digest_start),("stagehand/digest.rounds",Rows.laid_stagehand_digest_rounds)]
theorem own : ownKnob Tryz.prog.godebug=none:=by kernel_rfl
theorem door_met (os:Os) (args:Array Value):laidMetH Tryz.prog laid2 ((World.doorLaid Tryz.prog 400 os).forCall (fun _ _=>0) ⟨#[],args,[]⟩).memory:=
 laidMetH_of_parts3 (fuel:=8) (laidMet_of_run' 8 (by kernel_rfl) (by kernel_rfl)) (by kernel_rfl) (by kernel_rfl)
end Go.Proofs.YtoaimoemaoinhaaGreatDoor
