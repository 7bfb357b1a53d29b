/- PeersX: a part of the proof. No condition beyond the premises of each theorem. -/
import Derived.Test.YtoaimoemaoinhaaGreatDoorQp27
import Derived.Test.YtoaimoemaoinhaaGreatDoorQp08
import Derived.Deep.Upon
import Derived.Test.YtoaimoemaoinhaaGreatDoorQp00
set_option maxRecDepth 100000
namespace Go.Proofs.YtoaimoemaoinhaaGreatDoor
open Go.RowKit Go.Rt Go.Rw Go.Mp
abbrev GF := Nd→ByteArray→Cx→ByteArray→Nd×List Ev
def handN (G:GF) (n:Nd) (k:ByteArray) (x:Cx) (px:Px):Nd×List Ev:=
 if px.kind=72 then shakesN n k x px.cont else if px.kind=70 then G n k x px.cont else (endsN n k x px.cont,remE k x)
def matchB (x:Cx) (px:Px):Bool:=x.num==px.num && !(x.dials==px.dials)
def helB (px:Px):Bool:=px.dials&&px.kind==72
def gotN (G:GF) (n:Nd) (k:ByteArray) (px:Px):Option Cx→Nd×List Ev
 | none=>if helB px then helloN n k px.num px.cont else (n,[])
 | some x=>if matchB x px then handN G n k x px else if helB px then helloN n k px.num px.cont else (n,[])
def badN (n:Nd) (k:ByteArray):Option Cx→Nd×List Ev
 | none=>(n,[])
 | some x=>(closeN n k x,remE k x)
def pktE (G:GF) (n:Nd) (k:ByteArray):Option Px→Nd×List Ev
 | none=>badN n k (get n.C k)
 | some px=>gotN G n k px (get n.C k)
def pktN (G:GF) (n:Nd) (k data:ByteArray):(Nd×List Ev)×Int:=
 if otherB n k=false then ((n,[]),2) else (pktE G n k (readF data),0)
def DonePk (w:World) (base:Nat) (a:Nm) (R:Nd×List Ev) (c:Int) (e:Ending) (w':World):Prop:=
 ∃ v a',e = .returned (.tuple #[v,.int .i64 c])∧EvsAt w.heap.size w' v R.2∧NdAt w' base R.1 a'∧Trail w w' a a'
theorem DonePk.of {w w1 w2:World} {base:Nat} {a a1:Nm} {R:Nd×List Ev} {v:Value} (t:Trail w w1 a a1) (h:Done w1 base a1 R.1 R.2 (.returned v) w2):DonePk w base a R 0 (.returned (.tuple #[v,.int .i64 0])) w2:=by
 obtain⟨v',a',h1,h2,h3,h4⟩:=Done.from t h;cases h1;exact⟨v,a',rfl,h2,h3,h4⟩
theorem readp_any (b:ByteArray) (hb:b.size≤9223372036854775807) (w:World):Calls Tryz.prog 39 #[.string b] w (ReadP b w):=by
 cases h:hdB b with
 | false=>exact readp_no b hb h w
 | true=>exact readp_yes b hb h w
def u8V (n:Int):Value:=.int .u8 n
def fnV (g:Nat) (f:Nat):Value:=.func (.func f) #[ptrV g] #[]
theorem readF_some {b:ByteArray} {px:Px} (h:readF b=some px):px.cont.size≤b.size∧(px.kind=72∨px.kind=70∨px.kind=66):=by
 unfold readF at h;split at h
 ·
  rename_i q;cases h;simp only[Bool.and_eq_true,okK,Bool.or_eq_true,beq_iff_eq] at q;refine⟨by show (b.extract 10 b.size).size≤_;rw[ByteArray.size_extract];omega,?_⟩;rcases q.2 with (z|z)|z
  ·
   exact .inl z
  ·
   exact .inr (.inl z)
  ·
   exact .inr (.inr z)
 ·
  cases h
theorem zero107 (w:World):(zeroValue 107).run Tryz.prog w = .ok .nilFunc w:=by kernel_rfl
theorem Below.putObj {B:Nat} {a w:World} (h:Below B a w) (b:Nat) (o:Obj) (hB:B≤w.heap.size) (hb:B≤b):Below B a (w.putObj b o):=h.grown (putObj_grown w b o) hB (fun k hk=>by cases hk;exact hb)
theorem hands_map (g:Nat) (w:World):∃ o1 o2 o3,
  (Instr.mapUpdate 108 (.map (some w.heap.size)) (.int .u8 72) (fnV g 41)).run Tryz.prog (w.alloc (.map #[] 0)) = .ok () ((w.alloc (.map #[] 0)).putObj w.heap.size o1) ∧
  (Instr.mapUpdate 108 (.map (some w.heap.size)) (.int .u8 70) (fnV g 42)).run Tryz.prog ((w.alloc (.map #[] 0)).putObj w.heap.size o1) = .ok () (((w.alloc (.map #[] 0)).putObj w.heap.size o1).putObj w.heap.size o2) ∧
  (Instr.mapUpdate 108 (.map (some w.heap.size)) (.int .u8 66) (fnV g 43)).run Tryz.prog (((w.alloc (.map #[] 0)).putObj w.heap.size o1).putObj w.heap.size o2) = .ok () ((((w.alloc (.map #[] 0)).putObj w.heap.size o1).putObj w.heap.size o2).putObj w.heap.size o3) ∧
  Below w.heap.size w ((((w.alloc (.map #[] 0)).putObj w.heap.size o1).putObj w.heap.size o2).putObj w.heap.size o3) ∧
  ∀ (n f:Nat),get ([(72,41),(70,42),(66,43)]:List (Int×Nat)) (n:Int)=some f→(Instr.lookup 108 (.map (some w.heap.size)) (.int .u8 (n:Int)) false).run Tryz.prog ((((w.alloc (.map #[] 0)).putObj w.heap.size o1).putObj w.heap.size o2).putObj w.heap.size o3) = .ok (fnV g f) ((((w.alloc (.map #[] 0)).putObj w.heap.size o1).putObj w.heap.size o2).putObj w.heap.size o3):=by
 have m0:=MapAt.new (K:=Int) (V:=Nat) w u8V (fnV g);obtain⟨o1,h1,m1⟩:=run_update (P:=Tryz.prog) (int_emb Tryz.underlying5) Tryz.underlying108 m0 72 41;obtain⟨o2,h2,m2⟩:=run_update (P:=Tryz.prog) (int_emb Tryz.underlying5) Tryz.underlying108 m1 70 42;obtain⟨o3,h3,m3⟩:=run_update (P:=Tryz.prog) (int_emb Tryz.underlying5) Tryz.underlying108 m2 66 43;have z0:=(Below.refl w.heap.size w).alloc (Nat.le_refl _) (.map #[] 0)
 have z1:=Below.putObj z0 w.heap.size o1 z0.size (Nat.le_refl _);have z2:=Below.putObj z1 w.heap.size o2 z1.size (Nat.le_refl _);have z3:=Below.putObj z2 w.heap.size o3 z2.size (Nat.le_refl _);refine⟨o1,o2,o3,h1,h2,h3,z3,fun n f hf=>?_⟩
 have:=run_lookup1 (int_emb Tryz.underlying5) Tryz.underlying108 m3 (zero107 _) (n:Int)
 rw[show put (put (put ([]:List (Int×Nat)) 72 41) 70 42) 66 43 = [(72,41),(70,42),(66,43)] from rfl,hf] at this;exact this
def cL (k:ByteArray):Option Cx→List (ByteArray×Cx)
 | none=>[]
 | some x=>[(k,x)]
def qL (k:ByteArray):List ByteArray→List (ByteArray×List ByteArray)
 | []=>[]
 | p::r=>[(k,p::r)]
def lL (k:ByteArray):Bool→List (ByteArray×Int)
 | false=>[]
 | true=>[(k,1)]
def mkN (me ot ck:ByteArray) (ch di:Nat) (c:Option Cx) (l:Bool) (q:List ByteArray):Nd:=⟨me,1,ck,ch,di,cL ot c,qL ot q,lL ot l⟩
section
variable {me ot ck:ByteArray} {ch di:Nat} {c:Option Cx} {l:Bool} {q:List ByteArray}
theorem mk_getC : get (mkN me ot ck ch di c l q).C ot=c:=by cases c<;>simp[mkN,cL,Mp.get]
theorem mk_getO : (get (mkN me ot ck ch di c l q).O ot).getD []=q:=by cases q<;>simp[mkN,qL,Mp.get]
theorem mk_getL : (get (mkN me ot ck ch di c l q).L ot).getD 0≤1:=by cases l<;>simp[mkN,lL,Mp.get]
theorem mk_send (p:ByteArray):sendN (mkN me ot ck ch di c l q) ot p=mkN me ot ck ch di c l (q ++ [p]):=by cases q<;>simp[sendN,mkN,qL,Mp.get,put]
theorem mk_rem : remN (mkN me ot ck ch di c l q) ot=mkN me ot ck ch di none l q:=by cases c<;>simp[remN,mkN,cL,del]
theorem mk_set (x:Cx):setC (mkN me ot ck ch di c l q) ot x=mkN me ot ck ch di (some x) l q:=by cases c<;>simp[setC,mkN,cL,put]
theorem mk_next : nextN (mkN me ot ck ch di c l q)=mkN me ot ck (ch+1) di c l q:=rfl
theorem mk_lst : setL (mkN me ot ck ch di c l q) ot 1=mkN me ot ck ch di c true q:=by cases l<;>simp[setL,mkN,lL,put]
theorem mk_drop : dropO (mkN me ot ck ch di c l q) ot=mkN me ot ck ch di c l []:=by cases q<;>simp[dropO,mkN,qL,del]
theorem mk_outQ : outQ (mkN me ot ck ch di c l q) ot=q:=mk_getO
end
structure Two (me ot:ByteArray):Prop where
 nm:nameF me=true
 no:nameF ot=true
 ne:(ot.toList==me.toList)=false
theorem Two.pr {me ot:ByteArray} (T:Two me ot):Sk.PrOk ⟨me,1⟩:=⟨T.nm,Nat.le_refl _,by show (1:Nat)≤_;omega⟩
theorem Two.po {me ot:ByteArray} (T:Two me ot):Sk.PrOk ⟨ot,1⟩:=⟨T.no,Nat.le_refl _,by show (1:Nat)≤_;omega⟩
theorem Two.flip {me ot:ByteArray} (T:Two me ot):Two ot me:=⟨T.no,T.nm,by
 have:=T.ne
 rw[beq_eq_false_iff_ne] at this ⊢;exact fun e=>this e.symm⟩
theorem seqB_refl' (a:ByteArray):Sk.seqB a a=true:=Sk.seqB_eq.2 rfl
theorem atB_right (a b:ByteArray) (i:Nat):atB (a++b) (a.size+i)=atB b i:=by
 rw[Sk.atB_list,Sk.atB_list,Sk.app_list,Sk.size_list,List.getElem?_append_right (Nat.le_add_right _ _),Nat.add_sub_cancel_left]
theorem readF_pk (d:Bool) (n:Nat) (kind:UInt8) (cont:ByteArray) (hn:n<18446744073709551616) (hk:okK kind.toNat=true):readF (pkF d n kind cont)=some ⟨d,n,kind.toNat,cont⟩:=by
 have z8:=Sk.numF_size n 8;have z1:∀ x:UInt8,(ByteArray.mk #[x]).size=1:=fun _=>rfl
 have hs:(pkF d n kind cont).size=10+cont.size:=by
  unfold pkF;simp only[ByteArray.size_append,z8,z1]
 have h0:atB (pkF d n kind cont) 0=if d then 68 else 76:=by
  unfold pkF;rw[Sk.atB_left _ _ _ (by simp only[ByteArray.size_append,z8,z1];omega),Sk.atB_left _ _ _ (by simp only[ByteArray.size_append,z8,z1];omega),Sk.atB_left _ _ _ (by rw[z1];omega)];cases d<;>rfl
 have h9:atB (pkF d n kind cont) 9=kind.toNat:=by
  unfold pkF;rw[Sk.atB_left _ _ _ (by simp only[ByteArray.size_append,z8,z1];omega)]
  have:=atB_right (ByteArray.mk #[if d then 68 else 76]++Sk.numF n 8) (ByteArray.mk #[kind]) 0
  rw[ByteArray.size_append,z8,z1] at this;exact this.trans rfl
 have x1:(pkF d n kind cont).extract 1 9=Sk.numF n 8:=by
  unfold pkF
  have:=Sk.ext_mid (ByteArray.mk #[if d then 68 else 76]) (Sk.numF n 8) (ByteArray.mk #[kind]++cont)
  rw[z8,z1,←ByteArray.append_assoc] at this;exact this
 have x2:(pkF d n kind cont).extract 10 (pkF d n kind cont).size=cont:=by
  unfold pkF
  have:=Sk.ext_right (ByteArray.mk #[if d then 68 else 76]++Sk.numF n 8++ByteArray.mk #[kind]) cont
  rw[show (ByteArray.mk #[if d then 68 else 76]++Sk.numF n 8++ByteArray.mk #[kind]).size=10 by simp only[ByteArray.size_append,z8,z1]] at this;exact this
 unfold readF hdB pxF;rw[h0,h9,hk,x1,x2,Sk.valF_num_eq n 8 (by omega),hs,decide_eq_true (by omega)];cases d<;>rfl
def cD (me ot ck:ByteArray) (num kx:Nat):Cx:=⟨true,num,Sk.dialS ⟨me,1⟩ ot ck kx,0,[],0⟩
def cE (me ot ck:ByteArray) (num kx ky:Nat):Cx:=⟨true,num,Sk.dia1 ⟨me,1⟩ ot ck kx ⟨ot,1⟩ ky,0,[],0⟩
def cI (me ot ck:ByteArray) (num ky:Nat):Cx:=⟨false,num,Sk.lis2 ⟨me,1⟩ ck ky ⟨ot,1⟩,0,[],0⟩
def cU (me ot ck:ByteArray) (num kx ky id:Nat):Cx:=⟨true,num,Sk.dia2 ⟨me,1⟩ ot ck kx ⟨ot,1⟩ ky,1,[],id⟩
def cV (me ot ck:ByteArray) (num kx ky id:Nat):Cx:=⟨false,num,Sk.lis3 ⟨me,1⟩ ck ky ⟨ot,1⟩ kx,1,[],id⟩
def pH (fr tt:ByteArray) (num:Nat):ByteArray:=pkF true num 72 (Sk.helloF ⟨fr,1⟩ tt)
def pY (num:Nat):ByteArray:=pkF false num 72 (Sk.statusC++Sk.numF 2 1)
def pO (fr:ByteArray) (num ky:Nat):ByteArray:=pkF false num 72 (Sk.offerM ⟨fr,1⟩ ky)
def pR (fr tt ck:ByteArray) (num kx ky:Nat):ByteArray:=pkF true num 72 (Sk.replyM kx (Sk.proofD ⟨fr,1⟩ ⟨tt,1⟩ ck kx ky))
def pA (fr tt ck:ByteArray) (num kx ky:Nat):ByteArray:=pkF false num 72 (Sk.ackC++Sk.proofL ⟨tt,1⟩ ⟨fr,1⟩ ck kx ky)
section
variable {me ot ck:ByteArray} {ch di:Nat} {c:Option Cx} {l:Bool} {G:GF}
theorem pkt_eq (T:Two me ot) (px:Px) (b:ByteArray) (hb:readF b=some px):pktN G (mkN me ot ck ch di c l []) ot b=(gotN G (mkN me ot ck ch di c l []) ot px c,0):=by
 have ho:otherB (mkN me ot ck ch di c l []) ot=true:=by
  show (nameF ot && !(ot.toList==me.toList))=true;rw[T.no,T.ne];rfl
 unfold pktN pktE;rw[if_neg (by rw[ho];decide),hb,mk_getC]
theorem helS_eq (T:Two me ot):helS (mkN me ot ck ch di c l []) (Sk.helloF ⟨ot,1⟩ me)=(Sk.lis1 ⟨me,1⟩ ck ch ⟨ot,1⟩,⟨#[]⟩,0):=
 Sk.step_hello ⟨ot,1⟩ ⟨me,1⟩ T.po ck ch me T.nm (seqB_refl' _) T.ne
theorem hel_acc (T:Two me ot) (num:Nat) (hc:busyB (mkN me ot ck ch di c l []) ot c=false) :
  helloN (mkN me ot ck ch di c l []) ot num (Sk.helloF ⟨ot,1⟩ me)=(mkN me ot ck (ch+1) di (some (cI me ot ck num ch)) l [pO me num ch],remO ot c):=by
 have hw:howF (mkN me ot ck ch di c l []) ot (Sk.lis1 ⟨me,1⟩ ck ch ⟨ot,1⟩)=1:=by
  unfold howF;rw[if_neg (by have:=@mk_getL me ot ck ch di c l [];show ¬(((1:Nat):Int)<_);omega),mk_getC,hc];rfl
 unfold helloN;simp only[helS_eq T];rw[if_neg (by
  rintro(h|h)
  ·
   exact h rfl
  ·
   exact h rfl),hw,if_neg (by simp),Sk.step_offer,mk_next,mk_rem,mk_set,mk_send,mk_getC]
 rfl
theorem hel_busy (T:Two me ot) (num:Nat) (hc:busyB (mkN me ot ck ch di c l []) ot c=true) :
  helloN (mkN me ot ck ch di c l []) ot num (Sk.helloF ⟨ot,1⟩ me)=(mkN me ot ck (ch+1) di c l [pY num],[]):=by
 have hw:howF (mkN me ot ck ch di c l []) ot (Sk.lis1 ⟨me,1⟩ ck ch ⟨ot,1⟩)=2:=by
  unfold howF;rw[if_neg (by have:=@mk_getL me ot ck ch di c l [];show ¬(((1:Nat):Int)<_);omega),mk_getC,hc];rfl
 unfold helloN;simp only[helS_eq T];rw[if_neg (by
  rintro(h|h)
  ·
   exact h rfl
  ·
   exact h rfl),hw,if_pos (by simp),Sk.answerF_refuse _ 2 (by simp[Sk.lis1]) (by simp),mk_next,mk_send]
 rfl
theorem matchB_dials {x:Cx} {px:Px} (h:x.dials=px.dials):matchB x px=false:=by
 unfold matchB;rw[h]
 simp
theorem p_hello (T:Two me ot) (num:Nat) (hn:num<18446744073709551616) (hc:∀ x,c=some x→x.dials=true∧x.gen=0) (hb:busyB (mkN me ot ck ch di c l []) ot c=false) :
  pktN G (mkN me ot ck ch di c l []) ot (pH ot me num)=((mkN me ot ck (ch+1) di (some (cI me ot ck num ch)) l [pO me num ch],[]),0):=by
 unfold pH;rw[pkt_eq T _ _ (readF_pk true num 72 _ hn rfl)];have e:=hel_acc T num hb;cases c with
 | none=>
  have hg:∀ (n:Nd) (px:Px),gotN G n ot px none=if helB px then helloN n ot px.num px.cont else (n,[]):=fun _ _=>rfl
  rw[hg,if_pos (by rfl),e];rfl
 | some x=>
  obtain⟨h1,h2⟩:=hc x rfl;show ((if matchB x _ then _ else if helB _ then _ else _),_)=_;rw[if_neg (by rw[matchB_dials h1];decide),if_pos (by rfl),e];show ((_,remE ot x),_)=_;unfold remE;rw[if_pos h2]
theorem p_busy (T:Two me ot) (num:Nat) (hn:num<18446744073709551616) (x:Cx) (h1:x.dials=true) (hb:busyB (mkN me ot ck ch di (some x) l []) ot (some x)=true) :
  pktN G (mkN me ot ck ch di (some x) l []) ot (pH ot me num)=((mkN me ot ck (ch+1) di (some x) l [pY num],[]),0):=by
 unfold pH;rw[pkt_eq T _ _ (readF_pk true num 72 _ hn rfl)];show ((if matchB x _ then _ else if helB _ then _ else _),_)=_;rw[if_neg (by rw[matchB_dials h1];decide),if_pos (by rfl),hel_busy T num hb]
theorem p_ignore (T:Two me ot) (num:Nat) (hn:num<18446744073709551616) (x:Cx) (h1:x.dials=false) :
  pktN G (mkN me ot ck ch di (some x) l []) ot (pY num)=((mkN me ot ck ch di (some x) l [],[]),0):=by
 unfold pY;rw[pkt_eq T _ _ (readF_pk false num 72 _ hn rfl)];show ((if matchB x _ then _ else if helB _ then _ else _),_)=_;rw[if_neg (by rw[matchB_dials h1];decide),if_neg (by unfold helB;simp)]
theorem hand72 (T:Two me ot) (x:Cx) (num:Nat) (d:Bool) (cont:ByteArray) (h1:x.num=num) (h2:x.dials = !d) (hn:num<18446744073709551616) :
  pktN G (mkN me ot ck ch di (some x) l []) ot (pkF d num 72 cont)=(shakesN (mkN me ot ck ch di (some x) l []) ot x cont,0):=by
 rw[pkt_eq T _ _ (readF_pk d num 72 _ hn rfl)];show ((if matchB x _ then _ else if helB _ then _ else _),_)=_;rw[if_pos (by unfold matchB;rw[h1,h2];cases d<;>simp)];rfl
theorem out_some (n:Nd) (k:ByteArray) (x:Cx) (out:ByteArray) (h:0<out.size):outN n k x out=sendN n k (pkF x.dials x.num 72 out):=by
 unfold outN;rw[if_neg];intro e;rw[ByteArray.toList_eq] at e;rw[Sk.size_list,e] at h;exact absurd h (by decide)
theorem nil_list : (ByteArray.mk #[]).toList = []:=by rw[ByteArray.toList_eq]
theorem out_none (n:Nd) (k:ByteArray) (x:Cx):outN n k x ⟨#[]⟩=n:=by
 unfold outN;rw[if_pos nil_list]
theorem p_offer (T:Two me ot) (num kx ky:Nat) (hn:num<18446744073709551616) (hk:ky≤18446744073709551615) :
  pktN G (mkN me ot ck ch di (some (cD me ot ck num kx)) l []) ot (pO ot num ky)=((mkN me ot ck ch di (some (cE me ot ck num kx ky)) l [pR me ot ck num kx ky],[]),0):=by
 unfold pO;rw[hand72 T _ num false _ rfl rfl hn];unfold shakesN;rw[if_neg (by simp[cD])];have e:Sk.takeF (cD me ot ck num kx).side (Sk.offerM ⟨ot,1⟩ ky)=(Sk.dia1 ⟨me,1⟩ ot ck kx ⟨ot,1⟩ ky,Sk.replyM kx (Sk.proofD ⟨me,1⟩ ⟨ot,1⟩ ck kx ky),0):=
  Sk.step_reply ⟨me,1⟩ ⟨ot,1⟩ T.po ot ck kx ky hk (seqB_refl' _)
 simp only[e];rw[if_neg (by simp),if_pos (by simp[Sk.dia1,Sk.dialS]),mk_set,out_some _ _ _ _ (by rw[Sk.replyM_size _ _ (Sk.proofD_size ..)];omega),mk_send];rfl
theorem p_reply (T:Two me ot) (num kx ky:Nat) (P:ByteArray) (hP:P.size=32) (hn:num<18446744073709551616) (hk:kx≤18446744073709551615) (h:Sk.seqB P (Sk.proofD ⟨ot,1⟩ ⟨me,1⟩ ck kx ky)=true) :
  pktN G (mkN me ot ck ch di (some (cI me ot ck num ky)) l []) ot (pkF true num 72 (Sk.replyM kx P))=((mkN me ot ck ch di (some (cV me ot ck num kx ky 0)) true [pA me ot ck num kx ky],[upE ot 1]),0):=by
 rw[hand72 T _ num true _ rfl rfl hn];unfold shakesN;rw[if_neg (by simp[cI])];have e:Sk.takeF (cI me ot ck num ky).side (Sk.replyM kx P)=(Sk.lis3 ⟨me,1⟩ ck ky ⟨ot,1⟩ kx,Sk.ackC++Sk.proofL ⟨ot,1⟩ ⟨me,1⟩ ck kx ky,0):=by
  have:=Sk.step_ack ⟨ot,1⟩ ⟨me,1⟩ ck P kx ky hk hP
  rw[h,if_neg (by decide)] at this;exact this
 simp only[e];rw[if_neg (by simp),if_neg (by simp[Sk.lis3,Sk.listenS]),mk_set,out_some _ _ _ _ (by rw[ByteArray.size_append,Sk.proofL_size];omega),mk_send,mk_set]
 have:=@mk_lst me ot ck ch di (some (upX { cI me ot ck num ky with side:=Sk.lis3 ⟨me,1⟩ ck ky ⟨ot,1⟩ kx } (Sk.lis3 ⟨me,1⟩ ck ky ⟨ot,1⟩ kx))) l [pA me ot ck num kx ky]
 exact Prod.ext (Prod.ext this rfl) rfl
theorem p_ack (T:Two me ot) (num kx ky:Nat) (P:ByteArray) (hP:P.size=32) (hn:num<18446744073709551616) (h:Sk.seqB P (Sk.proofL ⟨me,1⟩ ⟨ot,1⟩ ck kx ky)=true) :
  pktN G (mkN me ot ck ch di (some (cE me ot ck num kx ky)) l []) ot (pkF false num 72 (Sk.ackC++P))=((mkN me ot ck ch di (some (cU me ot ck num kx ky 0)) true [],[upE ot 1]),0):=by
 rw[hand72 T _ num false _ rfl rfl hn];unfold shakesN;rw[if_neg (by simp[cE])];have e:Sk.takeF (cE me ot ck num kx ky).side (Sk.ackC++P)=(Sk.dia2 ⟨me,1⟩ ot ck kx ⟨ot,1⟩ ky,⟨#[]⟩,0):=by
  have:=Sk.step_done ⟨me,1⟩ ⟨ot,1⟩ ot ck P kx ky hP
  rw[h,if_neg (by decide)] at this;exact this
 simp only[e];rw[if_neg (by simp),if_neg (by simp[Sk.dia2]),mk_set,out_none,mk_set]
 have:=@mk_lst me ot ck ch di (some (upX { cE me ot ck num kx ky with side:=Sk.dia2 ⟨me,1⟩ ot ck kx ⟨ot,1⟩ ky } (Sk.dia2 ⟨me,1⟩ ot ck kx ⟨ot,1⟩ ky))) l []
 exact Prod.ext (Prod.ext this rfl) rfl
theorem d_yes (T:Two me ot):dialN (mkN me ot ck ch di none l []) ot=(mkN me ot ck (ch+1) (di+1) (some (cD me ot ck (di+1) ch)) l [pH me ot (di+1)],0):=by
 have ho:otherB (mkN me ot ck ch di none l []) ot=true:=by
  show (nameF ot && !(ot.toList==me.toList))=true;rw[T.no,T.ne];rfl
 unfold dialN;rw[if_neg (by rw[ho];decide),if_neg (by rw[mk_getC];simp)];have e:({ mkN me ot ck ch di none l [] with ch:=ch+1,di:=di+1,C:=put (mkN me ot ck ch di none l []).C ot (diaX (mkN me ot ck ch di none l []) ot) } : Nd)=mkN me ot ck (ch+1) (di+1) (some (cD me ot ck (di+1) ch)) l []:=rfl;exact Prod.ext ((congrArg (fun n=>sendN n ot (pH me ot (di+1))) e).trans (mk_send _)) rfl
theorem d_twice (T:Two me ot) (x:Cx):dialN (mkN me ot ck ch di (some x) l []) ot=(mkN me ot ck ch di (some x) l [],8):=by
 have ho:otherB (mkN me ot ck ch di (some x) l []) ot=true:=by
  show (nameF ot && !(ot.toList==me.toList))=true;rw[T.no,T.ne];rfl
 unfold dialN;rw[if_neg (by rw[ho];decide),if_pos (by rw[mk_getC];rfl)]
end
structure Ds where
 na:Nd
 nb:Nd
 wa:List ByteArray
 wb:List ByteArray
 ua:Bool
 ub:Bool
abbrev NA (x:ByteArray) (ch di:Nat) (c:Option Cx) (l:Bool):Nd:=mkN exA exB x ch di c l []
abbrev NB (y:ByteArray) (ch di:Nat) (c:Option Cx) (l:Bool):Nd:=mkN exB exA y ch di c l []
theorem TAB : Two exA exB:=⟨by decide +kernel,by decide +kernel,by decide +kernel⟩
theorem TBA : Two exB exA:=TAB.flip
section
variable {x y:ByteArray} {acc:Bool} {D q r:Nat} {s:Ds} {G:GF}
theorem busyAB {x:ByteArray} {ch di num kx:Nat} {l:Bool} : busyB (mkN exA exB x ch di (some (cD exA exB x num kx)) l []) exB (some (cD exA exB x num kx))=true:=by
 show ((0:Nat)==0&&true&&Op.bytesLess exA.toList exB.toList)=true;decide +kernel
theorem busyBA {x:ByteArray} {ch di num kx:Nat} {l:Bool} : busyB (mkN exB exA x ch di (some (cD exB exA x num kx)) l []) exA (some (cD exB exA x num kx))=false:=by
 show ((0:Nat)==0&&true&&Op.bytesLess exB.toList exA.toList)=false;decide +kernel
def PkOk (p:ByteArray):Prop:=p.size≤100000∧∀ px,readF p=some px→px.kind≠70
theorem PkOk.mk' {d:Bool} {n:Nat} {kind:UInt8} {cont:ByteArray} (hn:n<18446744073709551616) (hk:okK kind.toNat=true) (h7:kind.toNat≠70) (hc:cont.size≤1000):PkOk (pkF d n kind cont):=by
 refine⟨?_,fun px h=>?_⟩
 ·
  unfold pkF;simp only[ByteArray.size_append,Sk.numF_size];have z1:∀ x:UInt8,(ByteArray.mk #[x]).size=1:=fun _=>rfl
  rw[z1,z1];omega
 ·
  rw[readF_pk d n kind cont hn hk] at h;cases h;exact h7
theorem ok_pH {f t:ByteArray} {n:Nat} (hf:f.size=1) (ht:t.size=1) (hn:n<18446744073709551616):PkOk (pH f t n):=by
 refine PkOk.mk' hn rfl (by decide) ?_;unfold Sk.helloF;rw[ByteArray.size_append,ByteArray.size_append,Sk.encF_size,Sk.lenF_size,ht]
 have:Sk.helloC.size=2:=rfl
 simp only[hf];omega
theorem ok_pY {n:Nat} (hn:n<18446744073709551616):PkOk (pY n):=by
 refine PkOk.mk' hn rfl (by decide) ?_;rw[ByteArray.size_append,Sk.numF_size]
 have:Sk.statusC.size=1:=rfl
 omega
theorem ok_pO {f:ByteArray} {n ky:Nat} (hf:f.size=1) (hn:n<18446744073709551616):PkOk (pO f n ky):=by
 refine PkOk.mk' hn rfl (by decide) ?_;rw[Sk.offerM_size];simp only[hf];omega
theorem ok_pR {f t ck:ByteArray} {n kx ky:Nat} (hn:n<18446744073709551616):PkOk (pR f t ck n kx ky):=by
 refine PkOk.mk' hn rfl (by decide) ?_;rw[Sk.replyM_size _ _ (Sk.proofD_size ..)];omega
theorem ok_pA {f t ck:ByteArray} {n kx ky:Nat} (hn:n<18446744073709551616):PkOk (pA f t ck n kx ky):=by
 refine PkOk.mk' hn rfl (by decide) ?_;rw[ByteArray.size_append,Sk.proofL_size]
 have:Sk.ackC.size=1:=rfl
 omega
def CxOk (x:Cx):Prop:=x.gen=0→Sk.SdOk x.side∧x.side.state=1
section
variable {me ot ck:ByteArray} {num kx ky id:Nat}
theorem fine_d (T:Two me ot) (hk:ck.size≤6000) (hx:kx≤18446744073709551615) (hz:ot.size≤6000):Sk.Fine (Sk.dialS ⟨me,1⟩ ot ck kx):=Sk.Fine.dialS T.pr hz hk hx
theorem pr_small (T:Two me ot):ot.size≤32∧1≤2147483647:=⟨(nameF_size _ T.no).2,by decide⟩
theorem ok_cD (T:Two me ot) (hk:ck.size≤6000) (hx:kx≤18446744073709551615):CxOk (cD me ot ck num kx):=fun _=>⟨(fine_d T hk hx (by have:=(pr_small T).1;omega)).1,rfl⟩
theorem ok_cE (T:Two me ot) (hk:ck.size≤6000) (hx:kx≤18446744073709551615) (hy:ky≤18446744073709551615):CxOk (cE me ot ck num kx ky):=fun _=>
 ⟨((fine_d T hk hx (by have:=(pr_small T).1;omega)).mk' (s':=Sk.dia1 ⟨me,1⟩ ot ck kx ⟨ot,1⟩ ky) rfl (pr_small T) rfl rfl rfl hy (by simp[Sk.dia1,Sk.dialS])).1,rfl⟩
theorem ok_cI (T:Two me ot) (hk:ck.size≤6000) (hy:ky≤18446744073709551615):CxOk (cI me ot ck num ky):=fun _=>
 ⟨((Sk.Fine.listenS T.pr hk hy).mk' (s':=Sk.lis2 ⟨me,1⟩ ck ky ⟨ot,1⟩) rfl (pr_small T) rfl rfl rfl (by show (0:Nat)≤_;omega) (by simp[Sk.lis2])).1,rfl⟩
end
structure NOk (n:Nd) (k:ByteArray):Prop where
 nd:NdOk n
 di:n.di+1<18446744073709551616
 o:(get n.O k).getD [] = []
 c:∀ x,get n.C k=some x→CxOk x
theorem NOk.mk' {me ot ck:ByteArray} {ch di:Nat} {c:Option Cx} {l:Bool} (h1:newOk me 1=true) (h2:ck.size≤6000) (h3:ch+1<18446744073709551616) (h4:di+1<18446744073709551616) (h5:∀ x,c=some x→CxOk x):NOk (mkN me ot ck ch di c l []) ot:=
 ⟨⟨h1,h2,h3⟩,h4,mk_getO,fun x hx=>h5 x (by rw[mk_getC] at hx;exact hx)⟩
theorem nOkA : newOk exA 1=true:=by decide +kernel
theorem nOkB : newOk exB 1=true:=by decide +kernel
theorem none_ok : ∀ x,(none:Option Cx)=some x→CxOk x:=fun _ h=>by cases h
theorem some_ok {c:Cx} (h:CxOk c):∀ x,some c=some x→CxOk x:=fun _ e=>by cases e;exact h
end
def Wq (w:World) (base:Nat) (v:Value) (L:List ByteArray):Prop:=
 (v = .slice none 0 0∧L = [])∨∃ g o cap cur,v = .slice (some ⟨g,o,none⟩) L.length cap∧base≤g∧w.heap[g]? = some (.cells cur 9 (0,0))∧L.length≤cap∧cap≤maxLen∧o+cap≤cur.size∧∀ i,(h:i<L.length)→cur[o+i]? = some (.string L[i])
theorem und28 : Tryz.prog.underlying 28=some (.slice 9):=by kernel_rfl
theorem inf9 : ∃ i z,Tryz.prog.info? 9=some i∧i.zero=some z∧i.size=1∧i.bytes=16∧z.cells.size=1:=by
 have h:(Tryz.prog.info? 9).map (fun i=>(i.zero,i.size,i.bytes))=some (some (.string ⟨#[]⟩),1,16):=by kernel_rfl
 rcases hi:Tryz.prog.info? 9 with _|i
 ·
  rw[hi] at h;cases h
 ·
  rw[hi] at h;simp only[Option.map_some,Option.some.injEq,Prod.mk.injEq] at h;exact⟨i,_,rfl,h.1,h.2.1,h.2.2,rfl⟩
section
variable {w w':World} {base:Nat} {v:Value} {L:List ByteArray}
theorem Wq.nil (w:World) (base:Nat):Wq w base (.slice none 0 0) []:=.inl ⟨rfl,rfl⟩
theorem Wq.lt (h:Wq w base v L):∀ b,v.ownBlock=some b→base≤b∧b<w.heap.size:=by
 rintro b hb;rcases h with ⟨rfl,_⟩|⟨g,o,cap,cur,rfl,h1,h2,_⟩
 ·
  cases hb
 ·
  cases hb;exact⟨h1,(Array.getElem?_eq_some_iff.1 h2).1⟩
theorem Wq.only {F:List Nat} (h:Wq w base v L) (o:Only F w w') (d:∀ b,v.ownBlock=some b→b∉F):Wq w' base v L:=by
 rcases h with ⟨rfl,rfl⟩|⟨g,of,cap,cur,rfl,h1,h2,h3⟩
 ·
  exact .inl ⟨rfl,rfl⟩
 ·
  exact .inr ⟨g,of,cap,cur,rfl,h1,(o.block g (Array.getElem?_eq_some_iff.1 h2).1 (d g rfl)).trans h2,h3⟩
theorem Wq.form (h:Wq w base v L):∃ a cap,v = .slice a L.length cap∧L.length≤cap∧cap≤maxLen:=by
 rcases h with ⟨rfl,rfl⟩|⟨g,of,cap,cur,rfl,h1,h2,h3,h4,_⟩
 ·
  exact⟨_,_,rfl,Nat.le_refl _,by unfold maxLen;omega⟩
 ·
  exact⟨_,_,rfl,h3,h4⟩
theorem sl_form {b2:Nat} {x:Value} {M:List ByteArray} (h:Sl w b2 9 1 strC x M):∃ a cap,x = .slice a M.length cap∧M.length≤cap∧cap≤maxLen:=by
 rcases h.form with ⟨rfl,rfl⟩|⟨g,cap,rfl,_,_,h3,h4,_⟩
 ·
  exact⟨_,_,rfl,Nat.le_refl _,by unfold maxLen;omega⟩
 ·
  exact⟨_,_,rfl,h3,h4⟩
theorem src_of {b2:Nat} {x:Value} {M:List ByteArray} (h:Sl w b2 9 1 strC x M):Src Tryz.prog 1 28 x M.length (M.flatMap strC) w:=by
 rcases h.form with ⟨rfl,rfl⟩|⟨g,cap,rfl,_⟩
 ·
  exact Src.ofNil w und28 0
 ·
  refine Src.ofSlice w und28 ⟨g,0,none⟩ M.length cap _ (flat_len (c:=strC) (m:=1) (fun _=>rfl) M) (fun j u hj=>?_) (fun u hu=>?_)
  ·
   rw[add_none,Nat.zero_add];have hl:j<M.length:=by
    have:=(List.getElem?_eq_some_iff.1 hj).1
    rw[flat_len (c:=strC) (m:=1) (fun _=>rfl) M] at this;omega
   have hc:=h.cell (fun _=>rfl) j 0 hl (by omega);rw[Nat.mul_one,Nat.add_zero] at hc;rw[hc,←hj]
   have:=flat_at (c:=strC) (m:=1) (fun _=>rfl) M j 0 hl (by omega)
   rw[Nat.mul_one,Nat.add_zero] at this;exact this.symm
  ·
   obtain⟨s,_,q⟩:=List.mem_flatMap.1 hu;rw[List.mem_singleton.1 q];rfl
theorem flat_get (M:List ByteArray) (j:Nat) (h:j<M.length):(M.flatMap strC)[j]? = some (.string M[j]):=by
 have:=flat_at (c:=strC) (m:=1) (fun _=>rfl) M j 0 h (by omega)
 rw[Nat.mul_one,Nat.add_zero] at this;exact this
theorem flat_size (M:List ByteArray):(M.flatMap strC).length=M.length:=by
 have:=flat_len (c:=strC) (m:=1) (fun _=>rfl) M
 omega
theorem Wq.row (hb:base≤w.heap.size) (olds M:List ByteArray) (cap:Nat) (hc:olds.length+M.length≤cap) (hm:cap≤maxLen) (z:Array Value) (hz:z.size=1) :
  Wq (w.drew.alloc (.cells ((olds.flatMap strC++M.flatMap strC).toArray++Builtin.zeroCells z (cap-(olds.length+M.length))) 9)) base (.slice (some ⟨w.heap.size,0,none⟩) (olds.length+M.length) cap) (olds++M):=by
 refine .inr ⟨w.heap.size,0,cap,_,by rw[List.length_append],hb,World.alloc_heap_new w.drew _,by rw[List.length_append];exact hc,hm,?_,fun i hi=>?_⟩
 ·
  rw[Array.size_append,List.size_toArray,List.length_append,flat_size,flat_size,size_zeroCells,hz];omega
 ·
  rw[←List.flatMap_append,Nat.zero_add,Array.getElem?_append_left (by rw[List.size_toArray,flat_size];exact hi),List.getElem?_toArray];exact flat_get _ i hi
theorem Wq.add {b2:Nat} {x:Value} {M:List ByteArray} (h:Wq w base v L) (k:Sl w b2 9 1 strC x M) (hM:M.length≤1) (hl:L.length≤1000000) (hb:base≤w.heap.size) :
  ∃ v' W',(Builtin.append_ #[28,28] 28 #[v,x]).run Tryz.prog w = .ok v' W'∧Wq W' base v' (L++M)∧Only v.ownBlock.toList w W'∧(v'.ownBlock=v.ownBlock∨∀ b,v'.ownBlock=some b→w.heap.size≤b∧b<W'.heap.size):=by
 obtain⟨i,z,hi,hz,h1,h2,h3⟩:=inf9;have src:=src_of k;rw[←h1] at src;have gro:∀ (a:Option Addr) (sc:Nat),sc<L.length+M.length→(Builtin.firstCells i.size L.length (.slice a L.length sc)).run Tryz.prog w.drew = .ok (L.flatMap strC).toArray w.drew →
   ∃ v' W',(Builtin.append_ #[28,28] 28 #[.slice a L.length sc,x]).run Tryz.prog w = .ok v' W'∧Wq W' base v' (L++M)∧Only v.ownBlock.toList w W'∧(v'.ownBlock=v.ownBlock∨∀ b,v'.ownBlock=some b→w.heap.size≤b∧b<W'.heap.size):=by
  intro a sc hg hold;have hrun:=run_append_grow_src (P:=Tryz.prog) w 28 28 28 9 i z und28 hi hz a L.length sc (L.flatMap strC) hold x M.length _ src hg (by omega) (growslice_fits hg (by rw[h2];omega));refine⟨_,_,hrun,?_,?_,.inr ?_⟩
  ·
   exact Wq.row hb L M _ (grownCap_ge w _ sc 9) (grownCap_le_maxLen w _ sc 9 (by unfold maxLen;omega)) z.cells h3
  ·
   exact(Only.drew _ w).trans (Only.alloc _ w.drew _)
  ·
   intro b hb';cases hb';exact⟨Nat.le_refl _,by simp⟩
 rcases h with ⟨rfl,rfl⟩|⟨g,o,cap,cur,rfl,e1,e2,e3,e4,e5,e6⟩
 ·
  by_cases hm:M.length=0
  ·
   obtain rfl:=List.eq_nil_of_length_eq_zero hm;exact⟨_,_,run_append_nothing (P:=Tryz.prog) w 28 28 28 9 i und28 hi none 0 0 (Nat.le_refl _) x src,.inl ⟨rfl,rfl⟩,Only.refl _ _,.inl rfl⟩
  ·
   refine gro none 0 (by simp only[List.length_nil];omega) ?_;exact run_firstCells_none w.drew i.size 0 0 0
 ·
  by_cases hr:L.length+M.length≤cap
  ·
   rcases M with _|⟨p,r⟩
   ·
    refine⟨_,_,run_append_nothing (P:=Tryz.prog) w 28 28 28 9 i und28 hi _ _ _ e3 x src,.inr ⟨g,o,cap,cur,by rw[List.append_nil],e1,e2,by rw[List.append_nil];exact e3,e4,e5,?_⟩,Only.refl _ _,.inl rfl⟩;rw[List.append_nil];exact e6
   ·
    obtain rfl:r = []:=List.eq_nil_of_length_eq_zero (by simp only[List.length_cons] at hM;omega);have hlen:([p]:List ByteArray).length=1:=rfl;rw[hlen] at hr;have hrun:=run_append_room_src (P:=Tryz.prog) w 28 28 28 9 i und28 hi g o L.length cap x 1 _ src hr (fun j hj=>by
     obtain rfl:j=0:=by simp[strC] at hj;exact hj
     rw[h1,cell_at e2,Nat.mul_one,Nat.add_zero,Array.getElem?_eq_getElem (by omega)];rfl) (fun j hj=>by simp[World.frozen?,e2])
    rw[h1,Nat.mul_one] at hrun;refine⟨_,_,hrun,.inr ⟨g,o,cap,cur.setIfInBounds (o+L.length) (.string p),by simp,e1,?_,by simp;omega,e4,by simpa using e5,fun j hj=>?_⟩,?_,.inl rfl⟩
    ·
     exact Blk.set_ (show Blk w g 9 cur from e2) (o+L.length) (.string p)
    ·
     rw[List.length_append,hlen] at hj
     by_cases hjl:j<L.length
     ·
      rw[Array.getElem?_setIfInBounds_ne (by omega),e6 j hjl,List.getElem_append_left hjl]
     ·
      obtain rfl:j=L.length:=by omega
      rw[Array.getElem?_setIfInBounds_self_of_lt (by omega),List.getElem_append_right (Nat.le_refl _)]
      simp
    ·
     exact Only.setCell w ⟨g,o+L.length,none⟩ _ (by simp[Value.ownBlock])
  ·
   refine gro _ cap (by omega) ?_;rw[h1];exact run_firstCells_some w.drew 1 L.length ⟨g,o,none⟩ L.length cap (L.flatMap strC) (by rw[flat_size,Nat.mul_one]) (fun j u hj=>by
    have hjl:j<L.length:=by
     have:=(List.getElem?_eq_some_iff.1 hj).1
     rw[flat_size] at this;exact this
    rw[flat_get L j hjl] at hj;rw[add_none,cell_at (w:=w.drew) e2,e6 j hjl,hj])
theorem Wq.pop {p:ByteArray} {r:List ByteArray} (h:Wq w base v (p::r)):∃ g o o' cap,v = .slice (some ⟨g,o,none⟩) (r.length+1) cap∧g<w.heap.size∧r.length+1≤cap∧cap≤maxLen∧w.cell? ⟨g,o,none⟩=some (.string p) ∧
  (∀ W,(Instr.slice 28 (.slice (some ⟨g,o,none⟩) (r.length+1) cap) (some (.int .i64 1)) none none).run Tryz.prog W = .ok (.slice (some ⟨g,o',none⟩) r.length (cap-1)) W)∧Wq w base (.slice (some ⟨g,o',none⟩) r.length (cap-1)) r:=by
 rcases h with ⟨_,h⟩|⟨g,o,cap,cur,rfl,e1,e2,e3,e4,e5,e6⟩
 ·
  cases h
 ·
  simp only[List.length_cons] at e3 e6 ⊢;have hc:w.cell? ⟨g,o,none⟩=some (.string p):=by rw[cell_at e2];exact e6 0 (by omega)
  have hs:∀ W,(sizeOf (Tryz.prog.elem 28)).run Tryz.prog W = .ok 1 W:=fun W=>by kernel_rfl
  have hu:Tryz.prog.underlying 28=some (.slice (Tryz.prog.elem 28)):=by kernel_rfl
  have hw:∀ W,(Instr.slice 28 (.slice (some ⟨g,o,none⟩) (r.length+1) cap) (some (.int .i64 1)) none none).run Tryz.prog W = .ok (sliced (some ⟨g,o,none⟩) 1 (r.length+1) cap 1) W:=by
   intro W;rw[run_slice_l W 28 (some ⟨g,o,none⟩) (r.length+1) cap hu .i64 1 (by omega) (by omega),hs];rfl
  by_cases h1:cap=1
  ·
   refine⟨g,o,o,cap,rfl,(Array.getElem?_eq_some_iff.1 e2).1,e3,e4,hc,fun W=>?_,.inr ⟨g,o,cap-1,cur,rfl,e1,e2,by omega,by omega,by omega,fun i hi=>by omega⟩⟩;rw[hw W];unfold sliced;rw[if_pos h1];rfl
  ·
   refine⟨g,o,o+1,cap,rfl,(Array.getElem?_eq_some_iff.1 e2).1,e3,e4,hc,fun W=>?_,.inr ⟨g,o+1,cap-1,cur,rfl,e1,e2,by omega,by omega,by omega,fun i hi=>?_⟩⟩
   ·
    rw[hw W];unfold sliced;rw[if_neg h1,Option.map_some,add_none];rfl
   ·
    have:=e6 (i+1) (by omega)
    rw[show o+(i+1)=o+1+i by omega] at this;exact this
end
structure Nu where
 ea:Int
 eb:Int
 sa:Int
 sb:Int
 fa:Int
 fb:Int
 ga:Int
 gb:Int
 ta:Int
 tb:Int
def prC (pa pb:Nat) (va vb:Value) (ua ub:Bool) (n:Nu):Array Value:=#[ptrV pa,ptrV pb,va,vb,.bool ua,.bool ub,.int .i64 n.ea,.int .i64 n.eb,.int .i64 n.sa,.int .i64 n.sb,.int .i64 n.fa,.int .i64 n.fb,.int .i64 n.ga,.int .i64 n.gb,.int .i64 n.ta,.int .i64 n.tb,.bool true]
structure Pb where
 g:Nat
 a:Nm
 b:Nm
 va:Value
 vb:Value
structure Sep (P:Pb):Prop where
 ab:∀ x∈foot P.a,x∉foot P.b
 av:∀ x∈foot P.a,P.va.ownBlock≠some x
 aw:∀ x∈foot P.a,P.vb.ownBlock≠some x
 ag:P.g∉foot P.a
 bv:∀ x∈foot P.b,P.va.ownBlock≠some x
 bw:∀ x∈foot P.b,P.vb.ownBlock≠some x
 bg:P.g∉foot P.b
 vg:P.va.ownBlock≠some P.g
 wg:P.vb.ownBlock≠some P.g
 vw:∀ x,P.va.ownBlock=some x→P.vb.ownBlock≠some x
structure PwAt (w:World) (base:Nat) (s:Ds) (n:Nu) (P:Pb):Prop where
 blk:Blk w P.g 33 (prC P.a.g P.b.g P.va P.vb s.ua s.ub n)
 na:NdAt w base s.na P.a
 nb:NdAt w base s.nb P.b
 qa:Wq w base P.va s.wa
 qb:Wq w base P.vb s.wb
 sep:Sep P
 bg:base≤P.g
section
variable {w w':World} {base:Nat} {s:Ds} {n:Nu} {P:Pb}
theorem PwAt.below (h:PwAt w base s n P) (b:Below w.heap.size w w'):PwAt w' base s n P:=
 ⟨h.blk.below b h.blk.lt,h.na.below b,h.nb.below b,h.qa.only (F:=[]) (Only.of_below b) (fun _ _=>by simp),h.qb.only (F:=[]) (Only.of_below b) (fun _ _=>by simp),h.sep,h.bg⟩
theorem Trail.kept {a a':Nm} {nd:Nd} (h:NdAt w base nd a) (t:Trail w w' a a'):Below base w w':=t.only.below (fun b hb=>(h.low b hb).1) h.bz
theorem PwAt.setA (h:PwAt w base s n P) {nd:Nd} {a':Nm} (ha:NdAt w' base nd a') (t:Trail w w' P.a a'):PwAt w' base { s with na:=nd } n { P with a:=a' } where
 blk:=by
  have:=h.blk.only t.only h.sep.ag
  show Blk w' P.g 33 (prC a'.g P.b.g P.va P.vb s.ua s.ub n);rw[t.g];exact this
 na:=ha
 nb:=h.nb.keep t.only (fun b hb q=>h.sep.ab b q hb)
 qa:=h.qa.only t.only (fun b hb q=>h.sep.av b q hb)
 qb:=h.qb.only t.only (fun b hb q=>h.sep.aw b q hb)
 bg:=h.bg
 sep:=
  {
   ab:=fun x hx q=>by
    rcases t.new x hx with z|z
    ·
     exact h.sep.ab x z q
    ·
     have:=(h.nb.low x q).2
     omega
   av:=fun x hx q=>by
    rcases t.new x hx with z|z
    ·
     exact h.sep.av x z q
    ·
     have:=(h.qa.lt x q).2
     omega
   aw:=fun x hx q=>by
    rcases t.new x hx with z|z
    ·
     exact h.sep.aw x z q
    ·
     have:=(h.qb.lt x q).2
     omega
   ag:=fun q=>by
    rcases t.new _ q with z|z
    ·
     exact h.sep.ag z
    ·
     exact absurd h.blk.lt (Nat.not_lt.2 z)
   bv:=h.sep.bv
   bw:=h.sep.bw
   bg:=h.sep.bg
   vg:=h.sep.vg
   wg:=h.sep.wg
   vw:=h.sep.vw }
theorem PwAt.setB (h:PwAt w base s n P) {nd:Nd} {a':Nm} (ha:NdAt w' base nd a') (t:Trail w w' P.b a'):PwAt w' base { s with nb:=nd } n { P with b:=a' } where
 blk:=by
  have:=h.blk.only t.only h.sep.bg
  show Blk w' P.g 33 (prC P.a.g a'.g P.va P.vb s.ua s.ub n);rw[t.g];exact this
 na:=h.na.keep t.only (fun b hb q=>h.sep.ab b hb q)
 nb:=ha
 qa:=h.qa.only t.only (fun b hb q=>h.sep.bv b q hb)
 qb:=h.qb.only t.only (fun b hb q=>h.sep.bw b q hb)
 bg:=h.bg
 sep:=
  {
   ab:=fun x hx q=>by
    rcases t.new x q with z|z
    ·
     exact h.sep.ab x hx z
    ·
     have:=(h.na.low x hx).2
     omega
   av:=h.sep.av
   aw:=h.sep.aw
   ag:=h.sep.ag
   bv:=fun x hx q=>by
    rcases t.new x hx with z|z
    ·
     exact h.sep.bv x z q
    ·
     have:=(h.qa.lt x q).2
     omega
   bw:=fun x hx q=>by
    rcases t.new x hx with z|z
    ·
     exact h.sep.bw x z q
    ·
     have:=(h.qb.lt x q).2
     omega
   bg:=fun q=>by
    rcases t.new _ q with z|z
    ·
     exact h.sep.bg z
    ·
     exact absurd h.blk.lt (Nat.not_lt.2 z)
   vg:=h.sep.vg
   wg:=h.sep.wg
   vw:=h.sep.vw }
theorem PwAt.own (h:PwAt w base s n P) {ua ub:Bool} {n':Nu} (o:Only [P.g] w w') (hb:Blk w' P.g 33 (prC P.a.g P.b.g P.va P.vb ua ub n')):PwAt w' base { s with ua:=ua,ub:=ub } n' P where
 blk:=hb
 na:=h.na.keep o (fun b hb q=>h.sep.ag (by rw[←List.mem_singleton.1 q];exact hb))
 nb:=h.nb.keep o (fun b hb q=>h.sep.bg (by rw[←List.mem_singleton.1 q];exact hb))
 qa:=h.qa.only o (fun b hb q=>h.sep.vg (by rw[←List.mem_singleton.1 q];exact hb))
 qb:=h.qb.only o (fun b hb q=>h.sep.wg (by rw[←List.mem_singleton.1 q];exact hb))
 bg:=h.bg
 sep:=h.sep
theorem PwAt.wayA {w1:World} (h:PwAt w base s n P) {v:Value} {L:List ByteArray} (o1:Only P.va.ownBlock.toList w w1) (q:Wq w1 base v L) (hv:v.ownBlock=none∨v.ownBlock=P.va.ownBlock∨∀ b,v.ownBlock=some b→w.heap.size≤b) (o2:Only [P.g] w1 w')
  (hb:Blk w' P.g 33 (prC P.a.g P.b.g v P.vb s.ua s.ub n)):PwAt w' base { s with wa:=L } n { P with va:=v } where
 blk:=hb
 na:=(h.na.keep o1 (fun b hb q=>h.sep.av b hb (Option.mem_toList.1 q))).keep o2 (fun b hb q=>h.sep.ag (by rw[←List.mem_singleton.1 q];exact hb))
 nb:=(h.nb.keep o1 (fun b hb q=>h.sep.bv b hb (Option.mem_toList.1 q))).keep o2 (fun b hb q=>h.sep.bg (by rw[←List.mem_singleton.1 q];exact hb))
 qa:=q.only o2 (fun b hb z=>by
  rw[List.mem_singleton.1 z] at hb;rcases hv with e|e|e
  ·
   rw[e] at hb;cases hb
  ·
   rw[e] at hb;exact h.sep.vg hb
  ·
   have:=e _ hb
   have:=h.blk.lt
   omega)
 qb:=(h.qb.only o1 (fun b hb q=>h.sep.vw b (Option.mem_toList.1 q) hb)).only o2 (fun b hb q=>h.sep.wg (by rw[←List.mem_singleton.1 q];exact hb))
 bg:=h.bg
 sep:=
  {
   ab:=h.sep.ab
   av:=fun x hx z=>by
    rcases hv with e|e|e
    ·
     rw[e] at z;cases z
    ·
     rw[e] at z;exact h.sep.av x hx z
    ·
     have:=e _ z
     have:=(h.na.low x hx).2
     omega
   aw:=h.sep.aw
   ag:=h.sep.ag
   bv:=fun x hx z=>by
    rcases hv with e|e|e
    ·
     rw[e] at z;cases z
    ·
     rw[e] at z;exact h.sep.bv x hx z
    ·
     have:=e _ z
     have:=(h.nb.low x hx).2
     omega
   bw:=h.sep.bw
   bg:=h.sep.bg
   vg:=fun z=>by
    rcases hv with e|e|e
    ·
     rw[e] at z;cases z
    ·
     rw[e] at z;exact h.sep.vg z
    ·
     exact absurd h.blk.lt (Nat.not_lt.2 (e _ z))
   wg:=h.sep.wg
   vw:=fun x z=>by
    rcases hv with e|e|e
    ·
     rw[e] at z;cases z
    ·
     rw[e] at z;exact h.sep.vw x z
    ·
     intro y
     have:=e _ z
     have:=(h.qb.lt x y).2
     omega }
theorem PwAt.wayB {w1:World} (h:PwAt w base s n P) {v:Value} {L:List ByteArray} (o1:Only P.vb.ownBlock.toList w w1) (q:Wq w1 base v L) (hv:v.ownBlock=none∨v.ownBlock=P.vb.ownBlock∨∀ b,v.ownBlock=some b→w.heap.size≤b) (o2:Only [P.g] w1 w')
  (hb:Blk w' P.g 33 (prC P.a.g P.b.g P.va v s.ua s.ub n)):PwAt w' base { s with wb:=L } n { P with vb:=v } where
 blk:=hb
 na:=(h.na.keep o1 (fun b hb q=>h.sep.aw b hb (Option.mem_toList.1 q))).keep o2 (fun b hb q=>h.sep.ag (by rw[←List.mem_singleton.1 q];exact hb))
 nb:=(h.nb.keep o1 (fun b hb q=>h.sep.bw b hb (Option.mem_toList.1 q))).keep o2 (fun b hb q=>h.sep.bg (by rw[←List.mem_singleton.1 q];exact hb))
 qa:=(h.qa.only o1 (fun b hb q=>h.sep.vw b hb (Option.mem_toList.1 q))).only o2 (fun b hb q=>h.sep.vg (by rw[←List.mem_singleton.1 q];exact hb))
 qb:=q.only o2 (fun b hb z=>by
  rw[List.mem_singleton.1 z] at hb;rcases hv with e|e|e
  ·
   rw[e] at hb;cases hb
  ·
   rw[e] at hb;exact h.sep.wg hb
  ·
   have:=e _ hb
   have:=h.blk.lt
   omega)
 bg:=h.bg
 sep:=
  {
   ab:=h.sep.ab
   av:=h.sep.av
   aw:=fun x hx z=>by
    rcases hv with e|e|e
    ·
     rw[e] at z;cases z
    ·
     rw[e] at z;exact h.sep.aw x hx z
    ·
     have:=e _ z
     have:=(h.na.low x hx).2
     omega
   ag:=h.sep.ag
   bv:=h.sep.bv
   bw:=fun x hx z=>by
    rcases hv with e|e|e
    ·
     rw[e] at z;cases z
    ·
     rw[e] at z;exact h.sep.bw x hx z
    ·
     have:=e _ z
     have:=(h.nb.low x hx).2
     omega
   bg:=h.sep.bg
   vg:=h.sep.vg
   wg:=fun z=>by
    rcases hv with e|e|e
    ·
     rw[e] at z;cases z
    ·
     rw[e] at z;exact h.sep.wg z
    ·
     exact absurd h.blk.lt (Nat.not_lt.2 (e _ z))
   vw:=fun x y z=>by
    rcases hv with e|e|e
    ·
     rw[e] at z;cases z
    ·
     rw[e] at z;exact h.sep.vw x y z
    ·
     have:=e _ z
     have:=(h.qa.lt x y).2
     omega }
end
end Go.Proofs.YtoaimoemaoinhaaGreatDoor
