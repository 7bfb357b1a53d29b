/- PeersX: a part of the proof. No condition beyond the premises of each theorem. -/
import Derived.Test.YtoaimoemaoinhaaGreatDoorQp06
import Derived.Test.YtoaimoemaoinhaaGreatDoorQp01
import Derived.Test.YtoaimoemaoinhaaGreatDoorQp00
set_option maxRecDepth 100000
namespace Go.Proofs.YtoaimoemaoinhaaGreatDoor
open Go.RowKit Go.Rt Go.Rw
def zerT : Tm:=.mk zeroFl []
def zerX : Ft:=⟨zeroFl,.slice none 0 0⟩
def fldB : Nat→Int
 | 0=>1|1=>2|2=>4|3=>8|4=>16|5=>32|_=>64
def fldK : Nat→Int
 | 0=>6|1=>6|2=>2|3=>2|4=>3|5=>1|_=>0
def hasU (u:Int) (i:Nat):Bool:=!(bits BinOp.and IntKind.i64 u (fldB i)==0)
def fldT (s:Sg):Nat→Tm
 | 0=>s.fr|1=>s.tt|2=>atmT s.node|3=>atmT s.name|4=>s.ref|5=>nmbT s.num|_=>s.val
def okFld (s:Sg) (i:Nat):Bool:=validB (fldT s i)&&((decide (fldK i=0)||decide ((fldT s i).f.k=fldK i))&&(decide (i≠5)||decide (1≤s.num)))
def setF (s:Sg) (t:Tm):Nat→Sg
 | 0=>{ s with fr:=t }
 | 1=>{ s with tt:=t }
 | 2=>{ s with node:=t.f.nm }
 | 3=>{ s with name:=t.f.nm }
 | 4=>{ s with ref:=t }
 | 5=>{ s with num:=t.f.n }
 | _=>{ s with val:=t }
def getN : Nat→Nat
 | 0=>103|1=>105|2=>107|3=>110|4=>112|5=>114|_=>117
def setN : Nat→Nat
 | 0=>104|1=>106|2=>109|3=>111|4=>113|5=>116|_=>118
def setX (x:Sf) (y:Ft):Nat→Sf
 | 0=>{ x with a:=y } | 1=>{ x with b:=y } | 2=>x|3=>x|4=>{ x with c:=y } | 5=>x|_=>{ x with d:=y }
def getX (s:Sg) (x:Sf):Nat→Ft
 | 0=>x.a|1=>x.b|2=>atmX s.node|3=>atmX s.name|4=>x.c|5=>nmbX s.num|_=>x.d
theorem seven {i:Nat} (hi:i<7):i=0∨i=1∨i=2∨i=3∨i=4∨i=5∨i=6:=by omega
theorem fld_cells {i:Nat} (hi:i<7):fldC[i*4]? = some (.int .i64 (fldB i))∧fldC[i*4+1]? = some (.int .i64 (fldK i))∧fldC[i*4+2]? = some (.func (.func (getN i)) #[] #[])∧fldC[i*4+3]? = some (.func (.func (setN i)) #[] #[]):=by
 rcases seven hi with rfl|rfl|rfl|rfl|rfl|rfl|rfl<;>exact⟨rfl,rfl,rfl,rfl⟩
theorem set_enter {i:Nat} (hi:i<7) (args:Array Value) (w:World):(callFunc (setN i) args).run Tryz.prog w = .ok (.enter (setN i) args) w:=by
 rcases seven hi with rfl|rfl|rfl|rfl|rfl|rfl|rfl<;>kernel_rfl
theorem get_enter {i:Nat} (hi:i<7) (args:Array Value) (w:World):(callFunc (getN i) args).run Tryz.prog w = .ok (.enter (getN i) args) w:=by
 rcases seven hi with rfl|rfl|rfl|rfl|rfl|rfl|rfl<;>kernel_rfl
theorem set_any {i:Nat} (hi:i<7) (s:Sg) (x:Sf) {t:Tm} (y:Ft) (B:Nat) (w:World) (hb:Blk w B 50 (sgC s x).toArray) (hy:∃ sy ny cy,y.v = .slice sy ny cy) (hf:y.f=t.f) :
  Calls Tryz.prog (setN i) #[.pointer (some ⟨B,0,none⟩),ftV y] w fun e w'=>e = .returned (.tuple #[])∧Blk w' B 50 (sgC (setF s t i) (setX x y i)).toArray∧Only [B] w w':=by
 rcases seven hi with rfl|rfl|rfl|rfl|rfl|rfl|rfl
 ·
  exact set46 s x y B w hb hy
 ·
  exact set48 s x y B w hb hy
 ·
  have:=set51 s x y B w hb hy
  rw[hf] at this;exact this
 ·
  have:=set53 s x y B w hb hy
  rw[hf] at this;exact this
 ·
  exact set55 s x y B w hb hy
 ·
  have:=set58 s x y B w hb hy
  rw[hf] at this;exact this
 ·
  exact set60 s x y B w hb hy
theorem get_any {i:Nat} (hi:i<7) (S:Nat→Prop) (s:Sg) (x:Sf) (w:World) (h:SgAt S w s x):Calls Tryz.prog (getN i) #[sgV s x] w fun e w'=>e = .returned (ftV (getX s x i))∧Below w.heap.size w w':=by
 rcases seven hi with rfl|rfl|rfl|rfl|rfl|rfl|rfl
 ·
  exact get45 S s x w h
 ·
  exact get47 S s x w h
 ·
  exact get49 S s x w h
 ·
  exact get52 S s x w h
 ·
  exact get54 S s x w h
 ·
  exact get56 S s x w h
 ·
  exact get59 S s x w h
theorem fld_at {S:Nat→Prop} {w:World} {s:Sg} {x:Sf} (h:SgAt S w s x) (i:Nat):TmAt S w (fldT s i) (getX s x i):=by
 unfold fldT getX;split
 ·
  exact h.fr
 ·
  exact h.tt
 ·
  exact atom_at S w s.node
 ·
  exact atom_at S w s.name
 ·
  exact h.ref
 ·
  exact int_at S w s.num
 ·
  exact h.val
def allFld (u:Int) (s:Sg):Nat→Bool
 | 0=>true
 | i+1=>allFld u s i&&(!hasU u i||okFld s i)
def onlyS (u:Int) (s:Sg) (i:Nat):Sg:=
 ⟨0,if hasU u 0&&decide (0<i) then s.fr else zerT,if hasU u 1&&decide (1<i) then s.tt else zerT,if hasU u 2&&decide (2<i) then s.node else noB,if hasU u 3&&decide (3<i) then s.name else noB,
  if hasU u 4&&decide (4<i) then s.ref else zerT,if hasU u 5&&decide (5<i) then s.num else 0,if hasU u 6&&decide (6<i) then s.val else zerT⟩
def onlyX (u:Int) (x:Sf) (i:Nat):Sf:=
 ⟨if hasU u 0&&decide (0<i) then x.a else zerX,if hasU u 1&&decide (1<i) then x.b else zerX,if hasU u 4&&decide (4<i) then x.c else zerX,if hasU u 6&&decide (6<i) then x.d else zerX⟩
def validS (s:Sg):Bool:=decide (usesF s.k≠0)&&(allFld (usesF s.k) s 7&&sameS (onlyS (usesF s.k) s 7) s)
structure FitS (s:Sg):Prop where
 fr:fitW s.fr∧bulk s.fr≤4611686018427387904
 tt:fitW s.tt∧bulk s.tt≤4611686018427387904
 ref:fitW s.ref∧bulk s.ref≤4611686018427387904
 val:fitW s.val∧bulk s.val≤4611686018427387904
 num : -9223372036854775808≤s.num∧s.num≤9223372036854775807
theorem fit_atom (s:ByteArray):fitW (atmT s)∧bulk (atmT s)≤4611686018427387904:=by
 unfold atmT;rw[fitW,bulk];exact⟨⟨Nat.zero_le _,trivial⟩,by simp[bulkL]⟩
theorem fit_int (n:Int):fitW (nmbT n)∧bulk (nmbT n)≤4611686018427387904:=by
 unfold nmbT;rw[fitW,bulk];exact⟨⟨Nat.zero_le _,trivial⟩,by simp[bulkL]⟩
theorem fitT_atom {s:ByteArray} (h:s.size≤200000):fitT (atmT s):=by
 unfold atmT;rw[fitT];refine⟨⟨⟨h,Nat.zero_le _,Nat.zero_le _⟩,?_,?_,?_,?_,?_⟩,trivial⟩
 all_goals
  dsimp only;omega
theorem fitT_int {n:Int} (h : -9223372036854775808≤n∧n≤9223372036854775807):fitT (nmbT n):=by
 unfold nmbT;rw[fitT];refine⟨⟨⟨Nat.zero_le _,Nat.zero_le _,Nat.zero_le _⟩,?_,h,?_,?_,?_⟩,trivial⟩
 all_goals
  dsimp only;omega
theorem FitS.fld {s:Sg} (h:FitS s) (i:Nat):fitW (fldT s i)∧bulk (fldT s i)≤4611686018427387904:=by
 unfold fldT;split
 ·
  exact h.fr
 ·
  exact h.tt
 ·
  exact fit_atom s.node
 ·
  exact fit_atom s.name
 ·
  exact h.ref
 ·
  exact fit_int s.num
 ·
  exact h.val
theorem i64n (a b:Int) (h:a≠b):(a != b)=true:=by rw[bne_iff_ne];exact h
theorem zer_at (S:Nat→Prop) (w:World):TmAt S w zerT zerX:=TmAt.of rfl (ItsAt.nil none 0)
theorem only_at {S:Nat→Prop} {w:World} {s:Sg} {x:Sf} (h:SgAt S w s x) (u:Int) (i:Nat):SgAt S w (onlyS u s i) (onlyX u x i):=by
 refine⟨?_,?_,?_,?_⟩
 all_goals
  unfold onlyS onlyX;dsimp only;split
  ·
   first|exact h.fr|exact h.tt|exact h.ref|exact h.val
  ·
   exact zer_at S w
theorem allFld_no {u:Int} {s:Sg} {i:Nat} (hi:i<7) (h1:hasU u i=true) (h2:okFld s i=false):allFld u s 7=false:=by
 have hall:∀ n,i<n→allFld u s n=false:=fun n hn=>by
  induction n with
  | zero=>omega
  | succ n ih=>
   rw[allFld]
   by_cases e:i=n
   ·
    subst e;rw[h1,h2]
    simp
   ·
    rw[ih (by omega)];rfl
 exact hall 7 hi
theorem allFld_yes {u:Int} {s:Sg} {i:Nat} (h:allFld u s i=true) (h1:hasU u i=false∨okFld s i=true):allFld u s (i+1)=true:=by
 rw[allFld,h];rcases h1 with e|e<;>rw[e]<;>simp
theorem wpList_load_blkG {P:Program} {ops:Array Oper} {rest:List Oper} {op:Oper} {a:Act} {w:World} {Q:Exit→Act→World→Prop} (hw:Region.wanted op (yielded ops a.tmps)=true) (ty:TypeId) (x:Operand) (ho:op.op = .load ty x)
  (b:Nat) (hx:a.eval x = .pointer (some ⟨b,0,none⟩)) (cs:Array Value) (t:TypeId) (d:TypeDesc) (hc:Blk w b t cs)
  (hu:P.underlying ty=some d) (hd:d.isRow=true) (hi:(P.info? ty).map (·.size)=some cs.size)
  (h:wpList P ops Q rest (a.put op.dst (.agg cs)) w):wpList P ops Q (op::rest) a w:=
 wpList_step fun K hK=>by
  rw[if_pos hw];exact wp_load_mid ty x ho b 0 hx cs.toList d hc.range hu hd (by simpa using hi) (hK _ _ (by simpa using h))
theorem info54 : (Tryz.prog.info? 131).map (·.size)=some 4:=by kernel_rfl
theorem info26 : (Tryz.prog.info? 50).map (·.size)=some 40:=by kernel_rfl
theorem only_no {u:Int} {i:Nat} (hi:i<7) (s:Sg) (x:Sf) (h:hasU u i=false):onlyS u s (i+1)=onlyS u s i∧onlyX u x (i+1)=onlyX u x i:=by
 rcases seven hi with rfl|rfl|rfl|rfl|rfl|rfl|rfl<;>simp[onlyS,onlyX,h]
theorem only_yes {u:Int} {i:Nat} (hi:i<7) (s:Sg) (x:Sf) (h:hasU u i=true):setF (onlyS u s i) (fldT s i) i=onlyS u s (i+1)∧setX (onlyX u x i) (getX s x i) i=onlyX u x (i+1):=by
 rcases seven hi with rfl|rfl|rfl|rfl|rfl|rfl|rfl<;>simp[onlyS,onlyX,h,setF,setX,getX,fldT,atmT,nmbT,Tm.f]
set_option maxHeartbeats 8000000 in
theorem pvalid19 (S:Nat→Prop) (s:Sg) (x:Sf) (w:World) (h:SgAt S w s x) (hfit:FitS s):Calls Tryz.prog 46 #[sgV s x] w fun e w'=>e = .returned (.bool (validS s))∧Below w.heap.size w w':=by
 obtain⟨u,hu⟩:∃ u,u=usesF s.k:=⟨_,rfl⟩;obtain⟨V,hV⟩:∃ V,V=validS s:=⟨_,rfl⟩;rw[←hV];unfold validS at hV;rw[←hu] at hV;have HV:=qH hV;have CU:=qH (fun(W:World)=>uses21 s.k W);rw[←hu] at CU;obtain⟨_,sa,ca,ea⟩:=h.fr.its.2.form;obtain⟨_,sb,cb,eb⟩:=h.tt.its.2.form;obtain⟨_,sc,cc,ec⟩:=h.ref.its.2.form;obtain⟨_,sd,cd,ed⟩:=h.val.its.2.form;have EA:=qH ea;have EB:=qH eb;have EC:=qH ec;have ED:=qH ed;have HS:=qH h
 have HF:=qH hfit;obtain⟨CS,hCS⟩:∃ q,q=(sgC s x).toArray:=⟨_,rfl⟩;have HSV:Hid (sgV s x = .agg CS):=qH (by rw[hCS];rfl);have HSZ:Hid (CS.size=40):=qH (by rw[hCS];rfl);have HC0:Hid (CS[0]? = some (.int .i64 s.k)):=qH (by rw[hCS];rfl);rw[HSV.out];clear hV hu h hfit ea eb ec ed hCS;obtain⟨m,hm⟩:∃ q,q=w.heap.size:=⟨_,rfl⟩;have HM:=qH hm;have X:=qH (Blk.new w 50 CS);have B:=qH ((Below.refl w.heap.size w).alloc (Nat.le_refl _) (.cells CS 50))
 rw[←hm] at X B;have hsz:=HSZ.out;go_enter Tryz.func46,Tryz.ntmps46;go_upto_region 1 with fail
 rw[←hm];generalize w.alloc (.cells CS 50)=w1 at X B ⊢;clear hm hsz;have q0:w1.cell? ⟨m,0,none⟩=some (.int .i64 s.k):=(X.out.cell 0).trans HC0.out;go_wp2_with fail;refine(CU.out _).mono ?_;rintro e w2 ⟨rfl,b2⟩;replace X:=qH (X.out.below b2 X.out.lt);have HTR:Hid (∀ W W',Below m w W→Below W.heap.size W W'→Below m w W'):=qH (fun W W' h1 h2=>h1.trans (h2.mono (by have:=h1.size;have:=HM.out;omega)));replace B:=qH (HTR.out _ _ B.out b2)
 clear b2 q0;obtain⟨mo,hmo⟩:∃ q,q=w2.heap.size:=⟨_,rfl⟩;have HMO:=qH hmo;have hmm:m<mo:=by rw[hmo];exact X.out.lt
 replace X:=qH (X.out.alloc (.cells zG 50));have Y:Hid (Blk (w2.alloc (.cells zG 50)) mo 50 (sgC (onlyS u s 0) (onlyX u x 0)).toArray):=qH (by
  have:=Blk.new w2 50 zG
  rw[←hmo] at this
  simpa [sgC,onlyS,onlyX,ftC,zerX,zeroFl,noB] using this)
 replace B:=qH (HTR.out _ _ B.out ((Below.refl w2.heap.size w2).alloc (Nat.le_refl _) (.cells zG 50)));go_upto_region 3 with fail
 rw[←hmo];generalize w2.alloc (.cells zG 50)=w3 at X Y B ⊢;clear hmo HMO;have CF:=qH (fields20 w3);go_wp2_with fail;refine CF.out.mono ?_;rintro e w4 ⟨rfl,hw4⟩;obtain⟨mf,hmf⟩:∃ q,q=w3.heap.size:=⟨_,rfl⟩;have hmf2:mo<mf:=by rw[hmf];exact Y.out.lt
 have Fk:=qH (Blk.new w3 131 fldC);replace X:=qH (X.out.alloc (.cells fldC 131));replace Y:=qH (Y.out.alloc (.cells fldC 131));replace B:=qH (HTR.out _ _ B.out ((Below.refl w3.heap.size w3).alloc (Nat.le_refl _) (.cells fldC 131)));rw[←hw4] at X Y B Fk;rw[←hmf] at Fk ⊢;have HA0:Hid (allFld u s 0=true):=qH rfl;clear hw4 hmf CF;go_wp2_with fail;go_loopw [13] (fun z wr=>∃ (i:Nat),i≤7∧z = .int .i64 (i:Int)∧Hid (Blk wr m 50 CS)∧Hid (Blk wr mo 50 (sgC (onlyS u s i) (onlyX u x i)).toArray)∧Hid (Blk wr mf 131 fldC)∧Hid (Below m w wr)∧Hid (allFld u s i=true)) (fun z _=>7-(intOf z).toNat)
 case atStart=>exact⟨0,by omega,rfl,X,Y,Fk,B,HA0⟩
 case round=>
  obtain⟨i,hi,rfl,X1,Y1,F1,B1,HA⟩:=hrel;clear X Y Fk B HA0
  by_cases h7:i=7
  ·
   subst h7;have HSW:=qH (HS.out.below (show Below w.heap.size w wr by rw[←HM.out];exact B1.out) (fun b _ h=>h));have HON:=qH (only_at HSW.out u 7);have CSM:=qH (same44 S S (onlyS u s 7) s (onlyX u x 7) x wr HON.out HSW.out);rw[HSV.out] at CSM;unfold sgV at CSM
   by_cases hu0:u=0
   ·
    have eu:(u != 0)=false:=by rw[hu0];rfl
    obtain rfl:V=false:=by rw[HV.out,hu0];simp
    clear hu0 CSM;go_wp2_with fail;go_ret;exact⟨rfl,by rw[←HM.out];exact B1.out⟩
   ·
    have eu:(u != 0)=true:=i64n u 0 hu0;obtain⟨r,hr⟩:∃ q,q=sameS (onlyS u s 7) s:=⟨_,rfl⟩;rw[←hr] at CSM;obtain rfl:V=r:=by rw[HV.out,HA.out,←hr,decide_eq_true hu0];rfl
    clear hu0 hr;go_wp2_with (first|refine wpList_load_blkG rfl 50 _ rfl mo rfl _ 50 _ Y1.out Tryz.underlying50 rfl info26 ?_|refine wpList_load_blkG rfl 50 _ rfl m rfl _ 50 _ X1.out Tryz.underlying50 rfl (by rw[HSZ.out];exact info26) ?_);refine CSM.out.mono ?_;rintro e w5 ⟨rfl,b5⟩;have B5:=qH (HTR.out _ _ B1.out b5);clear b5;go_wp2_with fail;go_ret;exact⟨rfl,by rw[←HM.out];exact B5.out⟩
  ·
   have hlt7:i<7:=by omega
   obtain⟨g0,g1,g2,g3⟩:=fld_cells hlt7;have f0:=(F1.out.cell (i*4)).trans g0;have f1:=(F1.out.cell (i*4+1)).trans g1;have f2:=(F1.out.cell (i*4+2)).trans g2;have f3:=(F1.out.cell (i*4+3)).trans g3;have eS:=set_enter hlt7;have eG:=get_enter hlt7;have CSET:=qH (fun(s:Sg) (x:Sf) (t:Tm) (y:Ft) (B:Nat) (w:World) hb hy hf=>set_any hlt7 s x (t:=t) y B w hb hy hf);have CGET:=qH (fun(W:World) (h:SgAt S W s x)=>get_any hlt7 S s x W h)
   have HUB:Hid (hasU u i = !(bits BinOp.and IntKind.i64 u (fldB i)==0)):=qH rfl;have HB5:Hid ((fldB i==32)=decide (i=5)):=qH (by rcases seven hlt7 with rfl|rfl|rfl|rfl|rfl|rfl|rfl<;>rfl);have HNO:=qH (fun h=>only_no (u:=u) hlt7 s x h);have HYE:=qH (fun h=>only_yes (u:=u) hlt7 s x h);have HFT:=qH (HF.out.fld i);have HNUM:Hid (i=5→(fldT s i).f.n=s.num):=qH (by rintro rfl;rfl);obtain⟨bit,hbit⟩:∃ q,q=fldB i:=⟨_,rfl⟩
   obtain⟨kd,hkd⟩:∃ q,q=fldK i:=⟨_,rfl⟩;obtain⟨gf,hgf⟩:∃ q,q=getN i:=⟨_,rfl⟩;obtain⟨sf,hsf⟩:∃ q,q=setN i:=⟨_,rfl⟩;rw[←hbit] at f0 HUB HB5;rw[←hkd] at f1;rw[←hgf] at f2 eG CGET;rw[←hsf] at f3 eS CSET;have HKD:Hid (fldK i=kd):=qH hkd.symm;clear g0 g1 g2 g3 hbit hkd hgf hsf;obtain⟨z,hz⟩:∃ q,q=wr.heap.size:=⟨_,rfl⟩;have HZ:=qH hz;have hzx:mo<z:=by rw[hz];exact Y1.out.lt
   have hzf:mf<z:=by rw[hz];exact F1.out.lt
   have X0:=qH (Blk.new wr 131 #[.int .i64 0,.int .i64 0,.nilFunc,.nilFunc]);have O0:=qH (Only.alloc [z] wr (.cells #[.int .i64 0,.int .i64 0,.nilFunc,.nilFunc] 131));rw[←hz] at X0;go_upto_region 6 with (rw[←hz];refine wpList_store_blk rfl 131 _ _ rfl rfl z #[.int .i64 bit,.int .i64 kd,.func (.func gf) #[] #[],.func (.func sf) #[] #[]] _ 131 rfl rfl X0.out rfl info54 (by simp[Value.oneCell']) ?_;intro v1 b1 o1)
   have BV:=qH (show Below z wr v1 from(O0.out.trans o1).below (by simp) (by rw[HZ.out];exact Nat.le_refl _));have X2:=qH (X1.out.below BV.out (by omega));have Y2:=qH (Y1.out.below BV.out hzx);have F2:=qH (F1.out.below BV.out hzf);have B2:=qH (HTR.out _ _ B1.out (by rw[←HZ.out];exact BV.out));have T2:=qH b1;have c0:=b1.cell 0;have c1:=b1.cell 1;have c2:=b1.cell 2;have c3:=b1.cell 3;simp only[List.getElem?_toArray,List.getElem?_cons_zero,List.getElem?_cons_succ] at c0 c1 c2 c3
   clear f0 f1 f2 f3 X0 O0 b1 o1 X1 Y1 F1 B1 BV hz;obtain⟨hb,hhb⟩:∃ q,q=(bits BinOp.and IntKind.i64 u bit==0):=⟨_,rfl⟩;have hbe:=hhb.symm;have HU:Hid (hasU u i = !hb):=qH (by rw[HUB.out,hhb]);clear hhb;cases hb with
   | true=>
    replace Y2:=qH Y2.out;rw[←(HNO.out HU.out).1,←(HNO.out HU.out).2] at Y2;have HA2:=qH (allFld_yes HA.out (.inl HU.out));clear HA;go_wp2_with fail;go_roundw
    case rel=>exact⟨i+1,by omega,by go_num,X2,Y2,F2,B2,HA2⟩
    case measure=>simp[intOf];omega
   | false=>
    have HSv:=qH (HS.out.below (show Below w.heap.size w v1 by rw[←HM.out];exact B2.out) (fun b _ h=>h));have CG:=qH (CGET.out v1 HSv.out);have TY:=qH (fld_at HSv.out i);rw[HSV.out] at CG;obtain⟨ft,hft⟩:∃ q,q=fldT s i:=⟨_,rfl⟩;obtain⟨y,hy⟩:∃ q,q=getX s x i:=⟨_,rfl⟩;rw[←hft] at TY HYE HFT HNUM;rw[←hy] at TY CG HYE;have HFTE:=qH hft;have HGY:=qH hy.symm;clear hft hy HSv CGET;obtain⟨_,sy,cy,vy⟩:=TY.out.its.2.form
    have HGX0:Hid (getX s x i=y):=qH HGY.out;obtain⟨yf,yv⟩:=y;dsimp only at vy;subst vy;have HYF:Hid (yf=ft.f):=qH TY.out.its.1;obtain⟨ly,hly⟩:∃ l,l=ft.l.length:=⟨_,rfl⟩;rw[←hly] at TY CG HYE HGX0;clear hly;unfold ftV at CG;dsimp only at CG;go_wp2_with (refine wpList_load_blk rfl 50 _ rfl m rfl _ 50 _ X2.out Tryz.underlying50 rfl (by rw[HSZ.out];exact info26) ?_);refine CG.out.mono ?_;rintro e v2 ⟨rfl,b2⟩
    obtain⟨z2,hz2⟩:∃ q,q=v2.heap.size:=⟨_,rfl⟩;have HZ2:=qH hz2;have hzz:z<z2:=by rw[hz2];exact Nat.lt_of_lt_of_le T2.out.lt b2.size
    have hzm:mo<z2:=by omega
    have hzf2:mf<z2:=by omega
    have hm2:m<z2:=by omega
    have P0:=qH (Blk.new v2 48 zT);have O0:=qH (Only.alloc [z2] v2 (.cells zT 48));rw[←hz2] at P0;replace X2:=qH (X2.out.below b2 X2.out.lt);replace Y2:=qH (Y2.out.below b2 Y2.out.lt);replace F2:=qH (F2.out.below b2 F2.out.lt);replace T2:=qH (T2.out.below b2 T2.out.lt);replace B2:=qH (HTR.out _ _ B2.out b2);clear b2 CG c0 c1 c2 c3;go_upto_region 8 with (rw[←hz2];refine wpList_store_blk rfl 48 _ _ rfl rfl z2 #[.int .i64 yf.k,.int .i64 yf.n,.int .i64 yf.g,.string yf.nm,.string yf.fn,.int .i64 yf.ar,.slice sy ly cy,.string yf.bs,.int .i64 yf.bt] _ 48 rfl rfl P0.out rfl info25 (by simp[Value.oneCell']) ?_;intro v3 b3 o3)
    have BV:=qH (show Below z2 v2 v3 from(O0.out.trans o3).below (by simp) (by rw[HZ2.out];exact Nat.le_refl _));replace X2:=qH (X2.out.below BV.out hm2);replace Y2:=qH (Y2.out.below BV.out hzm);replace F2:=qH (F2.out.below BV.out hzf2);replace T2:=qH (T2.out.below BV.out hzz);replace B2:=qH (HTR.out _ _ B2.out (by rw[←HZ2.out];exact BV.out));have P2:=qH b3;clear BV b3 o3 O0 P0 hz2 TY;have TY3:=qH (fld_at (HS.out.below (show Below w.heap.size w v3 by rw[←HM.out];exact B2.out) (fun b _ h=>h)) i)
    have HGX:Hid (getX s x i=⟨yf,.slice sy ly cy⟩):=qH HGX0.out;rw[←HFTE.out,HGX.out] at TY3;have CV:=qH (valid_anyW S ft ⟨yf,.slice sy ly cy⟩ v3 TY3.out HFT.out.1 HFT.out.2);unfold ftV at CV;dsimp only at CV;obtain⟨vb,hvb⟩:∃ q,q=validB ft:=⟨_,rfl⟩;rw[←hvb] at CV;have HVB:=qH hvb;clear hvb TY3;go_wp2_with (refine wpList_load_blk rfl 48 _ rfl z2 rfl _ 48 _ P2.out Tryz.underlying48 rfl info25 ?_);refine CV.out.mono ?_
    rintro e v4 ⟨rfl,b4⟩;replace X2:=qH (X2.out.below b4 X2.out.lt);replace Y2:=qH (Y2.out.below b4 Y2.out.lt);replace F2:=qH (F2.out.below b4 F2.out.lt);replace T2:=qH (T2.out.below b4 T2.out.lt);replace P2:=qH (P2.out.below b4 P2.out.lt);replace B2:=qH (HTR.out _ _ B2.out b4);clear b4 CV;have c0:=T2.out.cell 0;have c1:=T2.out.cell 1;have c3:=T2.out.cell 3;have d0:=P2.out.cell 0;have d1:=P2.out.cell 1
    simp only[List.getElem?_toArray,List.getElem?_cons_zero,List.getElem?_cons_succ] at c0 c1 c3 d0 d1;have HNOT:Hid (okFld s i=false→V=false):=qH (fun h=>by rw[HV.out,allFld_no (i:=i) (by omega) HU.out h];simp);have HOKE:Hid (okFld s i=(vb&&((decide (kd=0)||decide (yf.k=kd))&&(decide (i≠5)||decide (1≤s.num))))):=qH (by unfold okFld;rw[←HFTE.out,HKD.out,←HVB.out,HYF.out]);cases vb with
    | false=>
     obtain rfl:V=false:=HNOT.out (by rw[HOKE.out];rfl);clear HA X2 Y2 F2 T2 P2;go_wp2_with fail;go_ret;exact⟨rfl,by rw[←HM.out];exact B2.out⟩
    | true=>
     by_cases hk0:kd=0
     ·
      subst hk0
      by_cases h5:i=5
      ·
       have e5:(bit==32)=true:=by rw[HB5.out,decide_eq_true h5]
       have hyn:yf.n=s.num:=by rw[HYF.out];exact HNUM.out h5
       rw[hyn] at d1;clear hyn
       by_cases hn:1≤s.num
       ·
        have hn2:¬s.num<1:=by omega
        have HOK:Hid (okFld s i=true):=qH (by rw[HOKE.out,decide_eq_true hn];simp);clear hn h5;have CS1:=qH (CSET.out (onlyS u s i) (onlyX u x i) ft ⟨yf,.slice sy ly cy⟩ mo v4 Y2.out ⟨_,_,_,rfl⟩ HYF.out);unfold ftV at CS1;dsimp only at CS1;rw[(HYE.out HU.out).1,(HYE.out HU.out).2] at CS1;have HA2:=qH (allFld_yes HA.out (.inr HOK.out));clear HA;go_wp2_with (refine wpList_load_blk rfl 48 _ rfl z2 rfl _ 48 _ P2.out Tryz.underlying48 rfl info25 ?_)
        refine CS1.out.mono ?_;rintro e v5 ⟨rfl,y5,o5⟩;have Y3:=qH y5;have X3:=qH (X2.out.only o5 (by simp;omega));have F3:=qH (F2.out.only o5 (by simp;omega));have B3:=qH (B2.out.trans (o5.below (n:=m) (by simp;omega) (by have:=B2.out.size;have:=HM.out;omega)));clear y5 o5 CS1 X2 Y2 F2 B2 c0 c1 c3 d0 d1;go_wp2_with fail;go_roundw
        case rel=>exact⟨i+1,by omega,by go_num,X3,Y3,F3,B3,HA2⟩
        case measure=>simp[intOf];omega
       ·
        have hn2:s.num<1:=by omega
        obtain rfl:V=false:=HNOT.out (by rw[HOKE.out,decide_eq_false hn];simp[h5]);clear hn h5;clear HA X2 Y2 F2 T2 P2;go_wp2_with fail;go_ret;exact⟨rfl,by rw[←HM.out];exact B2.out⟩
      ·
       have e5:(bit==32)=false:=by rw[HB5.out,decide_eq_false h5]
       have HOK:Hid (okFld s i=true):=qH (by rw[HOKE.out,decide_eq_true (show i≠5 from h5)];simp);clear h5;have CS1:=qH (CSET.out (onlyS u s i) (onlyX u x i) ft ⟨yf,.slice sy ly cy⟩ mo v4 Y2.out ⟨_,_,_,rfl⟩ HYF.out);unfold ftV at CS1;dsimp only at CS1;rw[(HYE.out HU.out).1,(HYE.out HU.out).2] at CS1;have HA2:=qH (allFld_yes HA.out (.inr HOK.out));clear HA;go_wp2_with (refine wpList_load_blk rfl 48 _ rfl z2 rfl _ 48 _ P2.out Tryz.underlying48 rfl info25 ?_)
       refine CS1.out.mono ?_;rintro e v5 ⟨rfl,y5,o5⟩;have Y3:=qH y5;have X3:=qH (X2.out.only o5 (by simp;omega));have F3:=qH (F2.out.only o5 (by simp;omega));have B3:=qH (B2.out.trans (o5.below (n:=m) (by simp;omega) (by have:=B2.out.size;have:=HM.out;omega)));clear y5 o5 CS1 X2 Y2 F2 B2 c0 c1 c3 d0 d1;go_wp2_with fail;go_roundw
       case rel=>exact⟨i+1,by omega,by go_num,X3,Y3,F3,B3,HA2⟩
       case measure=>simp[intOf];omega
     ·
      have ek0:(kd != 0)=true:=i64n _ _ hk0
      by_cases hk:yf.k=kd
      ·
       rw[hk] at d0
       by_cases h5:i=5
       ·
        have e5:(bit==32)=true:=by rw[HB5.out,decide_eq_true h5]
        have hyn:yf.n=s.num:=by rw[HYF.out];exact HNUM.out h5
        rw[hyn] at d1;clear hyn
        by_cases hn:1≤s.num
        ·
         have hn2:¬s.num<1:=by omega
         have HOK:Hid (okFld s i=true):=qH (by rw[HOKE.out,decide_eq_true hn];rw[decide_eq_true hk];simp);clear hn h5 hk hk0;have CS1:=qH (CSET.out (onlyS u s i) (onlyX u x i) ft ⟨yf,.slice sy ly cy⟩ mo v4 Y2.out ⟨_,_,_,rfl⟩ HYF.out);unfold ftV at CS1;dsimp only at CS1;rw[(HYE.out HU.out).1,(HYE.out HU.out).2] at CS1;have HA2:=qH (allFld_yes HA.out (.inr HOK.out));clear HA;go_wp2_with (refine wpList_load_blk rfl 48 _ rfl z2 rfl _ 48 _ P2.out Tryz.underlying48 rfl info25 ?_)
         refine CS1.out.mono ?_;rintro e v5 ⟨rfl,y5,o5⟩;have Y3:=qH y5;have X3:=qH (X2.out.only o5 (by simp;omega));have F3:=qH (F2.out.only o5 (by simp;omega));have B3:=qH (B2.out.trans (o5.below (n:=m) (by simp;omega) (by have:=B2.out.size;have:=HM.out;omega)));clear y5 o5 CS1 X2 Y2 F2 B2 c0 c1 c3 d0 d1;go_wp2_with fail;go_roundw
         case rel=>exact⟨i+1,by omega,by go_num,X3,Y3,F3,B3,HA2⟩
         case measure=>simp[intOf];omega
        ·
         have hn2:s.num<1:=by omega
         obtain rfl:V=false:=HNOT.out (by rw[HOKE.out,decide_eq_false hn];simp[h5]);clear hn h5 hk hk0;clear HA X2 Y2 F2 T2 P2;go_wp2_with fail;go_ret;exact⟨rfl,by rw[←HM.out];exact B2.out⟩
       ·
        have e5:(bit==32)=false:=by rw[HB5.out,decide_eq_false h5]
        have HOK:Hid (okFld s i=true):=qH (by rw[HOKE.out,decide_eq_true (show i≠5 from h5)];rw[decide_eq_true hk];simp);clear h5 hk hk0;have CS1:=qH (CSET.out (onlyS u s i) (onlyX u x i) ft ⟨yf,.slice sy ly cy⟩ mo v4 Y2.out ⟨_,_,_,rfl⟩ HYF.out);unfold ftV at CS1;dsimp only at CS1;rw[(HYE.out HU.out).1,(HYE.out HU.out).2] at CS1;have HA2:=qH (allFld_yes HA.out (.inr HOK.out));clear HA;go_wp2_with (refine wpList_load_blk rfl 48 _ rfl z2 rfl _ 48 _ P2.out Tryz.underlying48 rfl info25 ?_)
        refine CS1.out.mono ?_;rintro e v5 ⟨rfl,y5,o5⟩;have Y3:=qH y5;have X3:=qH (X2.out.only o5 (by simp;omega));have F3:=qH (F2.out.only o5 (by simp;omega));have B3:=qH (B2.out.trans (o5.below (n:=m) (by simp;omega) (by have:=B2.out.size;have:=HM.out;omega)));clear y5 o5 CS1 X2 Y2 F2 B2 c0 c1 c3 d0 d1;go_wp2_with fail;go_roundw
        case rel=>exact⟨i+1,by omega,by go_num,X3,Y3,F3,B3,HA2⟩
        case measure=>simp[intOf];omega
      ·
       have ek:(yf.k != kd)=true:=i64n _ _ hk;obtain rfl:V=false:=HNOT.out (by rw[HOKE.out,decide_eq_false hk0,decide_eq_false hk];rfl);clear hk hk0;clear HA X2 Y2 F2 T2 P2;go_wp2_with fail;go_ret;exact⟨rfl,by rw[←HM.out];exact B2.out⟩
end Go.Proofs.YtoaimoemaoinhaaGreatDoor
namespace Go.Proofs.YtoaimoemaoinhaaGreatDoor
open Go Go.RowKit Go.Rt Go.Rw
theorem results_s2 {P:Program} {fn:Func} {a b:Tmp} (h:fn.results = #[.tmp a,.tmp b]) (tmps:Array Value) (w:World) (u v:Value) (hb:tmps.getD a undef=u) (hv:tmps.getD b undef=v):(results fn tmps).run P w = .ok (.tuple #[u,v]) w:=by
 rw[Array.getD_eq_getD_getElem?] at hb hv;simp[results,h,hb,hv]
section
variable {P:Program} {md:Region.Mode} {ops:Array Oper} {Q:Exit→Act→World→Prop} {S:World→Prop}
theorem tk {i:Nat} {oi:Oper} {v:Value} {fuel:Nat} {listed:Array Bool} {a:Act} {w:World} (hi:ops[i]? = some oi) (hw:Region.wanted oi (yielded ops a.tmps)=true) (hv:∀ w,S w→(execOp a.eval oi).run P w = .ok (.value v) w) (hS:S w)
  (h:wpAnyH P md ops Q S fuel (listed.setIfInBounds i true) (a.put oi.dst v) w) (hs:Region.noSelect ops=true:=by kernel_rfl) (hf:Region.free md ops listed i=true:=by kernel_rfl) (hr:(Region.ready md ops listed).contains i=true:=by kernel_rfl)
  (hQ:∀ c a w,Q (.panic c) (a.put oi.dst v) w→Q (.panic c) a w:=by exact fun _ _ _ h=>h):wpAnyH P md ops Q S (fuel+1) listed a w:=
 wpAnyH_take hi hs hf hr hQ (Or.inl ⟨hw,hv⟩) hS h
theorem tl (i d:Nat) {oi:Oper} {v:Value} {fuel:Nat} {listed:Array Bool} {a:Act} {w:World} (hi:ops[i]? = some oi) (hv:∀ w,S w→(execOp a.eval oi).run P w = .ok (.value v) w)
  (h:wpAnyH P md ops Q S fuel (listed.setIfInBounds i true) (a.put (some d) v) w) (hd:oi.dst=some d:=by rfl) (hw:Region.wanted oi (yielded ops a.tmps)=true:=by rfl) (hS:S w:=by assumption) (hs:Region.noSelect ops=true:=by kernel_rfl) (hf:Region.free md ops listed i=true:=by kernel_rfl) (hr:(Region.ready md ops listed).contains i=true:=by kernel_rfl)
  (hQ:∀ c a w,Q (.panic c) (a.put oi.dst v) w→Q (.panic c) a w:=by exact fun _ _ _ h=>h):wpAnyH P md ops Q S (fuel+1) listed a w:=
 wpAnyH_take hi hs hf hr hQ (Or.inl ⟨hw,hv⟩) hS (by rw[hd];exact h)
theorem tks {i:Nat} {oi:Oper} {fuel:Nat} {listed:Array Bool} {a:Act} {w:World} (hi:ops[i]? = some oi) (hw:Region.wanted oi (yielded ops a.tmps)=false) (hS:S w)
  (h:wpAnyH P md ops Q S fuel (listed.setIfInBounds i true) (a.put oi.dst undef) w) (hs:Region.noSelect ops=true:=by kernel_rfl) (hf:Region.free md ops listed i=true:=by kernel_rfl) (hr:(Region.ready md ops listed).contains i=true:=by kernel_rfl)
  (hQ:∀ c a w,Q (.panic c) (a.put oi.dst undef) w→Q (.panic c) a w:=by exact fun _ _ _ h=>h):wpAnyH P md ops Q S (fuel+1) listed a w:=
 wpAnyH_take hi hs hf hr hQ (Or.inr ⟨hw,rfl⟩) hS h
end
end Go.Proofs.YtoaimoemaoinhaaGreatDoor
