/- PeersX: a part of the proof. No condition beyond the premises of each theorem. -/
import Derived.Test.YtoaimoemaoinhaaGreatDoorQp14
import Derived.Test.YtoaimoemaoinhaaGreatDoorQp00
set_option maxRecDepth 100000
namespace Go.Proofs.YtoaimoemaoinhaaGreatDoor
open Go.RowKit Go.Rt Go.Rw
def u8 (n:Int):UInt8:=UInt8.ofNat (n % 256).toNat
theorem u8_toNat (n:Int):((u8 n).toNat:Int)=n % 256:=by
 unfold u8;rw[UInt8.toNat_ofNat'];omega
set_option maxHeartbeats 2000000 in
theorem number4 {B b:Nat} {l:List UInt8} {w:World} (h:Wr B b l w) (n:Int) (hlen:l.length+4≤140737488355328) :
  Calls Tryz.prog 153 #[.pointer (some ⟨b,0,none⟩),.int .i64 n,.int .i64 4] w fun e w'=>e = .returned (.tuple #[])∧Wr B b (l ++ [u8 (n / 16777216),u8 (n / 65536),u8 (n / 256),u8 n]) w'∧WFr B b w w':=by
 have W0:=qH h;have F0:=qH (WFr.refl B b w);clear h;go_enter Tryz.func153,Tryz.ntmps153;go_wp2_with fail;refine wp_loop_rounds 5 ?_;rw[rounds_succ];go_wp2_with fail;refine(lit_any [u8 (n / 16777216)] W0.out _ 1 rfl (by simp[Lib.byteCells,u8_toNat]) (by simp) (by simp;omega)).mono ?_;rintro e v1 ⟨rfl,q0,f0,_⟩;have W1:=qH q0.wr;have F1:=qH (F0.out.trans f0);clear q0 f0;go_wp2_with fail;rw[rounds_succ]
 go_wp2_with fail;refine(lit_any [u8 (n / 65536)] W1.out _ 1 rfl (by simp[Lib.byteCells,u8_toNat]) (by simp) (by simp;omega)).mono ?_;rintro e v2 ⟨rfl,q1,f1,_⟩;have W2:=qH q1.wr;have F2:=qH (F1.out.trans f1);clear q1 f1;go_wp2_with fail;rw[rounds_succ];go_wp2_with fail;refine(lit_any [u8 (n / 256)] W2.out _ 1 rfl (by simp[Lib.byteCells,u8_toNat]) (by simp) (by simp;omega)).mono ?_;rintro e v3 ⟨rfl,q2,f2,_⟩
 have W3:=qH q2.wr;have F3:=qH (F2.out.trans f2);clear q2 f2;go_wp2_with fail;rw[rounds_succ];go_wp2_with fail;refine(lit_any [u8 n] W3.out _ 1 rfl (by simp[Lib.byteCells,u8_toNat]) (by simp) (by simp;omega)).mono ?_;rintro e v4 ⟨rfl,q3,f3,_⟩;have W4:=qH q3.wr;have F4:=qH (F3.out.trans f3);clear q3 f3;go_wp2_with fail;rw[rounds_succ];go_wp2_with fail;go_end0;refine⟨rfl,?_,F4.out⟩
 have:=W4.out
 simpa using this
set_option maxHeartbeats 2000000 in
theorem number2 {B b:Nat} {l:List UInt8} {w:World} (h:Wr B b l w) (n:Int) (hlen:l.length+2≤140737488355328) :
  Calls Tryz.prog 153 #[.pointer (some ⟨b,0,none⟩),.int .i64 n,.int .i64 2] w fun e w'=>e = .returned (.tuple #[])∧Wr B b (l ++ [u8 (n / 256),u8 n]) w'∧WFr B b w w':=by
 have W0:=qH h;have F0:=qH (WFr.refl B b w);clear h;go_enter Tryz.func153,Tryz.ntmps153;go_wp2_with fail;refine wp_loop_rounds 3 ?_;rw[rounds_succ];go_wp2_with fail;refine(lit_any [u8 (n / 256)] W0.out _ 1 rfl (by simp[Lib.byteCells,u8_toNat]) (by simp) (by simp;omega)).mono ?_;rintro e v1 ⟨rfl,q0,f0,_⟩;have W1:=qH q0.wr;have F1:=qH (F0.out.trans f0);clear q0 f0;go_wp2_with fail;rw[rounds_succ];go_wp2_with fail
 refine(lit_any [u8 n] W1.out _ 1 rfl (by simp[Lib.byteCells,u8_toNat]) (by simp) (by simp;omega)).mono ?_;rintro e v2 ⟨rfl,q1,f1,_⟩;have W2:=qH q1.wr;have F2:=qH (F1.out.trans f1);clear q1 f1;go_wp2_with fail;rw[rounds_succ];go_wp2_with fail;go_end0;refine⟨rfl,?_,F2.out⟩
 have:=W2.out
 simpa using this
def atomB (s:ByteArray):List UInt8:=119::u8 s.size::s.data.toList
def num4 (n:Int):List UInt8:=[u8 (n / 16777216),u8 (n / 65536),u8 (n / 256),u8 n]
def num2 (n:Int):List UInt8:=[u8 (n / 256),u8 n]
set_option maxHeartbeats 2000000 in
theorem atom_any {B b:Nat} {l:List UInt8} {w:World} (h:Wr B b l w) (s:ByteArray) (hlen:l.length+(s.size+2)≤140737488355328) :
  Calls Tryz.prog 152 #[.pointer (some ⟨b,0,none⟩),.string s] w fun e w'=>e = .returned (.tuple #[])∧Wr B b (l++atomB s) w'∧WFr B b w w':=by
 have W0:=qH h;clear h;have hz:s.size≤9223372036854775807:=by omega
 go_enter Tryz.func152,Tryz.ntmps152;go_wp2_with fail;refine(lit_any [119,u8 s.size] W0.out _ 2 rfl (by simp[Lib.byteCells,u8_toNat]) (by simp) (by simp;omega)).mono ?_;rintro e v1 ⟨rfl,q1,f1,_⟩;have W1:=qH q1.wr;have F1:=qH f1;clear q1 f1;go_wp2_with fail;refine(writes_any W1.out s (by simp;omega)).mono ?_;rintro e v2 ⟨rfl,q2,f2⟩;have W2:=qH q2.wr;have F2:=qH (F1.out.trans f2);clear q2 f2;go_wp2_with fail
 go_end0;refine⟨rfl,?_,F2.out⟩
 have:=W2.out
 simpa [atomB] using this
def leB (u:Nat):List UInt8:=if h:u=0 then [] else u8 u::leB (u / 256)
termination_by u
decreasing_by omega
theorem leB_zero : leB 0 = []:=by rw[leB];simp
theorem leB_pos {u:Nat} (h:u≠0):leB u=u8 u::leB (u / 256):=by rw[leB,dif_neg h]
theorem leB_len (k:Nat):∀ u,u<256 ^ k→(leB u).length≤k:=by
 induction k with
 | zero=>
  intro u hu;obtain rfl:u=0:=by simpa using hu
  rw[leB_zero];simp
 | succ k ih=>
  intro u hu
  by_cases h:u=0
  ·
   subst h;rw[leB_zero];simp
  ·
   rw[leB_pos h,List.length_cons]
   have:=ih (u / 256) (by rw[Nat.pow_succ] at hu;omega)
   omega
def signB (n:Int):UInt8:=if n<0 then 1 else 0
def intB (n:Int):List UInt8:=
 if 0≤n∧n<256 then [97,u8 n]
 else if -2147483648≤n∧n<2147483648 then 98::num4 n
 else 110::u8 (leB n.natAbs).length::signB n::leB n.natAbs
set_option maxHeartbeats 2000000 in
theorem integer_any {B b:Nat} {l:List UInt8} {w:World} (h:Wr B b l w) (n:Int) (hn : -9223372036854775808≤n∧n≤9223372036854775807) (hlen:l.length+11≤140737488355328) :
  Calls Tryz.prog 151 #[.pointer (some ⟨b,0,none⟩),.int .i64 n] w fun e w'=>e = .returned (.tuple #[])∧Wr B b (l++intB n) w'∧WFr B b w w':=by
 have W0:=qH h;clear h
 by_cases h1:0≤n∧n<256
 ·
  have e1:intB n = [97,u8 n]:=by unfold intB;rw[if_pos h1]
  rw[e1];clear e1;obtain⟨h2,h3⟩:=h1;go_enter Tryz.func151,Tryz.ntmps151;go_wp2_with fail;refine(lit_any [97,u8 n] W0.out _ 2 rfl (by simp[Lib.byteCells,u8_toNat];omega) (by simp) (by simp;omega)).mono ?_;rintro e v1 ⟨rfl,q1,f1,_⟩;have W1:=qH q1.wr;have F1:=qH f1;clear q1 f1;go_wp2_with fail;go_end0;exact⟨rfl,W1.out,F1.out⟩
 ·
  by_cases h2 : -2147483648≤n∧n<2147483648
  ·
   have e1:intB n=98::num4 n:=by unfold intB;rw[if_neg h1,if_pos h2]
   rw[e1];clear e1;have hw:IntKind.i32.wrap n=n:=by rw[IntKind.wrap_i32];omega
   have h3:n<0∨256≤n:=by omega
   clear h1;obtain⟨h4,h5⟩:=h2;rcases h3 with h3|h3
   ·
    go_enter Tryz.func151,Tryz.ntmps151;go_wp2_with fail;refine(lit_any [98] W0.out _ 1 rfl (by simp[Lib.byteCells]) (by simp) (by simp;omega)).mono ?_;rintro e v1 ⟨rfl,q1,f1,_⟩;have W1:=qH q1.wr;have F1:=qH f1;clear q1 f1;go_wp2_with fail;refine(number4 W1.out n (by simp;omega)).mono ?_;rintro e v2 ⟨rfl,q2,f2⟩;have W2:=qH q2;have F2:=qH (F1.out.trans f2);clear q2 f2;go_wp2_with fail;go_end0;refine⟨rfl,?_,F2.out⟩
    have:=W2.out
    simpa [num4] using this
   ·
    have h6:0≤n:=by omega
    go_enter Tryz.func151,Tryz.ntmps151;go_wp2_with fail;refine(lit_any [98] W0.out _ 1 rfl (by simp[Lib.byteCells]) (by simp) (by simp;omega)).mono ?_;rintro e v1 ⟨rfl,q1,f1,_⟩;have W1:=qH q1.wr;have F1:=qH f1;clear q1 f1;go_wp2_with fail;refine(number4 W1.out n (by simp;omega)).mono ?_;rintro e v2 ⟨rfl,q2,f2⟩;have W2:=qH q2;have F2:=qH (F1.out.trans f2);clear q2 f2;go_wp2_with fail;go_end0;refine⟨rfl,?_,F2.out⟩
    have:=W2.out
    simpa [num4] using this
  ·
   have e1:intB n=110::u8 (leB n.natAbs).length::signB n::leB n.natAbs:=by unfold intB;rw[if_neg h1,if_neg h2]
   rw[e1];clear e1;obtain⟨M,hMe⟩:∃ M,M=n.natAbs:=⟨_,rfl⟩;rw[←hMe];have hM:M≤9223372036854775808:=by omega
   have hM0:2147483648≤M:=by omega
   have hlen2:=leB_len 8 M (by omega);have hi:(n==wrap64 (wrap32 n))=false:=by
    rw[beq_eq_false_iff_ne];unfold wrap64 wrap32;omega
   obtain⟨i0,hi0,hz0,hz1,hz2⟩:=info_parts info5
   by_cases h3:n<0
   ·
    have e2:signB n=1:=by unfold signB;rw[if_pos h3]
    rw[e2];have hU:IntKind.u64.wrap (-(IntKind.u64.wrap n))=(M:Int):=by rw[IntKind.wrap_u64,IntKind.wrap_u64];omega
    clear e2 hMe h1 h2;go_enter Tryz.func151,Tryz.ntmps151;go_wp2_with fail;go_loopw [5,6] (fun u v wr=>∃ (m:Nat) (ls:List UInt8) (vv:Value),m≤9223372036854775808∧u = .int .u64 m∧vv=v∧ls++leB m=leB M∧ls.length≤8∧wr.ownsRow w.heap.size 5 1 vv ls.length (Lib.byteCells ls)∧Below w.heap.size w wr) (fun u _ _=>(intOf u).toNat)
    case atStart=>exact⟨M,[],_,hM,by first|rfl|(rw[hU]),rfl,rfl,by simp,World.ownsRow_nil _ _ _ _,Below.refl _ _⟩
    case round=>
     obtain⟨m,ls,vv,hm,rfl,rfl,hls,hls8,hown,bw⟩:=hrel;have BW:=qH bw;have HO:=qH hown;have HL:=qH hls;obtain⟨ao,n',c',rfl⟩:∃ ao n' c',vv = .slice ao n' c':=by
      rcases hown.2 with ⟨hv,_⟩|⟨g,cap,cur,hv,_⟩
      ·
       exact⟨_,_,_,hv⟩
      ·
       exact⟨_,_,_,hv⟩
     clear bw hown hls
     by_cases hm0:0<m
     ·
      have hL:ls ++ [u8 m]++leB (m / 256)=leB M:=by rw[←HL.out,leB_pos (by omega:m≠0),List.append_assoc];rfl
      have h8:(ls ++ [u8 m]).length≤8:=by
       have:=congrArg List.length hL
       rw[List.length_append] at this;omega
      have HLL:=qH hL;have HOA:=qH (fun o=>HO.out.alloc o);have HC:Hid (∀ (j:Nat) (x:Value),[Value.int .u8 ((u8 m).toNat:Int)][j]? = some x→(wr.alloc (.cells #[.int .u8 ((m:Int) % 256)] 5)).cell? ((⟨wr.heap.size,0,none⟩:Addr).add j)=some x):=qH (fun j x hx=>by
       match j,hx with
       | 0,hx=>
        rw[List.getElem?_cons_zero] at hx;cases hx;rw[u8_toNat,show ((⟨wr.heap.size,0,none⟩:Addr).add 0)=⟨wr.heap.size,0,none⟩ by simp[Addr.add]];exact(Blk.new wr 5 #[.int .u8 ((m:Int) % 256)]).cell 0)
      have hbs:w.heap.size≤(wr.alloc (.cells #[.int .u8 ((m:Int) % 256)] 5)).heap.size:=by have:=BW.out.size;simp;omega
      have BN:=qH (BW.out.alloc BW.out.size (.cells #[.int .u8 ((m:Int) % 256)] 5));clear hL;go_wp2_with (at_builtin;refine wpList_append_own _ rfl _ _ 124 rfl w.heap.size 5 i0 (.int .u8 0) 1 1 Tryz.underlying124 hi0 hz0 hz1 hz2 rfl (by decide) _ _ _ rfl (HOA.out _) ⟨wr.heap.size,0,none⟩ 1 1 [.int .u8 ((u8 m).toNat:Int)] rfl rfl HC.out (by intro u hu;simp at hu;subst hu;rfl) (by unfold maxLen;omega) (by omega) hbs ?_)
      intro v' w2 hown' hgrow _;have HO2:=qH hown';have B2:Hid (Below w.heap.size w w2):=qH (BN.out.grown hgrow BN.out.size (fun k hk=>(HO.out.lt k hk).1));clear hown' hgrow HOA HC;go_wp2_with fail;go_roundw
      case rel=>
       refine⟨m / 256,ls ++ [u8 m],v',by omega,by go_num,rfl,HLL.out,h8,?_,B2.out⟩;rw[byteCells_append,List.length_append];exact HO2.out
      case measure=>simp[intOf];omega
     ·
      obtain rfl:m=0:=by omega
      have hL:ls=leB M:=by rw[←HL.out,leB_zero,List.append_nil]
      subst hL;have hne:leB M≠[]:=by rw[leB_pos (by omega:M≠0)];simp
      have HNE:=qH hne;obtain⟨g,cap,rfl,rfl,rfl,hg⟩:∃ g cap,ao=some ⟨g,0,none⟩∧n'=(leB M).length∧c'=cap∧w.heap.size≤g:=by
       rcases HO.out.2 with ⟨_,h0⟩|⟨g,cap,cur,hv,hb,_⟩
       ·
        exact absurd (List.length_eq_zero_iff.1 h0) hne
       ·
        cases hv;exact⟨g,_,rfl,rfl,rfl,hb⟩
      obtain⟨LB,hLB⟩:∃ LB,LB=leB M:=⟨_,rfl⟩;have HLB:=qH hLB;rw[←hLB] at HO HNE hls8 ⊢;obtain⟨q,hq⟩:∃ q,q=LB.length:=⟨_,rfl⟩;have HQ:=qH hq;rw[←hq] at hls8 ⊢;have hw8:IntKind.u8.wrap (q:Int)=(q:Int):=by rw[IntKind.wrap_u8];omega
      have hsg:(q:Int) % 256=(q:Int):=by omega
      have W1:=qH (W0.out.below BW.out);have HC:Hid (∀ j x,(Lib.byteCells LB)[j]? = some x→wr.cell? ⟨g,0+j,none⟩=some x):=qH (fun j x hx=>by
       have:=HO.out.cells (g:=g) rfl j x hx
       rw[add_none] at this;exact this)
      have hgl:g<wr.heap.size:=(HO.out.lt g rfl).2;have hgb:g≠b:=by have:=W0.out.lt;omega
      have HR:Hid (¬rowOf wr b g):=qH (fun h=>by
       have hb:=W0.out.lt;obtain⟨p,v,q1,q2⟩:=h
       have:=W0.out.row_lt (k:=g) ⟨p,v,(BW.out.block b hb).symm.trans q1,q2⟩
       omega)
      have FW:=qH (WFr.of_below (B:=B) (b:=b) BW.out (by have:=W0.out.lt;have:=W0.out.le;omega));clear hne hLB hq HL BW;go_wp2_with fail;refine(lit_any [110,u8 q,1] W1.out _ 3 rfl (by simp[Lib.byteCells,u8_toNat];omega) (by simp) (by simp;omega)).mono ?_;rintro e v1 ⟨rfl,q1,f1,o1⟩;have W2:=qH q1.wr;have F1:=qH (FW.out.trans f1);have HC2:Hid (∀ j x,(Lib.byteCells LB)[j]? = some x→v1.cell? ⟨g,0+j,none⟩=some x):=qH (fun j x hx=>by
       rw[←HC.out j x hx]
       have:=o1 g hgl hgb HR.out
       simp only[World.cell?,this])
      clear q1 f1 o1 HC HR HO;go_wp2_with fail;rw[HQ.out];refine(bytes_any W2.out g 0 _ HNE.out hgb HC2.out (by have:=HQ.out;simp;omega)).mono ?_;rintro e v2 ⟨rfl,q2,f2,_⟩;have W3:=qH q2.wr;have F2:=qH (F1.out.trans f2);clear q2 f2;go_wp2_with fail;go_end0;refine⟨rfl,?_,F2.out⟩
      have:=W3.out
      rw[HQ.out,HLB.out] at this
      simpa using this
   ·
    have e2:signB n=0:=by unfold signB;rw[if_neg h3]
    rw[e2];obtain rfl:n=(M:Int):=by omega
    have hU:IntKind.u64.wrap (M:Int)=(M:Int):=by rw[IntKind.wrap_u64];omega
    have h4:256≤M:=by omega
    clear e2 hMe h1 h2 h3;go_enter Tryz.func151,Tryz.ntmps151;go_wp2_with fail;go_loopw [5,6] (fun u v wr=>∃ (m:Nat) (ls:List UInt8) (vv:Value),m≤9223372036854775808∧u = .int .u64 m∧vv=v∧ls++leB m=leB M∧ls.length≤8∧wr.ownsRow w.heap.size 5 1 vv ls.length (Lib.byteCells ls)∧Below w.heap.size w wr) (fun u _ _=>(intOf u).toNat)
    case atStart=>exact⟨M,[],_,hM,by first|rfl|(rw[hU]),rfl,rfl,by simp,World.ownsRow_nil _ _ _ _,Below.refl _ _⟩
    case round=>
     obtain⟨m,ls,vv,hm,rfl,rfl,hls,hls8,hown,bw⟩:=hrel;have BW:=qH bw;have HO:=qH hown;have HL:=qH hls;obtain⟨ao,n',c',rfl⟩:∃ ao n' c',vv = .slice ao n' c':=by
      rcases hown.2 with ⟨hv,_⟩|⟨g,cap,cur,hv,_⟩
      ·
       exact⟨_,_,_,hv⟩
      ·
       exact⟨_,_,_,hv⟩
     clear bw hown hls
     by_cases hm0:0<m
     ·
      have hL:ls ++ [u8 m]++leB (m / 256)=leB M:=by rw[←HL.out,leB_pos (by omega:m≠0),List.append_assoc];rfl
      have h8:(ls ++ [u8 m]).length≤8:=by
       have:=congrArg List.length hL
       rw[List.length_append] at this;omega
      have HLL:=qH hL;have HOA:=qH (fun o=>HO.out.alloc o);have HC:Hid (∀ (j:Nat) (x:Value),[Value.int .u8 ((u8 m).toNat:Int)][j]? = some x→(wr.alloc (.cells #[.int .u8 ((m:Int) % 256)] 5)).cell? ((⟨wr.heap.size,0,none⟩:Addr).add j)=some x):=qH (fun j x hx=>by
       match j,hx with
       | 0,hx=>
        rw[List.getElem?_cons_zero] at hx;cases hx;rw[u8_toNat,show ((⟨wr.heap.size,0,none⟩:Addr).add 0)=⟨wr.heap.size,0,none⟩ by simp[Addr.add]];exact(Blk.new wr 5 #[.int .u8 ((m:Int) % 256)]).cell 0)
      have hbs:w.heap.size≤(wr.alloc (.cells #[.int .u8 ((m:Int) % 256)] 5)).heap.size:=by have:=BW.out.size;simp;omega
      have BN:=qH (BW.out.alloc BW.out.size (.cells #[.int .u8 ((m:Int) % 256)] 5));clear hL;go_wp2_with (at_builtin;refine wpList_append_own _ rfl _ _ 124 rfl w.heap.size 5 i0 (.int .u8 0) 1 1 Tryz.underlying124 hi0 hz0 hz1 hz2 rfl (by decide) _ _ _ rfl (HOA.out _) ⟨wr.heap.size,0,none⟩ 1 1 [.int .u8 ((u8 m).toNat:Int)] rfl rfl HC.out (by intro u hu;simp at hu;subst hu;rfl) (by unfold maxLen;omega) (by omega) hbs ?_)
      intro v' w2 hown' hgrow _;have HO2:=qH hown';have B2:Hid (Below w.heap.size w w2):=qH (BN.out.grown hgrow BN.out.size (fun k hk=>(HO.out.lt k hk).1));clear hown' hgrow HOA HC;go_wp2_with fail;go_roundw
      case rel=>
       refine⟨m / 256,ls ++ [u8 m],v',by omega,by go_num,rfl,HLL.out,h8,?_,B2.out⟩;rw[byteCells_append,List.length_append];exact HO2.out
      case measure=>simp[intOf];omega
     ·
      obtain rfl:m=0:=by omega
      have hL:ls=leB M:=by rw[←HL.out,leB_zero,List.append_nil]
      subst hL;have hne:leB M≠[]:=by rw[leB_pos (by omega:M≠0)];simp
      have HNE:=qH hne;obtain⟨g,cap,rfl,rfl,rfl,hg⟩:∃ g cap,ao=some ⟨g,0,none⟩∧n'=(leB M).length∧c'=cap∧w.heap.size≤g:=by
       rcases HO.out.2 with ⟨_,h0⟩|⟨g,cap,cur,hv,hb,_⟩
       ·
        exact absurd (List.length_eq_zero_iff.1 h0) hne
       ·
        cases hv;exact⟨g,_,rfl,rfl,rfl,hb⟩
      obtain⟨LB,hLB⟩:∃ LB,LB=leB M:=⟨_,rfl⟩;have HLB:=qH hLB;rw[←hLB] at HO HNE hls8 ⊢;obtain⟨q,hq⟩:∃ q,q=LB.length:=⟨_,rfl⟩;have HQ:=qH hq;rw[←hq] at hls8 ⊢;have hw8:IntKind.u8.wrap (q:Int)=(q:Int):=by rw[IntKind.wrap_u8];omega
      have hsg:(q:Int) % 256=(q:Int):=by omega
      have W1:=qH (W0.out.below BW.out);have HC:Hid (∀ j x,(Lib.byteCells LB)[j]? = some x→wr.cell? ⟨g,0+j,none⟩=some x):=qH (fun j x hx=>by
       have:=HO.out.cells (g:=g) rfl j x hx
       rw[add_none] at this;exact this)
      have hgl:g<wr.heap.size:=(HO.out.lt g rfl).2;have hgb:g≠b:=by have:=W0.out.lt;omega
      have HR:Hid (¬rowOf wr b g):=qH (fun h=>by
       have hb:=W0.out.lt;obtain⟨p,v,q1,q2⟩:=h
       have:=W0.out.row_lt (k:=g) ⟨p,v,(BW.out.block b hb).symm.trans q1,q2⟩
       omega)
      have FW:=qH (WFr.of_below (B:=B) (b:=b) BW.out (by have:=W0.out.lt;have:=W0.out.le;omega));clear hne hLB hq HL BW;go_wp2_with fail;refine(lit_any [110,u8 q,0] W1.out _ 3 rfl (by simp[Lib.byteCells,u8_toNat];omega) (by simp) (by simp;omega)).mono ?_;rintro e v1 ⟨rfl,q1,f1,o1⟩;have W2:=qH q1.wr;have F1:=qH (FW.out.trans f1);have HC2:Hid (∀ j x,(Lib.byteCells LB)[j]? = some x→v1.cell? ⟨g,0+j,none⟩=some x):=qH (fun j x hx=>by
       rw[←HC.out j x hx]
       have:=o1 g hgl hgb HR.out
       simp only[World.cell?,this])
      clear q1 f1 o1 HC HR HO;go_wp2_with fail;rw[HQ.out];refine(bytes_any W2.out g 0 _ HNE.out hgb HC2.out (by have:=HQ.out;simp;omega)).mono ?_;rintro e v2 ⟨rfl,q2,f2,_⟩;have W3:=qH q2.wr;have F2:=qH (F1.out.trans f2);clear q2 f2;go_wp2_with fail;go_end0;refine⟨rfl,?_,F2.out⟩
      have:=W3.out
      rw[HQ.out,HLB.out] at this
      simpa using this
end Go.Proofs.YtoaimoemaoinhaaGreatDoor
