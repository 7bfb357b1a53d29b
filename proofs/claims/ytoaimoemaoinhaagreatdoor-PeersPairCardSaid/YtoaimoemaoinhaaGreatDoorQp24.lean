/- PeersX: a part of the proof. No condition beyond the premises of each theorem. -/
import Derived.Test.YtoaimoemaoinhaaGreatDoorRows
import Derived.Shelf.Abstract
import Derived.Shelf.RegionOpen
import Derived.WalkKit
import Derived.OwnWalkIn
import Derived.TacticsInMore
import Derived.LoopNIn
import Derived.LoopIn
import Derived.Maps.AppendAt
import Derived.Lib.Hide
import Derived.Outline
import Derived.Test.YtoaimoemaoinhaaGreatDoorQp23
import Derived.WalkSpells
import Derived.WalkLawsBesides
import Derived.RegionTactic
import Derived.ChangeAlike
import Derived.Deep.QuietTactic
import Derived.BigQuiet
import Derived.Lib.AppendStr
import Derived.Lib.BufferRead
import Derived.Test.YtoaimoemaoinhaaGreatDoorQp00
set_option maxRecDepth 100000
namespace Go.Proofs.YtoaimoemaoinhaaGreatDoor.Fr
open Go.RowKit Go.Shelf Go.Rt Go.Rw
attribute [local go_sem] Oper.semAt_some
abbrev FragD := Int×Bool×Int×ByteArray
def restK (data:ByteArray) (most:Nat):Nat→ByteArray
 | 0=>data
 | k+1=>(restK data most k).extract (min most (restK data most k).size) (restK data most k).size
def partK (data:ByteArray) (most k:Nat):ByteArray:=(restK data most k).extract 0 (min most (restK data most k).size)
def manyK (data:ByteArray) (most:Nat):Nat:=max 1 ((data.size+most-1) / most)
def piecesL (data:ByteArray) (most:Nat):List (Int×ByteArray):=(List.range (manyK data most)).map fun k:Nat=>((manyK data most:Int)-(k:Int),partK data most k)
theorem piecesL_len (data:ByteArray) (most:Nat):(piecesL data most).length=manyK data most:=by simp[piecesL]
theorem piecesL_get (data:ByteArray) (most k:Nat) (h:k<(piecesL data most).length):(piecesL data most)[k]=((manyK data most:Int)-k,partK data most k):=by simp[piecesL]
theorem rest_size (data:ByteArray) (most k:Nat):(restK data most k).size=data.size-k*most:=by
 induction k with
 | zero=>simp[restK]
 | succ k ih=>
  simp only[restK,ByteArray.size_extract,ih]
  have:(k+1)*most=k*most+most:=by rw[Nat.succ_mul]
  omega
theorem many_le (data:ByteArray) (most:Nat) (h:1≤most):manyK data most≤data.size+1:=by
 unfold manyK
 have:(data.size+most-1) / most≤data.size+most-1:=Nat.div_le_self _ _
 have h2:(data.size+most-1) / most≤data.size:=by
  rw[Nat.div_le_iff_le_mul (by omega)]
  have:data.size*1≤data.size*most:=Nat.mul_le_mul_left _ h
  omega
 omega
set_option maxHeartbeats 1000000 in
theorem pieces1_runs (F:Fence) (n:Nat) (h31:F.fn 135) (hro:F.round=none) (hn:1≤n) (Bd Bm:Nat) (data:ByteArray) (most:Nat) (hm:1≤most) (hm2:most≤4096) (hd:data.size≤262144) :
  SeqRuns F n Tryz.prog 135 #[.pointer (some ⟨Bd,0,none⟩),.pointer (some ⟨Bm,0,none⟩)] (fun x:Int×ByteArray=>#[.int .i64 x.1,.string x.2]) (piecesL data most) [Bd,Bm]
   (fun W=>Boxed W Bd 9 (.string data)∧Boxed W Bm 3 (.int .i64 most)):=by
 intro l J Jx W ⟨bd,bm⟩ hT hJ hJx hY h0;refine callsIn_of_wp Tryz.func135 rfl h31 ?_ hro;simp only[Tryz.ntmps135,List.size_toArray,List.length_cons,List.length_nil,Nat.reduceAdd,Nat.reduceSub,Array.replicate_succ,Array.replicate_zero,List.push_toArray,List.append_toArray,List.nil_append,List.cons_append];have cd:=bd.cell;have cm:=bm.cell;have hN:((data.size:Int)+most-1) / most≤1→(1:Int)=(manyK data most:Int)-((0:Nat):Int):=by
  intro h;have e:(((data.size+most-1) / most:Nat):Int)=((data.size:Int)+most-1) / most:=by
   rw[Int.natCast_ediv,Int.natCast_sub (by omega),Int.natCast_add];rfl
  unfold manyK;omega
 have hN2:1<((data.size:Int)+most-1) / most→((data.size:Int)+most-1) / most=(manyK data most:Int)-((0:Nat):Int):=by
  intro h;have e:(((data.size+most-1) / most:Nat):Int)=((data.size:Int)+most-1) / most:=by
   rw[Int.natCast_ediv,Int.natCast_sub (by omega),Int.natCast_add];rfl
  unfold manyK;omega
 have HN:=qH hN;have HN2:=qH hN2;have HT:=qH hT;have HY:=qH hY;have hML:=many_le data most hm;obtain⟨N,hNe⟩:∃ N,N=manyK data most:=⟨_,rfl⟩;rw[←hNe] at hML;have HNe:=qH hNe;clear hN hN2 hT hY hNe;have hmx:max (1:Int) (((data.size:Int)+most-1) / most)=(N:Int):=by
  rw[HNe.out];rcases (show ((data.size:Int)+most-1) / most≤1∨1<((data.size:Int)+most-1) / most by omega) with h|h
  ·
   rw[Int.max_eq_left h];have:=HN.out h;omega
  ·
   rw[Int.max_eq_right (Int.le_of_lt h)];have:=HN2.out h;omega
 gi_wp2
 all_goals
  clear hmx
  gi_loopw [4] (fun p wr=>∃ k:Nat,k≤N∧p = .int .i64 ((N:Int)-(k:Int))∧J k [Bd,Bm] wr∧Boxed wr Bd 9 (.string (restK data most k))∧Boxed wr Bm 3 (.int .i64 most)) (fun p _=>(RowKit.intOf p).toNat)
  case atStart=>exact⟨0,Nat.zero_le _,by simp,h0,bd,bm⟩
  case round=>
   obtain⟨k,hk,rfl,hj,bd1,bm1⟩:=hrel;obtain⟨R,hRe⟩:∃ R,R=restK data most k:=⟨_,rfl⟩;have hR1:restK data most (k+1)=R.extract (min most R.size) R.size:=by rw[restK,hRe]
   have hP1:partK data most k=R.extract 0 (min most R.size):=by rw[partK,hRe]
   have hRs:R.size≤262144:=by rw[hRe,rest_size];omega
   rw[←hRe] at bd1;clear hRe
   by_cases hlt:k<N
   ·
    have hq:=HY.out k (by rw[piecesL_len];rw[←HNe.out];exact hlt) [Bd,Bm] wr hj;simp only[piecesL_get] at hq;rw[←HNe.out,hP1] at hq;have cd1:=bd1.cell;have cm1:=bm1.cell;have hpos:(0:Int)<(N:Int)-k:=by omega
    have HR1:=qH hR1;clear hR1 hP1;have hBm:Bm≠Bd:=by
     rintro rfl
     have:=bd1.symm.trans bm1
     simp at this
    by_cases hmin:most≤R.size
    ·
     rw[Nat.min_eq_left hmin] at hq;obtain⟨fn,tmps,assign,body,hy,hR⟩:=hq;have hmn:min (most:Int) (R.size:Int)=(most:Int):=by omega
     gi_wp2
     refine hR.mono ?_;rintro e W3 (⟨rfl,hJ3,hk3⟩|⟨rfl,hJx3⟩)
     ·
      have bd3:Boxed W3 Bd 9 (.string R):=(hk3.same Bd (by simp)).trans bd1;have bm3:Boxed W3 Bm 3 (.int .i64 most):=(hk3.same Bm (by simp)).trans bm1;have cd3:=bd3.cell;have cf3:=bd3.frozen
      gi_wp2
      go_roundw
      case rel=>
       refine⟨k+1,by omega,by rw[show ((N:Int)-k-1)=(N:Int)-((k+1:Nat):Int) by omega],hJ (k+1) _ W3 _ _ hJ3 (Only.setCell _ _ _ (by simp)) (fun r hr=>.inl hr) ?_,?_,?_⟩
       ·
        intro r hr;simp only[List.mem_cons,List.not_mem_nil,or_false] at hr;have l1:=bd3.lt;have l2:=bm3.lt;rcases hr with rfl|rfl
        ·
         simpa [World.setCell] using l1
        ·
         simpa [World.setCell] using l2
       ·
        rw[HR1.out,Nat.min_eq_left hmin];exact bd3.set _
       ·
        exact(Below.heap_setCell _ _ _ _ hBm).trans bm3
      case measure=>simp[RowKit.intOf];omega
     ·
      gi_wp2
      refine bodyPost_ret (results_none rfl _ _ _) rfl ?_;exact⟨⟨_,rfl⟩,.inr ⟨k+1,_,by rw[piecesL_len,←HNe.out];omega,hJx3⟩⟩
    ·
     rw[Nat.min_eq_right (by omega),ByteArray.extract_zero_size] at hq;obtain⟨fn,tmps,assign,body,hy,hR⟩:=hq;have hmn:min (most:Int) (R.size:Int)=(R.size:Int):=by omega
     gi_wp2
     refine hR.mono ?_;rintro e W3 (⟨rfl,hJ3,hk3⟩|⟨rfl,hJx3⟩)
     ·
      have bd3:Boxed W3 Bd 9 (.string R):=(hk3.same Bd (by simp)).trans bd1;have bm3:Boxed W3 Bm 3 (.int .i64 most):=(hk3.same Bm (by simp)).trans bm1;have cd3:=bd3.cell;have cf3:=bd3.frozen
      gi_wp2
      go_roundw
      case rel=>
       refine⟨k+1,by omega,by rw[show ((N:Int)-k-1)=(N:Int)-((k+1:Nat):Int) by omega],hJ (k+1) _ W3 _ _ hJ3 (Only.setCell _ _ _ (by simp)) (fun r hr=>.inl hr) ?_,?_,?_⟩
       ·
        intro r hr;simp only[List.mem_cons,List.not_mem_nil,or_false] at hr;have l1:=bd3.lt;have l2:=bm3.lt;rcases hr with rfl|rfl
        ·
         simpa [World.setCell] using l1
        ·
         simpa [World.setCell] using l2
       ·
        rw[HR1.out,Nat.min_eq_right (by omega),show R.extract R.size R.size=ByteArray.empty by simp];exact bd3.set _
       ·
        exact(Below.heap_setCell _ _ _ _ hBm).trans bm3
      case measure=>simp[RowKit.intOf];omega
     ·
      gi_wp2
      refine bodyPost_ret (results_none rfl _ _ _) rfl ?_;exact⟨⟨_,rfl⟩,.inr ⟨k+1,_,by rw[piecesL_len,←HNe.out];omega,hJx3⟩⟩
   ·
    have hz:¬(0:Int)<(N:Int)-k:=by omega
    clear hR1 hP1
    gi_wp2
    go_end0;exact⟨⟨_,rfl⟩,.inl ⟨_,by rw[piecesL_len,←HNe.out,show N=k by omega];exact hj⟩⟩
theorem pieces_in (F:Fence) (n:Nat) (h25:F.fn 83) (hro:F.round=none) (data:ByteArray) (most:Int) (w:World) :
  CallsIn F n Tryz.prog 83 #[.string data,.int .i64 most] w fun e w'=>e = .returned (.func (.func 135) #[] #[.pointer (some ⟨w.heap.size,0,none⟩),.pointer (some ⟨w.heap.size+1,0,none⟩)])∧w'=(w.alloc (.cells #[.string data] 9)).alloc (.cells #[.int .i64 most] 3):=by
 refine callsIn_of_wp Tryz.func83 rfl h25 ?_ hro;simp only[Tryz.ntmps83,List.size_toArray,List.length_cons,List.length_nil,Nat.reduceAdd,Nat.reduceSub,Array.replicate_succ,Array.replicate_zero,List.push_toArray,List.append_toArray,List.nil_append,List.cons_append]
 gi_wp2
 go_ret;exact⟨rfl,rfl⟩
end Go.Proofs.YtoaimoemaoinhaaGreatDoor.Fr
namespace Go.Proofs.YtoaimoemaoinhaaGreatDoor.Fr
open Go.RowKit Go.Shelf Go.Rt Go.Rw
attribute [local go_sem] Oper.semAt_some
def fc (f:FragD):List Value:=[.int .i64 f.1,.bool f.2.1,.int .i64 f.2.2.1,.string f.2.2.2]
theorem fc_len (f:FragD):(fc f).length=4:=rfl
theorem fc_one (f:FragD):∀ u∈fc f,u.oneCell'=true:=by simp[fc,Value.oneCell']
theorem u23 : Tryz.prog.underlying 113=some (.slice 117):=by kernel_rfl
theorem info30 : (Tryz.prog.info? 117).map (fun i=>(i.zero,i.size,i.bytes))=some (some (.agg #[.int .i64 0,.bool false,.int .i64 0,.string ByteArray.empty]),4,40):=by kernel_rfl
def cutL (id:Int) (data:ByteArray) (most:Nat):List FragD:=(List.range (manyK data most)).map fun k:Nat=>(id,decide (k=0),(manyK data most:Int)-(k:Int),partK data most k)
theorem cutL_len (id:Int) (data:ByteArray) (most:Nat):(cutL id data most).length=manyK data most:=by simp[cutL]
theorem cutL_take (id:Int) (data:ByteArray) (most k:Nat) (hk:k<manyK data most):(cutL id data most).take (k+1)=(cutL id data most).take k ++ [(id,decide (k=0),(manyK data most:Int)-(k:Int),partK data most k)]:=by
 rw[List.take_succ_eq_append_getElem (by rw[cutL_len];exact hk)];simp[cutL]
def CutI (w:World) (Bo Bi:Nat) (id:Int) (data:ByteArray) (most:Nat) (k:Nat) (T:List Nat) (W:World):Prop:=
 ∃ v,Boxed W Bo 113 v∧Sl W w.heap.size 117 4 fc v ((cutL id data most).take k)∧Bo∉T∧Off v T∧Boxed W Bi 2 (.int .i64 id)∧Bi∉T∧Below w.heap.size w W
theorem boxed_only {W W':World} {bs:List Nat} {B:Nat} {t:TypeId} {v:Value} (h:Boxed W B t v) (ho:Only bs W W') (hn:B∉bs):Boxed W' B t v:=(ho.block B h.lt hn).trans h
theorem off_more {W:World} {base e m:Nat} {α:Type} {c:α→List Value} {v:Value} {L:List α} (h:Sl W base e m c v L) {T T':List Nat} (ho:Off v T) (hT:∀ r∈T',r∈T∨W.heap.size≤r):Off v T':=by
 intro g hg hm
 have:=(h.lt g hg).2
 rcases hT g hm with q|q
 ·
  exact ho g hg q
 ·
  omega
theorem not_more {W:World} {B:Nat} {t:TypeId} {v:Value} (h:Boxed W B t v) {T T':List Nat} (ho:B∉T) (hT:∀ r∈T',r∈T∨W.heap.size≤r):B∉T':=by
 intro hm
 have:=h.lt
 rcases hT B hm with q|q
 ·
  exact ho q
 ·
  omega
theorem cutI_abides (w:World) (Bo Bi:Nat) (id:Int) (data:ByteArray) (most:Nat):Rt.Abides (fun k T W=>CutI w Bo Bi id data most k T W∧∀ r∈T,w.heap.size≤r):=by
 rintro k T A T' B ⟨⟨v,b1,s1,n1,o1,b2,n2,bl⟩,hT0⟩ ho hT hlt;have hz:=bl.size;have hT0':∀ r∈T',w.heap.size≤r:=fun r hr=>(hT r hr).elim (hT0 r) (fun q=>by omega)
 exact⟨⟨v,boxed_only b1 ho n1,s1.only ho o1,not_more b1 n1 hT,off_more s1 o1 hT,boxed_only b2 ho n2,not_more b2 n2 hT,bl.trans (ho.below hT0 hz)⟩,hT0'⟩
set_option maxHeartbeats 2000000 in
theorem cut_ok (id:Int) (data:ByteArray) (most:Nat) (w:World) (hi1:1≤id) (hi2:id≤2147483647) (hm:1≤most) (hm2:most≤4096) (hd:data.size≤262144) :
  Calls Tryz.prog 49 #[.int .i64 id,.string data,.int .i64 most] w fun e w'=>∃ v,e = .returned (.tuple #[v,.int .i64 0])∧Sl w' w.heap.size 117 4 fc v (cutL id data most)∧Below w.heap.size w w':=by
 refine(callsIn_wide (n:=3)).1 ?_;refine callsIn_of_wp_marks Tryz.func49 rfl trivial ?_ rfl;simp only[Tryz.ntmps49,List.size_toArray,List.length_cons,List.length_nil,Nat.reduceAdd,Nat.reduceSub,Array.replicate_succ,Array.replicate_zero,List.push_toArray,List.append_toArray,List.nil_append,List.cons_append];have d1:¬id<1:=by omega
 have d2:¬2147483647<id:=by omega
 have d3:¬(most:Int)<1:=by omega
 have d4:¬4096<(most:Int):=by omega
 have d5:¬262144<(data.size:Int):=by omega
 gi_wp2_with (refine⟨trivial,?_⟩;gi_at_call 83;refine(pieces_in Fence.wide _ trivial rfl _ _ _).mono ?_;rintro e w' ⟨rfl,rfl⟩)
 obtain⟨W0,hW0⟩:∃ W0,(((w.alloc (.cells #[.int .i64 id] 2)).alloc (.cells #[.slice none 0 0] 113)).alloc (.cells #[.string data] 9)).alloc (.cells #[.int .i64 most] 3)=W0:=⟨_,rfl⟩;have bI:Boxed W0 w.heap.size 2 (.int .i64 id):=by rw[←hW0];exact(((Boxed.new w 2 _).alloc _).alloc _).alloc _
 have bO:Boxed W0 (w.heap.size+1) 113 (.slice none 0 0):=by
  rw[←hW0];have:=Boxed.new (w.alloc (.cells #[.int .i64 id] 2)) 113 (.slice none 0 0);rw[World.size_alloc] at this;exact(this.alloc _).alloc _
 have bD:Boxed W0 (w.heap.size+1+1) 9 (.string data):=by
  rw[←hW0];have:=Boxed.new ((w.alloc (.cells #[.int .i64 id] 2)).alloc (.cells #[.slice none 0 0] 113)) 9 (.string data);rw[World.size_alloc,World.size_alloc] at this;exact this.alloc _
 have bM:Boxed W0 (w.heap.size+1+1+1) 3 (.int .i64 most):=by
  rw[←hW0];have:=Boxed.new (((w.alloc (.cells #[.int .i64 id] 2)).alloc (.cells #[.slice none 0 0] 113)).alloc (.cells #[.string data] 9)) 3 (.int .i64 most);rw[World.size_alloc,World.size_alloc,World.size_alloc] at this;exact this
 have hB0:Below w.heap.size w W0:=by
  rw[←hW0];exact((((Below.refl _ w).alloc (Nat.le_refl _) _).alloc (by simp) _).alloc (by simp;omega) _).alloc (by simp;omega) _
 have hsz:W0.heap.size=w.heap.size+4:=by rw[←hW0];simp
 rw[hW0];clear hW0;refine wpIn_rangeFunc_T (F:=Fence.wide) (n:=3) rfl (by omega) (gf:=135) (lb:=#[.pointer (some ⟨w.heap.size+1+1,0,none⟩),.pointer (some ⟨w.heap.size+1+1+1,0,none⟩)]) rfl trivial (enters_of Tryz.func135 (by kernel_rfl) rfl)
  (pieces1_runs Fence.wide (3-1) trivial rfl (by omega) (w.heap.size+1+1) (w.heap.size+1+1+1) data most hm hm2 hd)
  (fun W hb=>⟨(hb.block _ bD.lt).trans bD,(hb.block _ bM.lt).trans bM⟩)
  (by intro r hr;simp only[List.mem_cons,List.not_mem_nil,or_false] at hr;rcases hr with rfl|rfl<;>omega) (fun _=>rfl)
  (fun k T W=>CutI w (w.heap.size+1) w.heap.size id data most k T W∧∀ r∈T,w.heap.size≤r) (fun _ _ _ _=>False) (cutI_abides w _ _ id data most) (fun _ _ _ _ _ _ h _ _ _=>h)
  ⟨⟨_,bO,Sl.nil _ _ _ _ _,by simp,fun g hg=>by simp[Value.ownBlock] at hg,bI,by simp;omega,hB0⟩,by intro r hr;simp only[List.mem_cons,List.not_mem_nil,or_false] at hr;rcases hr with rfl|rfl<;>omega⟩
  (fun x=>{ tmps:=#[.int .i64 id,.string data,.int .i64 most,.pointer (some ⟨w.heap.size,0,none⟩),undef,undef,.slice none 0 0,
     .int .i64 0,.pointer (some ⟨w.heap.size+1,0,none⟩),.int .i64 x.1,.string x.2,
     .int .i64 id,.bool false,.bool false,.int .i64 id,.bool false,
     .bool false,.bool false,.int .i64 most,.bool false,.bool false,
     .bool false,.int .i64 most,.bool false,.bool false,.string data,
     .int .i64 data.size,.bool false,.string data,.int .i64 most,
     .func (.func 135) #[] #[.pointer (some ⟨w.heap.size+1+1,0,none⟩),.pointer (some ⟨w.heap.size+1+1+1,0,none⟩)],
     .int .i64 x.1,.string x.2,undef,undef,undef,undef,undef,undef,undef,undef,undef,undef,undef],defers:=[] }) ?assign ?body ?done ?stop
 case assign=>
  intro l x W K hK
  gi_wp2
  exact hK
 case body=>
  rintro l k hk T W ⟨⟨v,b1,s1,n1,o1,b2,n2,bl⟩,hT0⟩ hTl;rw[piecesL_len] at hk;simp only[piecesL_get];have hlen:((cutL id data most).take k).length=k:=by rw[List.length_take,cutL_len];omega
  have hml:=many_le data most hm;have hw0:=bl.size;obtain⟨x,hx⟩:∃ x:FragD,x=(id,decide (k=0),(manyK data most:Int)-(k:Int),partK data most k):=⟨_,rfl⟩;have hnew:=World.alloc_heap_new W (.cells (fc x).toArray 117);obtain⟨g,cap,W2,hrun,s2,hgrow,hwhere⟩:=Sl.push (P:=Tryz.prog) (t:=113) (ty:=113) (s1.only (Only.alloc T W (.cells (fc x).toArray 117)) o1) u23 info30 rfl (by omega) fc_len fc_one x hnew (by rw[hlen];omega) (by rw[hlen];omega) (by simp;omega) 1
  rw[hx,←cutL_take id data most k hk] at s2;rw[hlen] at hrun s2;have b1':Boxed W2 (w.heap.size+1) 113 v:=(b1.alloc _).kept hgrow (b1.not_row (by decide) s1);have b2':Boxed W2 w.heap.size 2 (.int .i64 id):=(b2.alloc _).kept hgrow (b2.not_row (by decide) s1);have c1:=b1.cell;have c2:=b2.cell;have c1':=b1'.cell;have f1':=b1'.frozen;obtain⟨sa,cp,hv⟩:∃ sa cp,v = .slice sa k cp:=by
   rcases s1.form with ⟨rfl,h0⟩|⟨g0,cap0,rfl,_⟩
   ·
    rw[h0] at hlen;exact⟨none,0,by rw[←hlen];rfl⟩
   ·
    exact⟨_,_,by rw[hlen]⟩
  have oW:Only [w.heap.size+1] W (W2.setCell ⟨w.heap.size+1,0,none⟩ (.slice (some ⟨g,0,none⟩) (k+1) cap))∨True:=.inr trivial;have fin:CutI w (w.heap.size+1) w.heap.size id data most (k+1) T (W2.setCell ⟨w.heap.size+1,0,none⟩ (.slice (some ⟨g,0,none⟩) (k+1) cap))∧KeepsT T W (W2.setCell ⟨w.heap.size+1,0,none⟩ (.slice (some ⟨g,0,none⟩) (k+1) cap)):=by
   have og:Only (v.ownBlock.toList) W W2:=(Only.alloc _ _ _).trans (Only.grown hgrow (fun r hr=>.inl (by simp[hr])));have os:Only ((w.heap.size+1)::v.ownBlock.toList) W (W2.setCell ⟨w.heap.size+1,0,none⟩ (.slice (some ⟨g,0,none⟩) (k+1) cap)):=
    (og.mono (fun b hb=>.inl (by simp[hb]))).trans (Only.setCell _ _ _ (by simp))
   have hgne:g≠w.heap.size+1:=by
    intro e
    have:=b1'.not_row (by decide) s2
    simp[Value.ownBlock,e] at this
   have hgo:Off (.slice (some ⟨g,0,none⟩) (k+1) cap) T:=by
    intro g' hg' hm';simp[Value.ownBlock] at hg';subst hg';rcases hwhere with q|q
    ·
     exact o1 g q hm'
    ·
     have:=hTl g hm'
     simp at q
     omega
   refine⟨⟨_,b1'.set _,s2.only (Only.setCell (bs:=[w.heap.size+1]) _ _ _ (by simp)) (fun g' hg'=>by simp[Value.ownBlock] at hg';subst hg';simpa using hgne),n1,hgo,?_,n2,?_⟩,?_⟩
   ·
    exact(Below.heap_setCell _ _ _ _ (by simp)).trans b2'
   ·
    refine bl.trans (os.below ?_ hw0);intro b hb;simp only[List.mem_cons,Option.mem_toList] at hb;rcases hb with rfl|hb
    ·
     omega
    ·
     exact(s1.lt b hb).1
   ·
    refine KeepsT.of_only os ?_ hTl;intro r hr hm';simp only[List.mem_cons,Option.mem_toList] at hm';rcases hm' with rfl|hb
    ·
     exact n1 hr
    ·
     exact o1 r hb hr
  have FIN:=qH fin;have HT0:=qH hT0;rw[hx] at hrun;clear fin hT0 oW hTl s1 o1 n1 n2 b1 b2 b1' b2' s2 hgrow hwhere hnew hx hlen;subst hv;simp only[fc] at hrun
  by_cases hk0:k=0
  ·
   subst hk0;simp only[decide_true] at hrun;have HRN:=qH hrun;clear hrun
   gi_wp2_with (gi_at_builtin;refine wpListIn_append_run rfl _ _ 113 113 rfl rfl rfl HRN.out ?_)
   exact⟨FIN.out.2,FIN.out.1,HT0.out⟩
  ·
   have hk1:((k:Int)==0)=false:=by simp;omega
   simp only[hk0,decide_false] at hrun;have HRN:=qH hrun;clear hrun
   gi_wp2_with (gi_at_builtin;refine wpListIn_append_run rfl _ _ 113 113 rfl rfl rfl HRN.out ?_)
   exact⟨FIN.out.2,FIN.out.1,HT0.out⟩
 case done=>
  rintro D T W hD hTl ⟨⟨v,b1,s1,n1,o1,b2,n2,bl⟩,hT0⟩ hK;rw[piecesL_len] at s1;have hlen:(cutL id data most).take (manyK data most)=cutL id data most:=List.take_of_length_le (by rw[cutL_len];exact Nat.le_refl _);rw[hlen] at s1;have c1:=b1.cell
  gi_wp2
  refine⟨by simp,.inl ⟨_,_,rfl,run_takeDeferred hK,?_⟩⟩;refine⟨_,results_tmp2 rfl _ _ _,v,rfl,s1.only (Only.putObj (bs:=T) _ _ _ hD) o1,bl.trans ((Only.putObj (bs:=T) _ _ _ hD).below hT0 bl.size)⟩
 case stop=>
  rintro D T c k W _ _ _ h _;exact h.elim
end Go.Proofs.YtoaimoemaoinhaaGreatDoor.Fr
namespace Go.Proofs.YtoaimoemaoinhaaGreatDoor.Fr
open Go.RowKit Go.Rt Go.Rw
def validB (id left:Int) (data:ByteArray):Bool:=decide (1≤id∧id≤2147483647∧1≤left∧left≤262144∧data.size≤4096)
theorem valid_of {id left:Int} {data:ByteArray} (h:validB id left data=true):1≤id∧id≤2147483647∧1≤left∧left≤262144∧data.size≤4096:=by simpa [validB] using h
theorem not_valid {id left:Int} {data:ByteArray} (h:validB id left data=false) (h1:1≤id) (h2:id≤2147483647) (h3:1≤left) (h4:left≤262144):¬data.size≤4096:=by
 intro h5;rw[validB,decide_eq_false_iff_not] at h;exact h ⟨h1,h2,h3,h4,h5⟩
set_option maxHeartbeats 400000 in
theorem valid_yes (id left:Int) (fi:Bool) (data:ByteArray) (w:World) (h:validB id left data=true) :
  Calls Tryz.prog 84 #[.agg #[.int .i64 id,.bool fi,.int .i64 left,.string data]] w fun e w'=>e = .returned (.bool true)∧Below w.heap.size w w':=by
 obtain⟨h1,h2,h3,h4,h5⟩:=valid_of h;have h6:(data.size:Int)≤4096:=by omega
 clear h;go_enter Tryz.func84,Tryz.ntmps84;go_wp2;go_ret;exact⟨rfl,(Below.refl _ _).alloc (Nat.le_refl _) _⟩
set_option maxHeartbeats 400000 in
theorem valid_no (id left:Int) (fi:Bool) (data:ByteArray) (w:World) (hs:data.size≤9223372036854775807) (h:validB id left data=false) :
  Calls Tryz.prog 84 #[.agg #[.int .i64 id,.bool fi,.int .i64 left,.string data]] w fun e w'=>e = .returned (.bool false)∧Below w.heap.size w w':=by
 by_cases h1:1≤id
 ·
  by_cases h2:id≤2147483647
  ·
   by_cases h3:1≤left
   ·
    by_cases h4:left≤262144
    ·
     have h5:=not_valid h h1 h2 h3 h4;have h6:¬(data.size:Int)≤4096:=by omega
     clear h h5;go_enter Tryz.func84,Tryz.ntmps84;go_wp2;go_ret;exact⟨rfl,(Below.refl _ _).alloc (Nat.le_refl _) _⟩
    ·
     clear h;go_enter Tryz.func84,Tryz.ntmps84;go_wp2;go_ret;exact⟨rfl,(Below.refl _ _).alloc (Nat.le_refl _) _⟩
   ·
    clear h;go_enter Tryz.func84,Tryz.ntmps84;go_wp2;go_ret;exact⟨rfl,(Below.refl _ _).alloc (Nat.le_refl _) _⟩
  ·
   clear h;go_enter Tryz.func84,Tryz.ntmps84;go_wp2;go_ret;exact⟨rfl,(Below.refl _ _).alloc (Nat.le_refl _) _⟩
 ·
  clear h;go_enter Tryz.func84,Tryz.ntmps84;go_wp2;go_ret;exact⟨rfl,(Below.refl _ _).alloc (Nat.le_refl _) _⟩
theorem guard30 : Tryz.prog.eqGuardType Tryz.prog.depth 117=false:=by kernel_rfl
attribute [local go_sem] guard30
end Go.Proofs.YtoaimoemaoinhaaGreatDoor.Fr
namespace Go.Proofs.YtoaimoemaoinhaaGreatDoor.Fr
open Go.RowKit Go.Rt Go.Rw Go.Mp Go.Lib
abbrev OE := Int×Value×ByteArray×Int
def kv (o:OE):Int×(Value×Int):=(o.1,(o.2.1,o.2.2.2))
def ab (o:OE):Int×(ByteArray×Int):=(o.1,(o.2.2.1,o.2.2.2))
abbrev idV (n:Int):Value:=.int .i64 n
abbrev msgV (p:Value×Int):Value:=.agg #[p.1,.int .i64 p.2]
def Rowy (a b:OE):Prop:=∀ g,a.2.1.ownBlock=some g→b.2.1.ownBlock≠some g
structure GA (w:World) (base G m:Nat) (O:List OE):Prop where
 blk:w.heap[G]? = some (.cells #[.map (some m)] 209 (0,0))
 mp:MapAt w m idV msgV (O.map kv)
 rows:∀ o∈O,w.ownsRow base 5 1 o.2.1 o.2.2.1.size (strCells o.2.2.1)
 apart:O.Pairwise Rowy
 keys:(O.map (·.1)).Nodup
 bG:base≤G
 bm:base≤m
 bz:base≤w.heap.size
structure Fr (n0:Nat) (w w':World):Prop where
 bel:Below n0 w w'
 oth:∀ (k:Nat) (vs:Array Value) (t:TypeId) (fr:Nat×Nat),w.heap[k]? = some (.cells vs t fr)→t≠5→w'.heap[k]? = some (.cells vs t fr)
theorem Fr.trans {n0:Nat} {a b c:World} (h:Fr n0 a b) (k:Fr n0 b c):Fr n0 a c:=⟨h.bel.trans k.bel,fun i vs t fr hi h1=>k.oth i vs t fr (h.oth i vs t fr hi h1) h1⟩
theorem Fr.of_below {n0:Nat} {a b:World} (h:Below a.heap.size a b) (hn:n0≤a.heap.size):Fr n0 a b:=⟨h.mono hn,fun i _ _ _ hi _=>(h.block i (Array.getElem?_eq_some_iff.1 hi).1).trans hi⟩
theorem Fr.refl (n0:Nat) (a:World):Fr n0 a a:=⟨Below.refl _ _,fun _ _ _ _ h _=>h⟩
theorem Fr.size {n0:Nat} {a b:World} (h:Fr n0 a b):a.heap.size≤b.heap.size:=h.bel.size
section
variable {w w':World} {base G m:Nat} {O:List OE}
theorem GA.c0 (h:GA w base G m O):w.cell? ⟨G,0,none⟩=some (.map (some m)):=by simp[World.cell?,h.blk]
theorem GA.lt (h:GA w base G m O):G<w.heap.size:=(Array.getElem?_eq_some_iff.1 h.blk).1
theorem GA.ne (h:GA w base G m O):G≠m:=by
 rintro rfl;obtain⟨es,c,hb,_⟩:=h.mp;rw[h.blk] at hb;cases hb
theorem GA.below (h:GA w base G m O) (hb:Below w.heap.size w w'):GA w' base G m O:=by
 refine⟨(hb.block G h.lt).trans h.blk,h.mp.of_heap (hb.block m h.mp.lt),fun o ho=>?_,h.apart,h.keys,h.bG,h.bm,by have:=h.bz;have:=hb.size;omega⟩;refine(h.rows o ho).kept (row:=none) ⟨hb.os,hb.tape,hb.output,hb.size,fun k hk _=>hb.block k hk⟩ ?_;cases hq:o.2.1.ownBlock with
 | none=>exact .inl rfl
 | some g=>exact .inr (by simp)
theorem GA.row_ne (h:GA w base G m O) {o:OE} (ho:o∈O) {g:Nat} (hg:o.2.1.ownBlock=some g):g≠G∧g≠m:=by
 rcases (h.rows o ho).2 with ⟨h1,_⟩|⟨b,cap,cur,h1,_,h3,_⟩
 ·
  rw[h1] at hg;cases hg
 ·
  rw[h1] at hg;simp[Value.ownBlock] at hg;subst hg;constructor
  ·
   rintro rfl;rw[h.blk] at h3;simp at h3
  ·
   rintro rfl;obtain⟨es,c,hb,_⟩:=h.mp;rw[hb] at h3;cases h3
theorem GA.next (h:GA w base G m O) {vb:Option Nat} (ho:Only (m::vb.toList) w w') (hvb:vb≠some G) {O':List OE} (hmp:MapAt w' m idV msgV (O'.map kv))
  (hrows:∀ o∈O',(o∈O∧∀ g,o.2.1.ownBlock=some g→vb≠some g)∨w'.ownsRow base 5 1 o.2.1 o.2.2.1.size (strCells o.2.2.1))
  (ha:O'.Pairwise Rowy) (hk:(O'.map (·.1)).Nodup):GA w' base G m O':=by
 refine⟨(ho.block G h.lt ?_).trans h.blk,hmp,fun o hO=>?_,ha,hk,h.bG,h.bm,by have:=h.bz;have:=ho.size;omega⟩
 ·
  intro hm;simp only[List.mem_cons,Option.mem_toList] at hm;rcases hm with q|q
  ·
   exact h.ne q
  ·
   exact hvb q
 ·
  rcases hrows o hO with ⟨h1,h2⟩|h1
  ·
   refine⟨(h.rows o h1).1,?_⟩;rcases (h.rows o h1).2 with q|⟨g,cap,cur,q1,q2,q3,q4⟩
   ·
    exact .inl q
   ·
    have hg:o.2.1.ownBlock=some g:=by rw[q1];rfl
    refine .inr ⟨g,cap,cur,q1,q2,(ho.block g (Array.getElem?_eq_some_iff.1 q3).1 ?_).trans q3,q4⟩;intro hm;simp only[List.mem_cons,Option.mem_toList] at hm;rcases hm with q|q
    ·
     exact(h.row_ne h1 hg).2 q
    ·
     exact h2 g hg q
  ·
   exact h1
theorem GA.fr (h:GA w base G m O) {vb:Option Nat} (ho:Only (m::vb.toList) w w') (hvb:∀ g,vb=some g→base≤g∧∃ cur,w.heap[g]? = some (.cells cur 5 (0,0))):Fr base w w':=by
 refine⟨ho.below ?_ h.bz,?_⟩
 ·
  intro b hb;simp only[List.mem_cons,Option.mem_toList] at hb;rcases hb with rfl|hb
  ·
   exact h.bm
  ·
   exact(hvb b hb).1
 ·
  intro k vs t fr hk ht;refine(ho.block k (Array.getElem?_eq_some_iff.1 hk).1 ?_).trans hk;intro hm;simp only[List.mem_cons,Option.mem_toList] at hm;rcases hm with rfl|hm
  ·
   obtain⟨es,c,hb,_⟩:=h.mp;rw[hb] at hk;cases hk
  ·
   obtain⟨_,cur,hc⟩:=hvb k hm;rw[hc] at hk;cases hk;exact ht rfl
end
theorem u59 : Tryz.prog.underlying 207=some (.map 2 212):=by kernel_rfl
theorem u2 : Tryz.prog.underlying 2=some (.int .i64):=by kernel_rfl
theorem u62 : Tryz.prog.underlying 124=some (.slice 5):=by kernel_rfl
theorem u9 : Tryz.prog.underlying 9=some .string:=by kernel_rfl
theorem u5 : Tryz.prog.underlying 5=some (.int .u8):=by kernel_rfl
theorem z64 (w:World):(zeroValue 212).run Tryz.prog w = .ok (msgV (.slice none 0 0,0)) w:=by kernel_rfl
theorem new_any (w:World) :
  Calls Tryz.prog 76 #[] w fun e w'=>e = .returned (.pointer (some ⟨w.heap.size+1,0,none⟩))∧GA w' w.heap.size (w.heap.size+1) w.heap.size []∧Below w.heap.size w w':=by
 have hmm:=@run_makeMap Tryz.prog;go_enter Tryz.func76,Tryz.ntmps76;go_wp2;go_ret;have e1:=MapAt.new w idV msgV;refine⟨rfl,⟨?_,e1.of_heap (Below.heap_alloc _ _ _ (by simp)),by simp,by simp,by simp,by omega,by omega,by simp;omega⟩,((Below.refl _ w).alloc (Nat.le_refl _) _).alloc (by simp) _⟩
 have:=World.alloc_heap_new (w.alloc (.map #[] 0)) (.cells #[.map (some w.heap.size)] 209)
 simpa using this
theorem nilmap (m:Nat) (w:World):(binOp .eql 207 (.map (some m)) (.map none)).run Tryz.prog w = .ok (.bool false) w:=by kernel_rfl
def Looks (w:World) (m:Nat) (id:Int) (is:Bool) (v:Value) (next:Int):Prop:=
 (Instr.lookup 207 (.map (some m)) (.int .i64 id) true).run Tryz.prog w = .ok (.tuple #[.agg #[v,.int .i64 next],.bool is]) w
theorem append_str_where {P:Program} {w:World} {base:Nat} {t u ty e:TypeId} {i:TypeInfo} (ht:P.underlying t=some (.slice e)) (hu:P.underlying u=some .string) (hi:P.info? e=some i) (hz:i.zero=some (.int .u8 0))
  (hsize:i.size=1) (hby:i.bytes=1) (v:Value) (n:Nat) (xs:List Value) (hown:w.ownsRow base e 1 v n xs) (s:ByteArray) (h63:n+s.size≤maxLen) (hbytes:n+s.size≤140737488355328)
  {v':Value} {w':World} (hr':(Builtin.append_ #[t,u] ty #[v,.string s]).run P w = .ok v' w'):v'.ownBlock=v.ownBlock∨v'.ownBlock=some w.heap.size:=by
 have hsmall:n+s.size≤9223372036854775807:=by simp only[maxLen] at h63;omega
 have hxl:xs.length=n:=by simpa using hown.1
 rcases hown.2 with ⟨rfl,rfl⟩|⟨g,cap,cur,rfl,hbg,hg,hnc,hcm,hcs,htake⟩
 ·
  by_cases hm:s.size=0
  ·
   have hf:=run_firstCells_string (P:=P) w 1 s;rw[hm] at hf;have hr:(Builtin.append_ #[t,u] ty #[.slice none 0 0,.string s]).run P w = .ok (.slice none 0 0) w:=by
    simp[Builtin.append_,run_underlying ht,run_underlying hu,sizeOf,typeInfo,hi,hsize,Builtin.lenOf,hm,hf]
   rw[hr] at hr';cases hr';exact .inl rfl
  ·
   have hr:=run_append_nil_string (P:=P) w t u ty e i (.int .u8 0) ht hu hi hz s (by omega) (by omega) (by rw[hby];omega);rw[hr] at hr';cases hr';exact .inr rfl
 ·
  by_cases hroom:n+s.size≤cap
  ·
   have hcs':cur.size=cap:=by simpa using hcs
   have hr:=run_append_room_string (P:=P) w t u ty e i ht hu hi hsize g n cap cur hg s hroom (by omega);rw[hr] at hr';cases hr';exact .inl rfl
  ·
   have holds:∀ j u,xs[j]? = some u→w.cell? ((⟨g,0,none⟩:Addr).add j)=some u:=hown.cells (g:=g) rfl;have hr:=run_append_grow_string (P:=P) w t u ty e i (.int .u8 0) ht hu hi hz ⟨g,0,none⟩ n cap xs (by rw[hsize];simpa using hxl) holds s (by omega) (by omega) (by rw[hby];exact growslice_fits (by omega) (by omega));rw[hr] at hr';cases hr';exact .inr rfl
theorem strCells_append (a b:ByteArray):strCells (a++b)=strCells a++strCells b:=by simp[strCells]
theorem not_mem2 {k a:Nat} {o:Option Nat} (h1:k≠a) (h2:some k≠o):k∉a::o.toList:=by
 simp only[List.mem_cons,Option.mem_toList];rintro(q|q)
 ·
  exact h1 q
 ·
  exact h2 q.symm
theorem ownB_ne {W:World} {M base n:Nat} {cs:Array Value} {t:TypeId} {fr:Nat×Nat} {v:Value} {xs:List Value} (h:W.heap[M]? = some (.cells cs t fr)) (hr:W.ownsRow base 5 1 v n xs) (ht:t≠5):v.ownBlock≠some M:=by
 intro e;rcases hr.2 with ⟨rfl,_⟩|⟨g,cap,cur,rfl,_,hg,_⟩
 ·
  cases e
 ·
  simp[Value.ownBlock] at e;subst e;rw[h] at hg;cases hg;exact ht rfl
theorem ownsRow_putObj_map {W:World} {base m n:Nat} {v:Value} {xs:List Value} {M:List (Int×(Value×Int))} (h:W.ownsRow base 5 1 v n xs) (hm:MapAt W m idV msgV M) (o:Obj):(W.putObj m o).ownsRow base 5 1 v n xs:=by
 obtain⟨es,c,hb,_⟩:=hm;exact ownsRow_putObj h o hb rfl
theorem two_cells {W:World} {M:Nat} {a b:Value} {t:TypeId} (h:W.heap[M]? = some (.cells #[a,b] t (0,0))) (x y:Value):((W.setCell ⟨M,0,none⟩ x).setCell ⟨M,1,none⟩ y).drew.heap[M]? = some (.cells #[x,y] t (0,0)):=by
 have h1:=heap_setCell_same W M 0 #[a,b] t x h;have h2:=heap_setCell_same (W.setCell ⟨M,0,none⟩ x) M 1 _ t y h1;simp only[List.setIfInBounds_toArray,List.set_cons_zero,List.set_cons_succ] at h2;exact h2
theorem conv_row {W:World} {base n cap:Nat} {sa:Option Addr} {s:ByteArray} (h:W.ownsRow base 5 1 (.slice sa n cap) s.size (strCells s)):(convert 124 9 (.slice sa n cap)).run Tryz.prog W = .ok (.string s) W:=by
 rcases h.2 with ⟨e,h0⟩|⟨g,cap',cur,e,_,hg,hnc,_,_,htk⟩
 ·
  cases e;rw[run_convert_nil_bytes W 124 9 5 0 u62 u5 u9]
  have:s=⟨#[]⟩:=by
   obtain⟨⟨l⟩⟩:=s
   have:l.length=0:=h0
   simp at this
   rw[this]
  rw[this]
 ·
  cases e
  have:=run_convert_bytes_back (P:=Tryz.prog) W 124 9 5 ⟨g,0,none⟩ cap s.data.toList u62 u5 u9 (by
   intro j hj;rw[add_none,cell_at hg,Nat.zero_add];have hl:(strCells s)[j]? = some (.int .u8 (s.data.toList[j].toNat:Int)):=by simp[strCells,List.getElem?_eq_getElem hj]
   rw[←htk,List.getElem?_take] at hl;split at hl
   ·
    simpa using hl
   ·
    cases hl)
  simpa using this
structure Fed (w:World) (base m:Nat) (v v':Value) (d:ByteArray) (M':List (Int×(Value×Int))) (w':World):Prop where
 mp:MapAt w' m idV msgV M'
 row:w'.ownsRow base 5 1 v' d.size (strCells d)
 only:Only (m::v.ownBlock.toList) w w'
 wher:v'.ownBlock=v.ownBlock∨∀ g,v'.ownBlock=some g→w.heap.size≤g
set_option maxHeartbeats 2000000 in
theorem feed_end1 {base G m:Nat} {O:List OE} (w:World) (h:GA w base G m O) (id left:Int) (data:ByteArray) (hv:validB id left data=true) (v:Value) (next:Int)
  (hlook:∀ w',Below w.heap.size w w'→Looks w' m id false v next) (hsl:∃ sa n cap,v = .slice sa n cap) (d:ByteArray) (hrow:w.ownsRow base 5 1 v d.size (strCells d)) (hvb:∀ g,v.ownBlock=some g→g≠G∧g≠m) (hbz:base≤w.heap.size) (hsum:d.size+data.size≤262144) (hl:¬1<left) :
  Calls Tryz.prog 78 #[.pointer (some ⟨G,0,none⟩),.agg #[.int .i64 id,.bool true,.int .i64 left,.string data]] w fun e w'=>e = .returned (.tuple #[.string (d++data),.bool true,.int .i64 0])∧∃ v',Fed w base m v v' (d++data) (Mp.del (O.map kv) id) w':=by
 have c0:=h.c0;have hlt:=h.lt;have hn:=nilmap m;obtain⟨sa,n,cap,rfl⟩:=hsl;have HL:=qH hlook;obtain⟨i0,hi,hza,hzb,hzc⟩:=info_parts info5;obtain⟨hv1,hv2,hv3,hv4,hv5⟩:=valid_of hv;have hgl:=hrow.lt;have hmlt:=h.mp.lt;have hnd:n≤d.size:=by
  rcases hrow.2 with ⟨e,_⟩|⟨_,_,_,e,_⟩
  ·
   simp at e;omega
  ·
   simp at e;omega
 have hnd2:¬(262144:Int)<(n:Int)+data.size:=by omega
 have HH:=qH h;have HROW:=qH hrow;have HVB:=qH hvb;have HGL:=qH hgl;have HI:=qH (And.intro hi (And.intro hza (And.intro hzb hzc)));clear hrow hvb hgl hi hza hzb hzc;clear h hlook;go_enter Tryz.func78,Tryz.ntmps78;go_wp2_with fail;refine(valid_yes id left true data _ hv).mono ?_;rintro e w1 ⟨rfl,b1⟩;have B1:Below w.heap.size w w1:=((Below.refl _ _).alloc (Nat.le_refl _) _).trans (b1.mono (by simp))
 have l1:(Instr.lookup 207 (.map (some m)) (.int .i64 id) true).run Tryz.prog w1.drew = .ok (.tuple #[.agg #[.slice sa n cap,.int .i64 next],.bool false]) w1.drew:=HL.out w1.drew B1.drew;have l2:(Instr.lookup 207 (.map (some m)) (.int .i64 id) true).run Tryz.prog (w1.alloc (.cells #[.slice none 0 0,.int .i64 0] 212)).drew = .ok (.tuple #[.agg #[.slice sa n cap,.int .i64 next],.bool false]) (w1.alloc (.cells #[.slice none 0 0,.int .i64 0] 212)).drew:=HL.out _ (B1.alloc B1.size _).drew
 have c1:w1.cell? ⟨G,0,none⟩=some (.map (some m)):=(B1.cell (p:=⟨G,0,none⟩) hlt).trans c0;have hbk:w1.heap[w.heap.size]? = some (.cells #[.int .i64 id,.bool true,.int .i64 left,.string data] 117 (0,0)):=(b1.block w.heap.size (by simp)).trans (World.alloc_heap_new w _);have k0:w1.cell? ⟨w.heap.size,0,none⟩=some (.int .i64 id):=by simp[World.cell?,hbk]
 have k1:w1.cell? ⟨w.heap.size,1,none⟩=some (.bool true):=by simp[World.cell?,hbk]
 have k2:w1.cell? ⟨w.heap.size,2,none⟩=some (.int .i64 left):=by simp[World.cell?,hbk]
 have k3:w1.cell? ⟨w.heap.size,3,none⟩=some (.string data):=by simp[World.cell?,hbk]
 have hz:=b1.size;simp only[World.size_alloc] at hz;have hz1:w.heap.size<w1.heap.size:=by omega
 have hz2:G<w1.heap.size:=by omega
 have HB1:=qH B1;have HBK:=qH hbk;clear b1 hbk B1 hz;have hB2:Below w.heap.size w (w1.alloc (.cells #[.slice sa n cap,.int .i64 next] 212)).drew:=(HB1.out.alloc HB1.out.size _).drew;have hrow2:(w1.alloc (.cells #[.slice sa n cap,.int .i64 next] 212)).drew.ownsRow base 5 1 (.slice sa n cap) d.size (strCells d):=
  HROW.out.kept (row:=none) ⟨hB2.os,hB2.tape,hB2.output,hB2.size,fun k hk _=>hB2.block k hk⟩ (by cases sa<;>simp[Value.ownBlock])
 obtain⟨hi,hza,hzb,hzc⟩:=HI.out;obtain⟨v',W3,hrun,hown,hgrow,_⟩:=run_append_own_string (P:=Tryz.prog) (w1.alloc (.cells #[.slice sa n cap,.int .i64 next] 212)).drew base 124 9 124 5 i0 u62 u9 hi hza hzb hzc (.slice sa n cap) d.size (strCells d) hrow2 data (by unfold maxLen;omega) (by omega) (by simp;omega);have hwh:=append_str_where (P:=Tryz.prog) (ty:=124) u62 u9 hi hza hzb hzc (.slice sa n cap) d.size (strCells d) hrow2 data (by unfold maxLen;omega) (by omega) hrun
 rw[←strCells_append,←ByteArray.size_append] at hown;obtain⟨sa',n',cap',rfl⟩:∃ sa' n' cap',v' = .slice sa' n' cap':=by
  rcases hown.2 with ⟨e,_⟩|⟨g,c,_,e,_⟩
  ·
   exact⟨_,_,_,e⟩
  ·
   exact⟨_,_,_,e⟩
 have hnM:some w1.heap.size≠(Value.slice sa n cap).ownBlock:=fun e=>by have:=(HGL.out _ e.symm).2;omega
 have hnF:some w.heap.size≠(Value.slice sa n cap).ownBlock:=fun e=>by have:=(HGL.out _ e.symm).2;omega
 have hnG:some G≠(Value.slice sa n cap).ownBlock:=fun e=>(HVB.out _ e.symm).1 rfl
 have hnm:some m≠(Value.slice sa n cap).ownBlock:=fun e=>(HVB.out _ e.symm).2 rfl
 have hM3:W3.heap[w1.heap.size]? = some (.cells #[.slice sa n cap,.int .i64 next] 212 (0,0)):=(hgrow.block _ (by simp) hnM).trans (World.alloc_heap_new w1 _);have hF3:W3.heap[w.heap.size]? = some (.cells #[.int .i64 id,.bool true,.int .i64 left,.string data] 117 (0,0)):=(hgrow.block _ (by simp;omega) hnF).trans ((Below.heap_alloc _ _ _ hz1).trans HBK.out);have hG3:W3.heap[G]? = some (.cells #[.map (some m)] 209 (0,0)):=(hgrow.block _ (by simp;omega) hnG).trans ((hB2.block G hlt).trans HH.out.blk)
 have m0:=cell_at hM3 0;have m1:=cell_at hM3 1;have q0:=cell_at hF3 0;have q1:=cell_at hF3 1;have q2:=cell_at hF3 2;have q3:=cell_at hF3 3;have g3:=cell_at hG3 0;simp only[List.getElem?_toArray,List.getElem?_cons_zero,List.getElem?_cons_succ] at m0 m1 q0 q1 q2 q3 g3;have fm0:W3.frozen? ⟨w1.heap.size,0,none⟩=false:=by simp[World.frozen?,hM3]
 have fm1:W3.frozen? ⟨w1.heap.size,1,none⟩=false:=by simp[World.frozen?,hM3]
 have hz3:w1.heap.size+1≤W3.heap.size:=by have:=hgrow.size;simpa using this
 have o4:Only (w1.heap.size::(Value.slice sa n cap).ownBlock.toList) w ((W3.setCell ⟨w1.heap.size,0,none⟩ (.slice sa' n' cap')).setCell ⟨w1.heap.size,1,none⟩ (.int .i64 (left-1))).drew:=
  ((((Only.of_below hB2).trans (Only.grown hgrow (fun r hr=>.inl (by simp[hr])))).trans (Only.setCell _ _ _ (by simp))).trans (Only.setCell _ _ _ (by simp))).trans (Only.drew _ _)
 have mp4:MapAt ((W3.setCell ⟨w1.heap.size,0,none⟩ (.slice sa' n' cap')).setCell ⟨w1.heap.size,1,none⟩ (.int .i64 (left-1))).drew m idV msgV (O.map kv):=
  HH.out.mp.of_heap (o4.block m hmlt (not_mem2 (by omega) hnm))
 have row4:((W3.setCell ⟨w1.heap.size,0,none⟩ (.slice sa' n' cap')).setCell ⟨w1.heap.size,1,none⟩ (.int .i64 (left-1))).drew.ownsRow base 5 1 (.slice sa' n' cap') (d++data).size (strCells (d++data)):=
  (ownsRow_setCell_other (a:=⟨w1.heap.size,1,none⟩) (ownsRow_setCell_other (a:=⟨w1.heap.size,0,none⟩) hown (ownB_ne hM3 hown (by decide)) _) (ownB_ne hM3 hown (by decide)) _).drew
 have HRN:=qH hrun;obtain⟨o,hu,hm⟩:=run_delete (P:=Tryz.prog) (ty:=0) (int_emb u2) u59 mp4 id;replace hu:(Builtin.delete_ #[207,2] 0 #[.map (some m),.int .i64 id]).run Tryz.prog ((W3.setCell ⟨w1.heap.size,0,none⟩ (.slice sa' n' cap')).setCell ⟨w1.heap.size,1,none⟩ (.int .i64 (left-1))).drew = .ok (.tuple #[]) (((W3.setCell ⟨w1.heap.size,0,none⟩ (.slice sa' n' cap')).setCell ⟨w1.heap.size,1,none⟩ (.int .i64 (left-1))).drew.putObj m o):=hu
 have o5:=o4.mono (cs:=m::(Value.slice sa n cap).ownBlock.toList) (fun b hb=>by
  simp only[List.mem_cons,Option.mem_toList] at hb ⊢;rcases hb with rfl|hb
  ·
   exact .inr (by omega)
  ·
   exact .inl (.inr hb))
 have row5:=ownsRow_putObj_map row4 mp4 o;have HFIN:=qH (Fed.mk (v:=.slice sa n cap) hm row5 (o5.trans (Only.putObj (bs:=m::(Value.slice sa n cap).ownBlock.toList) _ m o (by simp))) (hwh.imp (fun e=>e) (fun e g hg=>by rw[e] at hg;simp at hg;omega)));have hM5:(((W3.setCell ⟨w1.heap.size,0,none⟩ (.slice sa' n' cap')).setCell ⟨w1.heap.size,1,none⟩ (.int .i64 (left-1))).drew.putObj m o).heap[w1.heap.size]? = some (.cells #[.slice sa' n' cap',.int .i64 (left-1)] 212 (0,0)):=
  (World.putObj_heap_other (by omega)).trans (two_cells hM3 _ _)
 have hconv:=conv_row row5;generalize ((W3.setCell ⟨w1.heap.size,0,none⟩ (.slice sa' n' cap')).setCell ⟨w1.heap.size,1,none⟩ (.int .i64 (left-1))).drew.putObj m o=Y at *;have y0:=cell_at hM5 0;simp only[List.getElem?_toArray,List.getElem?_cons_zero] at y0;clear hown hgrow hM3 hF3 hG3 o4 o5 mp4 row4 row5 hrow2 hB2 hm hi hza hzb hzc hwh hM5 hrun;go_wp2_with fail;go_region
 all_goals
  go_wp2_with (at_builtin;refine wpList_append_run rfl _ _ 124 9 rfl rfl rfl HRN.out ?_);go_region;go_wp2;go_ret3;exact⟨rfl,_,HFIN.out⟩
end Go.Proofs.YtoaimoemaoinhaaGreatDoor.Fr
