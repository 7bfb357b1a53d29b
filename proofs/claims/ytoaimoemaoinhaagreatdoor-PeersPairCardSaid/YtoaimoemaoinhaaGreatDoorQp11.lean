/- PeersX: a part of the proof. No condition beyond the premises of each theorem. -/
import Derived.Test.YtoaimoemaoinhaaGreatDoorQp10
import Derived.Test.YtoaimoemaoinhaaGreatDoorQp08
import Derived.Test.YtoaimoemaoinhaaGreatDoorQp09
import Derived.Deep.RegionLaw
import Derived.Deep.RegionHeld3
import Derived.LoopTactic
import Derived.Deep.DrawnRows
import Derived.Lib.BufferWrite
import Derived.Lib.SlBuf
import Derived.Deep.RegionWith
import Derived.Deep.DeepCutAuto
import Derived.Laws.RangeAny
import Derived.Lib.OthersKept
import Derived.WalkSmall
import Derived.Test.YtoaimoemaoinhaaGreatDoorQp00
set_option maxRecDepth 100000
namespace Go.Rw
open Go Go.RowKit Go.Rt
theorem wpListIn_store_run {F:Fence} {n:Nat} {P:Program} {w w':World} {ops:Array Oper} {rest:List Oper} {o:Oper} {a:Act} {Q:Exit→Act→World→Prop} {v1 v2:Value}
  (hg:o.guard=none) (ty:TypeId) (x y:Operand) (hop:o.op=Op.store ty x y) (hdst:o.dst=none) (hx:a.eval x=v1) (hy:a.eval y=v2) (hrun:(Instr.storeAt ty v1 v2).run P w = .ok () w') (hK:wpListIn F n P ops Q rest a w') :
  wpListIn F n P ops Q (o::rest) a w:=by
 refine wpListIn_plain hg fun K hK'=>?_
 unfold Oper.wpIn;refine⟨?_,?_⟩
 ·
  simp[Oper.about,hop]
 ·
  rw[Oper.semAt_plain F _ _ (by rw[hop];intro c hc';cases hc')];simp[execOp,hop,hx,hy,hrun,Result.andThen];have e:a.put o.dst undef=a:=by rw[hdst];rfl
  have:=hK' _ _ hK
  simpa [Oper.uponIn,e] using this
end Go.Rw
namespace Go.Proofs.YtoaimoemaoinhaaGreatDoor.Sk
open Go.RowKit Go.Shelf Go.Rt Go.Rw
attribute [local go_sem] Oper.semAt_some
theorem load_blk {P:Program} {w:World} {b:Nat} {ty t:TypeId} {cs:Array Value} {d:TypeDesc} (hc:Blk w b t cs) (hu:P.underlying ty=some d) (hd:d.isRow=true) (hi:(P.info? ty).map (·.size)=some cs.size) :
  (Instr.loadAt ty (.pointer (some ⟨b,0,none⟩))).run P w = .ok (.agg cs) w:=by
 have:=run_loadAt_mid (P:=P) w b 0 ty cs.toList d hc.range hu hd (by simpa using hi)
 simpa using this
theorem store_blk {P:Program} {w:World} {b:Nat} {ty t:TypeId} {cs cells:Array Value} (hc:Blk w b t cs) (hs:cells.size=cs.size) (hi:(P.info? ty).map (·.size)=some cells.size) (h1:cells.all (·.oneCell')=true) :
  ∃ w',(Instr.storeAt ty (.pointer (some ⟨b,0,none⟩)) (.agg cells)).run P w = .ok () w'∧Blk w' b t cells∧Only [b] w w':=
 ⟨_,run_storeAt_mid (P:=P) w b 0 ty cells (by rw[hs];exact hc.there) hi h1,by simpa using hc.setCells cells.toList (by simpa using hs),only_setCells b _ 0 w⟩
def stF (b:ByteArray):Nat→S8
 | 0=>startF
 | k+1=>compF (stF b k) (blkL (allL b) k)
theorem start_ok : startF.ok:=by unfold S8.ok startF;decide
theorem st_ok (b:ByteArray) (k:Nat):(stF b k).ok:=by
 cases k with
 | zero=>exact start_ok
 | succ k=>exact comp_ok _ _
def outF (s:S8):List Nat:=(List.range 32).map fun i=>s.l.getD (i / 4) 0 / 2 ^ (24-i % 4*8) % 256
def outK (s:S8) (i:Nat):List Nat:=(outF s).take i++List.replicate (32-i) 0
theorem outF_len (s:S8):(outF s).length=32:=by simp[outF]
theorem outK_set (s:S8) (i:Nat) (hi:i<32):(outK s i).set i (s.l.getD (i / 4) 0 / 2 ^ (24-i % 4*8) % 256)=outK s (i+1):=by
 unfold outK;rw[List.set_append_right _ _ (by simp[outF_len];omega),List.take_succ_eq_append_getElem (by rw[outF_len];exact hi),List.append_assoc]
 congr 1
 rw[show 32-i=(32-(i+1))+1 by omega,List.replicate_succ]
 have:i-((outF s).take i).length=0:=by rw[List.length_take,outF_len];omega
 rw[this];simp[outF]
theorem outK_end (s:S8):outK s 32=outF s:=by
 unfold outK;rw[List.take_of_length_le (by rw[outF_len];omega)]
 simp
def sumF (b:ByteArray):List Nat:=outF (stF b (manyN b))
def toBytes (l:List Nat):ByteArray:=⟨(l.map UInt8.ofNat).toArray⟩
theorem l_size (s:S8):((s.l.map wv).toArray).size=8:=rfl
theorem i32s {s:S8} : (Tryz.prog.info? 310).map (·.size)=some ((s.l.map wv).toArray).size:=by
 have:(Tryz.prog.info? 310).map (·.size)=some 8:=by kernel_rfl
 rw[this];rfl
theorem blocks_in (F:Fence) (n:Nat) (h19:F.fn 253) (hro:F.round=none) (b:ByteArray) (w:World) :
  CallsIn F n Tryz.prog 253 #[.string b] w fun e w'=>e = .returned (.func (.func 264) #[] #[.pointer (some ⟨w.heap.size,0,none⟩)])∧w'=w.alloc (.cells #[.string b] 9):=by
 refine callsIn_of_wp Tryz.func253 rfl h19 ?_ hro;simp only[Tryz.ntmps253,List.size_toArray,List.length_cons,List.length_nil,Nat.reduceAdd,Nat.reduceSub,Array.replicate_succ,Array.replicate_zero,List.push_toArray,List.append_toArray,List.nil_append,List.cons_append]
 gi_wp2
 go_ret;exact⟨rfl,rfl⟩
def SumI (w:World) (Bs:Nat) (b:ByteArray) (k:Nat) (T:List Nat) (W:World):Prop:=
 Blk W Bs 310 ((stF b k).l.map wv).toArray∧Bs∉T∧Below w.heap.size w W∧(∀ r∈T,w.heap.size≤r)∧w.heap.size≤Bs
def SumA (w:World) (b:ByteArray) (Bp k:Nat):Act:=⟨#[.string b,undef,.string ⟨#[]⟩,.pointer (some ⟨w.heap.size,0,none⟩),.pointer (some ⟨Bp,0,none⟩),undef,undef,.agg #[wv 1779033703,wv 3144134277,wv 1013904242,wv 2773480762,wv 1359893119,wv 2600822924,wv 528734635,wv 1541459225],.string b,.func (.func 264) #[] #[.pointer (some ⟨w.heap.size+1,0,none⟩)],.agg ((blkL (allL b) k).map bv).toArray,undef,undef,undef,undef,undef,undef,undef,undef,undef,undef,undef,undef,undef,undef,undef,undef,undef,undef,undef,undef,undef],[]⟩
def SumJ (w:World) (b:ByteArray) (a':Act) (k:Nat) (T:List Nat) (W:World):Prop:=
 ∃ Bp,a'=SumA w b Bp k∧Blk W Bp 303 ((blkL (allL b) k).map bv).toArray∧Bp∉T∧w.heap.size<Bp∧SumI w w.heap.size b k T W
theorem blk_more {W:World} {B:Nat} {t:TypeId} {cs:Array Value} (h:Blk W B t cs) {T T':List Nat} (ho:B∉T) (hT:∀ r∈T',r∈T∨W.heap.size≤r):B∉T':=by
 intro hm
 have:=h.lt
 rcases hT B hm with q|q
 ·
  exact ho q
 ·
  omega
theorem sumI_abides (w:World) (Bs:Nat) (b:ByteArray):Rt.Abides (SumI w Bs b):=by
 rintro k T A T' B ⟨h1,h2,h3,h4,h5⟩ ho hT hlt;have hz:=h3.size;exact⟨h1.only ho h2,blk_more h1 h2 hT,h3.trans (ho.below h4 hz),fun r hr=>(hT r hr).elim (h4 r) (fun q=>by omega),h5⟩
theorem sumJ_abides (w:World) (b:ByteArray) (a':Act):Rt.Abides (SumJ w b a'):=by
 rintro k T A T' B ⟨Bp,h1,h2,h3,h4,h5⟩ ho hT hlt;exact⟨Bp,h1,h2.only ho h3,blk_more h2 h3 hT,h4,sumI_abides w w.heap.size b k T A T' B h5 ho hT hlt⟩
set_option maxHeartbeats 2000000 in
theorem sum_any (b:ByteArray) (hb:b.size≤100000) (w:World) (ht:Tabs w) :
  Calls Tryz.prog 243 #[.string b] w fun e w'=>e = .returned (.string (toBytes (sumF b)))∧Below w.heap.size w w':=by
 refine(callsIn_wide (n:=4)).1 ?_;refine callsIn_of_wp_marks Tryz.func243 rfl trivial ?_ rfl;simp only[Tryz.ntmps243,List.size_toArray,List.length_cons,List.length_nil,Nat.reduceAdd,Nat.reduceSub,Array.replicate_succ,Array.replicate_zero,List.push_toArray,List.append_toArray,List.nil_append,List.cons_append];have s0:=ht.st 0 (by omega);have s1:=ht.st 1 (by omega);have s2:=ht.st 2 (by omega);have s3:=ht.st 3 (by omega)
 have s4:=ht.st 4 (by omega);have s5:=ht.st 5 (by omega);have s6:=ht.st 6 (by omega);have s7:=ht.st 7 (by omega);simp only[S8.l,startF,List.getD_cons_zero,List.getD_cons_succ] at s0 s1 s2 s3 s4 s5 s6 s7;have HT:=qH ht;clear ht
 gi_wp2_with (refine⟨trivial,?_⟩;gi_at_call 253;refine(blocks_in Fence.wide _ trivial rfl _ _).mono ?_;rintro e w' ⟨rfl,rfl⟩)
 clear s0 s1 s2 s3 s4 s5 s6 s7;obtain⟨W0,hW0⟩:∃ W0,(w.alloc (.cells (startF.l.map wv).toArray 310)).alloc (.cells #[.string b] 9)=W0:=⟨_,rfl⟩;have bS:Blk W0 w.heap.size 310 (startF.l.map wv).toArray:=by rw[←hW0];exact(Blk.new w 310 _).alloc _
 have bB:Boxed W0 (w.heap.size+1) 9 (.string b):=by
  rw[←hW0];have:=Boxed.new (w.alloc (.cells (startF.l.map wv).toArray 310)) 9 (.string b);rw[World.size_alloc] at this;exact this
 have hB0:Below w.heap.size w W0:=by rw[←hW0];exact((Below.refl _ w).alloc (Nat.le_refl _) _).alloc (by simp) _
 have hsz:W0.heap.size=w.heap.size+2:=by rw[←hW0];simp
 have hW1:(w.alloc (.cells #[.int .u32 1779033703,.int .u32 3144134277,.int .u32 1013904242,.int .u32 2773480762,.int .u32 1359893119,.int .u32 2600822924,.int .u32 528734635,.int .u32 1541459225] 310)).alloc (.cells #[.string b] 9)=W0:=hW0;rw[hW1];clear hW0 hW1;refine wpIn_rangeFunc_TB (F:=Fence.wide) (n:=4) rfl (by omega) (gf:=264) (lb:=#[.pointer (some ⟨w.heap.size+1,0,none⟩)]) rfl trivial (enters_of Tryz.func264 (by kernel_rfl) rfl)
  (blocks1_runs Fence.wide 3 trivial rfl (by omega) (w.heap.size+1) b hb) ?pre ?lt (fun _=>rfl) (SumI w w.heap.size b) (fun _ _ _ _=>False) (sumI_abides w w.heap.size b) ?abx ?start
  (SumJ w b) (sumJ_abides w b) ?assign ?body ?done ?stop
 case pre=>intro W hW;exact(hW.block _ bB.lt).trans bB
 case lt=>intro r hr;simp only[List.mem_singleton] at hr;subst hr;exact bB.lt
 case abx=>intro c k T A T' B h;exact h.elim
 case start=>exact⟨bS,by simp,hB0,by intro r hr;simp only[List.mem_singleton] at hr;omega,Nat.le_refl _⟩
 case assign=>
  intro l k hk T W K hI hTl hK;rw[blocks_len] at hk;obtain⟨W2,hrun,b2,o2⟩:=store_blk (P:=Tryz.prog) (ty:=303) (cells:=((blkL (allL b) k).map bv).toArray) (Blk.new W 303 (List.replicate 64 (bv 0)).toArray) (by simp[blk_len b k hk]) (i37 (blk_len b k hk)) (one_map (fun _=>rfl) _);have HRN:=qH hrun;have fin:KeepsT T W W2∧SumJ w b (SumA w b W.heap.size k) k T W2:=by
   obtain⟨h1,h2,h3,h4,h5⟩:=hI;have hn:W.heap.size∉T:=fun hm=>by have:=hTl _ hm;omega
   have oo:Only [W.heap.size] W W2:=(Only.alloc _ _ _).trans o2;have hlt:=h1.lt;refine⟨KeepsT.of_only oo (fun r hr=>by have:=hTl r hr;simp;omega) hTl,W.heap.size,rfl,b2,hn,by omega,h1.only oo (by simp;omega),h2,h3.trans (oo.below (by simp;exact h3.size) h3.size),h4,h5⟩
  have HK:=qH (hK _ W2 fin.1 fin.2);clear hK fin hrun b2 o2 hI;simp only[blocks_get]
  gi_wp2_with (refine wpListIn_store_run rfl 303 _ _ rfl rfl rfl rfl HRN.out ?_)
  exact HK.out
 case body=>
  rintro l k hk T a' W ⟨Bp,rfl,bp,hn,hlt,h1,h2,h3,h4,h5⟩ hTl;rw[blocks_len] at hk;unfold SumA;have ld1:=qH (load_blk (P:=Tryz.prog) h1 Tryz.underlying310 rfl i32s);have ld2:=qH (load_blk (P:=Tryz.prog) bp Tryz.underlying303 rfl (i37 (blk_len b k hk)));have hc:=qH (compress_any (stF b k) (blkL (allL b) k) (st_ok b k) (blk_len b k hk) (blk_lt b k) W (HT.out.below h3 HT.out.two));have H1:=qH h1;have H3:=qH h3
  have H4:=qH h4;clear bp hn h1 h3 h4
  gi_wp2_with (first
   | (refine wpListIn_load_run rfl 310 _ rfl rfl ld1.out ?_)
   | (refine wpListIn_load_run rfl 303 _ rfl rfl ld2.out ?_))
  refine⟨trivial,?_⟩;refine(CallsIn.inRound l ((callsIn_wide (n:=1)).2 hc.out)).mono ?_;rintro e w2 ⟨rfl,b2⟩;have hBs:=H1.out.lt;obtain⟨W3,hrun3,b3,o3⟩:=store_blk (P:=Tryz.prog) (ty:=310) (cells:=((stF b (k+1)).l.map wv).toArray) (H1.out.below b2 hBs) (by rw[l_size,l_size]) i32s (one_map (fun _=>rfl) _);have HRN:=qH hrun3;have fin:KeepsT T W W3∧SumI w w.heap.size b (k+1) T W3:=by
   have oo:Only [w.heap.size] W W3:=(Only.of_below b2).trans o3;refine⟨KeepsT.of_only oo (fun r hr hm=>?_) hTl,b3,h2,H3.out.trans (oo.below (by simp) H3.out.size),H4.out,Nat.le_refl _⟩;simp only[List.mem_singleton] at hm;subst hm;exact h2 hr
  have FIN:=qH fin;clear fin hrun3 b3 o3 b2
  gi_wp2_with (refine wpListIn_store_run rfl 310 _ _ rfl rfl rfl rfl HRN.out ?_)
  exact FIN.out
 case done=>
  rintro D T W hD hTl ⟨h1,h2,h3,h4,h5⟩ hK;rw[blocks_len] at h1;obtain⟨S,hS⟩:∃ S,S=stF b (manyN b):=⟨_,rfl⟩;rw[←hS] at h1;have HS:=qH hS;have H1:=qH h1;have H3:=qH h3;have HK:=qH hK;have hDl:=hTl D hD;have hBl:=h1.lt;have hDb:=h4 D hD;have h4':=qH h4;clear hS h1 h3 hK h4 h5
  gi_wp2
  gi_loopw [14] (fun x wr=>∃ i:Nat,i≤32∧x = .int .i64 i∧Blk wr W.heap.size 315 ((outK S i).map bv).toArray∧Only [W.heap.size] W wr) (fun s _=>32-(intOf s).toNat)
  case atStart=>
   refine⟨0,by omega,rfl,?_,Only.alloc _ _ _⟩;exact Blk.new W 315 ((outK S 0).map bv).toArray
  case round=>
   obtain⟨i,hi,rfl,b1,o1⟩:=hrel
   by_cases hlt:i<32
   ·
    have hst:Blk wr w.heap.size 310 (S.l.map wv).toArray:=H1.out.only o1 (by simp;omega);have hSl:S.l.length=8:=rfl;have c1:=hst.cell (i / 4);rw[map_get _ _ (by rw[hSl];omega)] at c1;have hx:S.l[i / 4]'(by rw[hSl];omega)=S.l.getD (i / 4) 0:=by rw[List.getD_eq_getElem?_getD,List.getElem?_eq_getElem (by rw[hSl];omega)];rfl
    rw[hx] at c1;obtain⟨x,hxe⟩:∃ x,x=S.l.getD (i / 4) 0:=⟨_,rfl⟩;rw[←hxe] at c1;have HX:=qH hxe;have c2:wr.cell? ⟨W.heap.size,i,none⟩=some (bv 0):=by
     refine(b1.cell i).trans ?_;rw[map_get _ _ (by simp[outK,outF];omega)];unfold outK;rw[List.getElem_append_right (by simp[outF];omega)]
     simp
    have f2:=b1.frozen i;have HB1:=qH b1;have HO1:=qH o1;clear b1 o1 hst hx hxe hSl;have r0:0≤(i:Int) / 4:=by omega
    have r1:(i:Int) / 4<8:=by omega
    have r2:((i:Int) / 4).toNat=i / 4:=by omega
    have r3:(0:Int)≤(i:Int):=by omega
    have r4:(i:Int)<32:=by omega
    have r5:0≤24-(i:Int) % 4*8:=by omega
    have r6:(i:Int) % 4*8≤24:=by omega
    have r7:(24-(i:Int) % 4*8).toNat=24-i % 4*8:=by omega
    gi_wp2
    go_roundw
    case rel=>
     have ev:Value.int .u8 ((x:Int) / 2 ^ (24-i % 4*8) % 256)=bv (x / 2 ^ (24-i % 4*8) % 256):=by
      unfold bv;rw[Int.natCast_emod,Int.natCast_ediv,Int.natCast_pow];rfl
     rw[ev];have q:=HB1.out.set_ i (bv (x / 2 ^ (24-i % 4*8) % 256));rw[map_set,HX.out,outK_set S i hlt] at q;rw[HX.out];exact⟨i+1,by omega,by go_num,q,HO1.out.trans (Only.setCell _ _ _ (by simp))⟩
    case measure=>simp[intOf];omega
   ·
    obtain rfl:i=32:=by omega
    rw[outK_end] at b1;have hcv:(convert 124 9 (.slice (some ⟨W.heap.size,0,none⟩) 32 32)).run Tryz.prog wr = .ok (.string (toBytes (outF S))) wr:=by
     have hl:((outF S).map UInt8.ofNat).length=32:=by rw[List.length_map,outF_len]
     have q:=run_convert_bytes_back (P:=Tryz.prog) wr 124 9 5 ⟨W.heap.size,0,none⟩ 32 ((outF S).map UInt8.ofNat) und29 und5 und9 ?_
     ·
      rw[hl] at q;exact q
     ·
      intro j hj;rw[hl] at hj;have e:(⟨W.heap.size,0,none⟩:Addr).add j=⟨W.heap.size,j,none⟩:=by unfold Addr.add;split<;>simp_all
      rw[e,b1.cell j,map_get _ _ (by rw[outF_len];exact hj),List.getElem_map];have hlt:(outF S)[j]'(by rw[outF_len];exact hj)<256:=by simp only[outF,List.getElem_map];exact Nat.mod_lt _ (by omega)
      rw[UInt8.toNat_ofNat',Nat.mod_eq_of_lt hlt]
    have HCV:=qH hcv;have HO1:=qH o1;clear b1 hcv o1
    gi_wp2_with (refine wpListIn_conv_run rfl 124 9 _ rfl rfl HCV.out ?_)
    have hKr:wr.heap[D]? = some (.deferred (some [])):=(HO1.out.block D hDl (by simp;omega)).trans HK.out;refine⟨by simp,.inl ⟨_,_,rfl,run_takeDeferred hKr,?_⟩⟩;refine⟨_,results_tmp rfl _ _ _,?_,?_⟩
    ·
     rw[HS.out];rfl
    ·
     exact(H3.out.trans (HO1.out.below (by simp;omega) (by omega))).trans ((Only.putObj (bs:=T) _ _ _ hD).below h4'.out (by have:=HO1.out.size;omega))
 case stop=>
  rintro D T c k W _ _ _ h _;exact h.elim
end Go.Proofs.YtoaimoemaoinhaaGreatDoor.Sk
namespace Go.Proofs.YtoaimoemaoinhaaGreatDoor.Sk
open Go.RowKit Go.Rt
attribute [local go_sem ↓] Go.wp_at_zero Go.wp_at_succ
end Go.Proofs.YtoaimoemaoinhaaGreatDoor.Sk
namespace Go.Proofs.YtoaimoemaoinhaaGreatDoor.Sk
open Go.RowKit Go.Rt
attribute [local go_sem ↓] Go.wp_at_zero Go.wp_at_succ
def diffF (a b:ByteArray):Nat→Nat
 | 0=>0
 | k+1=>diffF a b k ||| ((a.data.getD k 0).toNat ^^^ (b.data.getD k 0).toNat)
theorem diff_lt (a b:ByteArray) (k:Nat):diffF a b k<256:=by
 induction k with
 | zero=>simp[diffF]
 | succ k ih=>exact Nat.or_lt_two_pow (n:=8) ih (Nat.xor_lt_two_pow (n:=8) (a.data.getD k 0).toNat_lt (b.data.getD k 0).toNat_lt)
theorem diff_zero (a b:ByteArray) (k:Nat):diffF a b k=0↔∀ j,j<k→a.data.getD j 0=b.data.getD j 0:=by
 induction k with
 | zero=>simp[diffF]
 | succ k ih=>
  rw[diffF,Nat.or_eq_zero_iff,ih];have hx:((a.data.getD k 0).toNat ^^^ (b.data.getD k 0).toNat=0)↔a.data.getD k 0=b.data.getD k 0:=by
   rw[←UInt8.toNat_xor];constructor
   ·
    intro h;exact UInt8.xor_eq_zero_iff.1 (UInt8.toNat_inj.1 h)
   ·
    intro h;rw[UInt8.xor_eq_zero_iff.2 h];rfl
  rw[hx];constructor
  ·
   rintro⟨h1,h2⟩ j hj
   by_cases e:j=k
   ·
    subst e;exact h2
   ·
    exact h1 j (by omega)
  ·
   exact fun h=>⟨fun j hj=>h j (by omega),h k (by omega)⟩
theorem getD_of {a:ByteArray} {k:Nat} (h:k<a.size):(a.data.getD k 0)=a[k]:=by
 have hd:k<a.data.size:=h;unfold Array.getD;rw[dif_pos hd];rfl
theorem bytes_ext (a b:ByteArray) (hs:a.size=b.size) (h:∀ j,j<a.size→a.data.getD j 0=b.data.getD j 0):a=b:=by
 apply ByteArray.ext;apply Array.ext
 ·
  exact hs
 ·
  intro j h1 h2;have q:=h j h1;rw[getD_of h1,getD_of h2] at q;exact q
set_option maxHeartbeats 1000000 in
theorem equal_any (a b:ByteArray) (ha:a.size≤100000) (hb:b.size≤100000) (w:World) :
  Calls Tryz.prog 205 #[.string a,.string b] w fun e w'=>e = .returned (.bool (decide (a=b)))∧Below w.heap.size w w':=by
 obtain⟨q,hq⟩:∃ q,q=decide (a=b):=⟨_,rfl⟩;rw[←hq];have HQ:=qH hq;clear hq
 by_cases hs:a.size=b.size
 ·
  have h1:((a.size:Int) != b.size)=false:=by rw[hs];simp
  have HS:=qH hs;clear hs;go_enter Tryz.func205,Tryz.ntmps205;go_wp2;go_loopw [5,14] (fun d x wr=>∃ k n:Nat,k≤a.size∧x = .int .i64 k∧d = .int .u8 (diffF a b k:Nat)∧wr=w.drewN n) (fun _ x _=>a.size-(intOf x).toNat)
  case atStart=>exact⟨0,0,by omega,rfl,rfl,rfl⟩
  case round=>
   obtain⟨k,n,hk,rfl,rfl,rfl⟩:=hrel
   by_cases hlt:k<a.size
   ·
    have hlt':(k:Int)<a.size:=by omega
    have hltb:(k:Int)<b.size:=by have:=HS.out;omega
    have hltb2:k<b.size:=by have:=HS.out;omega
    have hd:=diff_lt a b k;have HD:Hid (diffF a b (k+1)=diffF a b k ||| (a[k].toNat ^^^ b[k].toNat)):=by
     refine qH ?_;rw[diffF,getD_of hlt,getD_of hltb2]
    have e1:bits .or .u8 (diffF a b k:Int) (bits .xor .u8 (a[k].toNat:Int) (b[k].toNat:Int))=((diffF a b k ||| (a[k].toNat ^^^ b[k].toNat):Nat):Int):=by
     rw[u8_xor_nat _ _ a[k].toNat_lt b[k].toNat_lt,u8_or_nat _ _ hd (Nat.xor_lt_two_pow (n:=8) a[k].toNat_lt b[k].toNat_lt)]
    obtain⟨wq,hwq⟩:∃ wq,wq=w.drewN n:=⟨_,rfl⟩;rw[←hwq];have HW:=qH hwq;clear hwq;have HE:=qH e1;clear e1;go_wp2;go_quiet (fail);go_wp2;go_roundw
    case rel=>exact⟨k+1,n+nq,by omega,by go_num,by rw[HE.out,HD.out],by rw[HW.out,World.drewN_drewN]⟩
    case measure=>simp[intOf];omega
   ·
    obtain rfl:k=a.size:=by omega
    have hfin:((diffF a b a.size:Int)==0)=q:=by
     rw[HQ.out,Bool.eq_iff_iff,beq_iff_eq,decide_eq_true_eq];constructor
     ·
      intro h;exact bytes_ext a b HS.out ((diff_zero a b a.size).1 (by omega))
     ·
      rintro rfl
      have:=(diff_zero a a a.size).2 (fun _ _=>rfl)
      omega
    go_wp2;go_ret;exact⟨rfl,⟨rfl,rfl,rfl,Nat.le_refl _,fun _ _=>rfl⟩⟩
 ·
  have h1:((a.size:Int) != b.size)=true:=by rw[bne_iff_ne];omega
  have h2:q=false:=by rw[HQ.out,decide_eq_false_iff_not];rintro rfl;exact hs rfl
  subst h2;clear hs;go_enter Tryz.func205,Tryz.ntmps205;go_wp2;go_ret;exact⟨rfl,Below.refl _ _⟩
end Go.Proofs.YtoaimoemaoinhaaGreatDoor.Sk
namespace Go.Proofs.YtoaimoemaoinhaaGreatDoor.Sk
end Go.Proofs.YtoaimoemaoinhaaGreatDoor.Sk
namespace Go.Proofs.YtoaimoemaoinhaaGreatDoor.Sk
open Go.RowKit Go.Rt
attribute [local go_sem ↓] Go.wp_at_zero Go.wp_at_succ
def blkK (k:ByteArray):List Nat:=bytesN k++List.replicate (64-k.size) 0
theorem blkK_len (k:ByteArray) (h:k.size≤64):(blkK k).length=64:=by simp[blkK,bytesN_len];omega
theorem blkK_lt (k:ByteArray):∀ x∈blkK k,x<256:=by
 intro x hx;rcases List.mem_append.1 hx with h|h
 ·
  exact bytesN_lt k x h
 ·
  have:=List.eq_of_mem_replicate h;omega
def xorL (k:ByteArray) (x:Nat):List Nat:=(blkK k).map (· ^^^ x)
def xorK (k:ByteArray) (x i:Nat):List Nat:=((blkK k).take i).map (· ^^^ x)++(blkK k).drop i
theorem xorK_set (k:ByteArray) (x i:Nat) (h:i<(blkK k).length):(xorK k x i).set i ((blkK k)[i] ^^^ x)=xorK k x (i+1):=by
 unfold xorK;rw[List.set_append_right _ _ (by simp;omega),List.take_succ_eq_append_getElem h,List.map_append,List.append_assoc]
 congr 1
 have:i-(((blkK k).take i).map (· ^^^ x)).length=0:=by simp;omega
 rw[this,List.drop_eq_getElem_cons h];rfl
theorem xorK_get (k:ByteArray) (x i:Nat) (h:i<(blkK k).length):(xorK k x i).getD i 0=(blkK k)[i]:=by
 unfold xorK;rw[List.getD_eq_getElem?_getD,List.getElem?_append_right (by simp;omega)]
 have:i-(((blkK k).take i).map (· ^^^ x)).length=0:=by simp;omega
 rw[this,List.drop_eq_getElem_cons h];rfl
theorem xorK_len (k:ByteArray) (x i:Nat):(xorK k x i).length=(blkK k).length:=by
 unfold xorK
 simp
 omega
theorem xorK_end (k:ByteArray) (x:Nat) (h:k.size≤64):xorK k x 64=xorL k x:=by
 unfold xorK xorL;rw[List.take_of_length_le (by rw[blkK_len k h];omega),List.drop_of_length_le (by rw[blkK_len k h];omega),List.append_nil]
theorem xorL_lt (k:ByteArray) (x:Nat) (hx:x<256):∀ y∈xorL k x,y<256:=by
 intro y hy;obtain⟨c,hc,rfl⟩:=List.mem_map.1 hy;exact Nat.xor_lt_two_pow (n:=8) (blkK_lt k c hc) hx
def keyF (key:ByteArray):ByteArray:=if 64<key.size then toBytes (sumF key) else key
def macF (key b:ByteArray):List Nat:=sumF (toBytes (xorL (keyF key) 92)++toBytes (sumF (toBytes (xorL (keyF key) 54)++b)))
theorem toBytes_size (l:List Nat):(toBytes l).size=l.length:=by simp[toBytes,←ByteArray.size_data]
theorem sumF_len (b:ByteArray):(sumF b).length=32:=by simp[sumF,outF]
theorem keyF_size (key:ByteArray):(keyF key).size≤64:=by
 unfold keyF;split
 ·
  rw[toBytes_size,sumF_len];omega
 ·
  omega
theorem blk_conv {W:World} {g n:Nat} {t:TypeId} {L:List Nat} (h:Blk W g t (L.map bv).toArray) (hn:L.length=n) (hL:∀ x∈L,x<256) :
  (convert 124 9 (.slice (some ⟨g,0,none⟩) n n)).run Tryz.prog W = .ok (.string (toBytes L)) W:=by
 have q:=run_convert_bytes_back (P:=Tryz.prog) W 124 9 5 ⟨g,0,none⟩ n (L.map UInt8.ofNat) und29 und5 und9 ?_
 ·
  rw[List.length_map,hn] at q;exact q
 ·
  intro j hj;rw[List.length_map] at hj;have e:(⟨g,0,none⟩:Addr).add j=⟨g,j,none⟩:=by unfold Addr.add;split<;>simp_all
  rw[e,h.cell j,map_get _ _ hj,List.getElem_map];have hlt:L[j]<256:=hL _ (List.getElem_mem _);rw[UInt8.toNat_ofNat',Nat.mod_eq_of_lt hlt]
theorem copy_key {w:World} {g:Nat} (k:ByteArray) (hk:k.size≤64) (hb:Blk w g 303 (List.replicate 64 (bv 0)).toArray) :
  ∃ W',(Builtin.copy_ #[124,9] 3 #[.slice (some ⟨g,0,none⟩) 64 64,.string k]).run Tryz.prog w = .ok (goInt k.size) W'∧Blk W' g 303 ((blkK k).map bv).toArray∧Only [g] w W':=by
 have hr:=Lib.run_copy_row_string (P:=Tryz.prog) w 124 9 3 5 g 0 64 64 k _ 303 und29 (by kernel_rfl) hb (by omega) (by simp;omega);refine⟨_,hr,?_,?_⟩
 ·
  have q:=setRow_heap w g _ ((List.take 0 (List.replicate 64 (bv 0)).toArray.toList++Lib.byteCells k.data.toList++List.drop (0+k.size) (List.replicate 64 (bv 0)).toArray.toList).toArray) 303 (0,0) hb;have e:List.take 0 (List.replicate 64 (bv 0)).toArray.toList++Lib.byteCells k.data.toList++List.drop (0+k.size) (List.replicate 64 (bv 0)).toArray.toList=(blkK k).map bv:=by
   simp only[List.take_zero,List.nil_append,Nat.zero_add,List.drop_replicate,blkK,bytesN,Lib.byteCells,List.map_append,List.map_map,List.map_replicate];rfl
  rw[e] at q ⊢;exact q
 ·
  exact⟨rfl,rfl,rfl,by simp,fun j _ hj=>setRow_other w g j _ (by simpa using hj)⟩
set_option maxHeartbeats 2000000 in
theorem mac_any (key b:ByteArray) (hk:key.size≤90000) (hb:b.size≤90000) (w:World) (ht:Tabs w) :
  Calls Tryz.prog 223 #[.string key,.string b] w fun e w'=>e = .returned (.string (toBytes (macF key b)))∧Below w.heap.size w w':=by
 have hks:=keyF_size key;have HM:Hid (macF key b=sumF (toBytes (xorL (keyF key) 92)++toBytes (sumF (toBytes (xorL (keyF key) 54)++b)))):=qH rfl;have HK:Hid (keyF key=if 64<key.size then toBytes (sumF key) else key):=qH rfl;have hsum:=qH (sum_any key (by omega) w ht);obtain⟨K,hK⟩:∃ K,K=keyF key:=⟨_,rfl⟩;rw[←hK] at hks HM HK;have HT:=qH ht;clear hK ht;go_enter Tryz.func223,Tryz.ntmps223;go_upto_if 10 with fail
 go_cut [0] (fun s0 wx=>s0 = .string K∧Below w.heap.size w wx)
 case first=>
  by_cases h64:64<key.size
  ·
   have h64':(64:Int)<key.size:=by omega
   have e:K=toBytes (sumF key):=by rw[HK.out,if_pos h64]
   have HE:=qH e;clear e;go_wp2_with fail;refine hsum.out.mono ?_;rintro e w1 ⟨rfl,b1⟩;rw[←HE.out];go_wp2_with fail;go_meet;exact⟨rfl,b1⟩
  ·
   have h64':¬(64:Int)<key.size:=by omega
   have e:K=key:=by rw[HK.out,if_neg h64]
   subst e;go_wp2_with fail;go_meet;exact⟨rfl,Below.refl _ _⟩
 case rest=>
  obtain⟨rfl,bl⟩:=hcut;have HBL:=qH bl;clear bl;obtain⟨W1,hr1,b1,o1⟩:=copy_key (w:=(wc.alloc (.cells (List.replicate 64 (bv 0)).toArray 303)).alloc (.cells (List.replicate 64 (bv 0)).toArray 303)) (g:=wc.heap.size) K hks ((Blk.new wc 303 _).alloc _);have b1':Blk W1 (wc.heap.size+1) 303 (List.replicate 64 (bv 0)).toArray:=by
   have q:=Blk.new (wc.alloc (.cells (List.replicate 64 (bv 0)).toArray 303)) 303 (List.replicate 64 (bv 0)).toArray;rw[World.size_alloc] at q;exact q.only o1 (by simp)
  obtain⟨W2,hr2,b2,o2⟩:=copy_key (w:=W1) (g:=wc.heap.size+1) K hks b1';have b3:Blk W2 wc.heap.size 303 ((blkK K).map bv).toArray:=b1.only o2 (by simp);have HR1:=qH hr1;have HR2:=qH hr2;have HB2:=qH b2;have HB3:=qH b3;have HBW:Hid (Below wc.heap.size wc W2):=qH ((((Below.refl _ wc).alloc (Nat.le_refl _) _).alloc (by simp) _).trans ((o1.below (n:=wc.heap.size) (by simp) (by simp;omega)).trans (o2.below (n:=wc.heap.size) (by simp) (by have:=o1.size;simp at this;omega))))
  clear hr1 hr2 b1 b1' b2 b3 o1 o2;go_wp2_with (first
   | (refine Lib.wpList_copy_run _ rfl (.tmp 13) (.tmp 14) 124 9 rfl _ _ rfl rfl HR1.out ?_)
   | (refine Lib.wpList_copy_run _ rfl (.tmp 16) (.tmp 17) 124 9 rfl _ _ rfl rfl HR2.out ?_))
  have HXE1:=qH (xorK_end K 54 hks);have HXE2:=qH (xorK_end K 92 hks);have HXS:=qH (xorK_set K);have HXG:=qH (xorK_get K);have HXL:=qH (xorK_len K);have HKL:=qH (blkK_len K hks);have HKT:=qH (blkK_lt K);have hx0:∀ x,xorK K x 0=blkK K:=by intro x;simp[xorK]
  have HX0:=qH hx0;clear hx0;go_loopw [19] (fun x wr=>∃ i:Nat,i≤64∧x = .int .i64 i∧Blk wr wc.heap.size 303 ((xorK K 54 i).map bv).toArray∧Blk wr (wc.heap.size+1) 303 ((xorK K 92 i).map bv).toArray∧Below wc.heap.size wc wr) (fun s _=>64-(intOf s).toNat)
  case atStart=>exact⟨0,by omega,rfl,by rw[HX0.out];exact HB3.out,by rw[HX0.out];exact HB2.out,HBW.out⟩
  case round=>
   obtain⟨i,hi,rfl,b1,b2,bl⟩:=hrel;clear HB2 HB3 HBW
   by_cases hlt:i<64
   ·
    have hil:i<(blkK K).length:=by rw[HKL.out];exact hlt
    have c1:=b1.cell i;have c2:=b2.cell i;rw[map_get _ _ (by rw[HXL.out];exact hil)] at c1 c2;have g1:=HXG.out 54 i hil;have g2:=HXG.out 92 i hil;rw[List.getD_eq_getElem?_getD,List.getElem?_eq_getElem (by rw[HXL.out];exact hil)] at g1 g2;simp only[Option.getD_some] at g1 g2;rw[g1] at c1;rw[g2] at c2;have s1:=HXS.out 54 i hil;have s2:=HXS.out 92 i hil;have hxl:=HKT.out _ (List.getElem_mem hil);obtain⟨x,hx⟩:∃ x,x=(blkK K)[i]:=⟨_,rfl⟩
    rw[←hx] at c1 c2 s1 s2 hxl;have S1:=qH s1;have S2:=qH s2;have e1:bits .xor .u8 (x:Int) 54=((x ^^^ 54:Nat):Int):=u8_xor_nat x 54 hxl (by omega);have e2:bits .xor .u8 (x:Int) 92=((x ^^^ 92:Nat):Int):=u8_xor_nat x 92 hxl (by omega);have f1:=b1.frozen i;have f2:=b2.frozen i;have HB1:=qH b1;have HB2:=qH b2;have HBL2:=qH bl;have i0:(0:Int)≤(i:Int):=by omega
    have i1:(i:Int)<64:=by omega
    clear b1 b2 bl hx g1 g2 s1 s2 hil;go_wp2;go_roundw
    case rel=>
     have q1:=(HB1.out.set_ i (bv (x ^^^ 54))).far (p:=⟨wc.heap.size+1,i,none⟩) (by simp) (bv (x ^^^ 92));have q2:=(HB2.out.far (p:=⟨wc.heap.size,i,none⟩) (by simp) (bv (x ^^^ 54))).set_ i (bv (x ^^^ 92));rw[map_set,S1.out] at q1;rw[map_set,S2.out] at q2;exact⟨i+1,by omega,by go_num,q1,q2,(HBL2.out.setCell (by simp) _).setCell (by simp) _⟩
    case measure=>simp[intOf];omega
   ·
    obtain rfl:i=64:=by omega
    rw[HXE1.out] at b1;rw[HXE2.out] at b2;have HW:Hid (Below w.heap.size w wr):=qH (HBL.out.trans (bl.mono HBL.out.size));have hTW:∀ W,Below wr.heap.size wr W→Tabs W:=fun W hW=>(HT.out.below HW.out HT.out.two).below hW (by have:=HT.out.two;have:=HW.out.size;omega)
    obtain⟨I1,hI1⟩:∃ I,I=toBytes (xorL K 54):=⟨_,rfl⟩;obtain⟨I2,hI2⟩:∃ I,I=toBytes (xorL K 92):=⟨_,rfl⟩;have hz1:I1.size≤64:=by rw[hI1,toBytes_size];simp[xorL,HKL.out]
    have hz2:I2.size≤64:=by rw[hI2,toBytes_size];simp[xorL,HKL.out]
    have HCI:Hid (∀ W,Below wr.heap.size wr W→(convert 124 9 (.slice (some ⟨wc.heap.size,0,none⟩) 64 64)).run Tryz.prog W = .ok (.string I1) W):=by
     refine qH fun W hW=>?_
     rw[hI1];exact blk_conv (b1.below hW b1.lt) (by simp[xorL,HKL.out]) (xorL_lt K 54 (by omega))
    have HCO:Hid (∀ W,Below wr.heap.size wr W→(convert 124 9 (.slice (some ⟨wc.heap.size+1,0,none⟩) 64 64)).run Tryz.prog W = .ok (.string I2) W):=by
     refine qH fun W hW=>?_
     rw[hI2];exact blk_conv (b2.below hW b2.lt) (by simp[xorL,HKL.out]) (xorL_lt K 92 (by omega))
    obtain⟨D1,hD1⟩:∃ D,D=toBytes (sumF (I1++b)):=⟨_,rfl⟩;have hz3:D1.size≤32:=by rw[hD1,toBytes_size,sumF_len];omega
    obtain⟨M,hM⟩:∃ M,M=toBytes (macF key b):=⟨_,rfl⟩;have C1:Hid (∀ W,Below wr.heap.size wr W→Calls Tryz.prog 243 #[.string (I1++b)] W fun e w'=>e = .returned (.string D1)∧Below W.heap.size W w'):=by
     refine qH fun W hW=>?_
     rw[hD1];exact sum_any _ (by rw[ByteArray.size_append];omega) W (hTW W hW)
    have C2:Hid (∀ W,Below wr.heap.size wr W→Calls Tryz.prog 243 #[.string (I2++D1)] W fun e w'=>e = .returned (.string M)∧Below W.heap.size W w'):=by
     refine qH fun W hW=>?_
     have e:M=toBytes (sumF (I2++D1)):=by rw[hM,HM.out,←hI1,←hI2,←hD1]
     rw[e];exact sum_any _ (by rw[ByteArray.size_append];omega) W (hTW W hW)
    have HMM:=qH hM;have ci:=HCI.out wr (Below.refl _ _);have co:=HCO.out wr (Below.refl _ _);have ci':=HCI.out wr.drew (Below.refl _ _).drew;have co':=HCO.out wr.drew (Below.refl _ _).drew;have hz4:I1.size+b.size≤100000:=by omega
    have hz5:I2.size+D1.size≤100000:=by omega
    clear hI1 hI2 hD1 hM b1 b2 bl hTW;rw[show ((64:Nat):Int)=64 from rfl];go_wp2_with fail;go_region_with (first
     | (go_at_call_of 243 (Value.string (I1++b));refine(C1.out _ (Below.refl _ _).drew).mono ?_;rintro e w3 ⟨rfl,b3⟩;have co3:=HCO.out w3 ((Below.refl _ wr).drew.trans b3))
     | (go_at_call_of 243 (Value.string (I2++D1));refine(C2.out _ ((Below.refl _ wr).drew.trans b3)).mono ?_;rintro e w4 ⟨rfl,b4⟩))
    all_goals
     go_wp2_with fail;go_ret;have h3:Below wr.heap.size wr w3:=(Below.refl _ wr).drew.trans b3;exact⟨by rw[HMM.out];rfl,HW.out.trans ((h3.trans (b4.mono h3.size)).mono HW.out.size)⟩
end Go.Proofs.YtoaimoemaoinhaaGreatDoor.Sk
namespace Go.Proofs.YtoaimoemaoinhaaGreatDoor.Sk
open Go.RowKit Go.Rt Go.Rw
attribute [local go_sem ↓] Go.wp_at_zero Go.wp_at_succ
end Go.Proofs.YtoaimoemaoinhaaGreatDoor.Sk
namespace Go.Proofs.YtoaimoemaoinhaaGreatDoor.Sk
def genB (n:Nat):Bool:=decide (1≤n)&&decide (n≤2147483647)
def validF (p:Pr):Bool:=nameF p.name&&genB p.gen
def macS (cookie b:ByteArray):ByteArray:=toBytes (macF cookie b)
theorem macS_size (c b:ByteArray):(macS c b).size=32:=by unfold macS macF;rw[toBytes_size,sumF_len]
def proofF (letter:ByteArray) (own other:Pr) (cookie:ByteArray) (theirs ours:Nat):ByteArray:=
 macS cookie (letter++encF own++encF other++numF theirs 8++numF ours 8)
def letD : ByteArray:=⟨#[68]⟩
def letL : ByteArray:=⟨#[76]⟩
def offerC : ByteArray:=⟨#[2,1]⟩
def busyC : ByteArray:=⟨#[2,2]⟩
def staleC : ByteArray:=⟨#[2,3]⟩
def replyC : ByteArray:=⟨#[3]⟩
def ackC : ByteArray:=⟨#[4]⟩
def statusC : ByteArray:=⟨#[2]⟩
def readPF (b:ByteArray):Option (Pr×ByteArray):=
 if b.size=0∨b.size<5+atB b 0 then none
 else
  let n:=atB b 0
  let p:Pr:=⟨b.extract 1 (1+n),valF (b.extract (1+n) (5+n)) 4⟩
  if validF p then some (p,b.extract (5+n) b.size) else none
def readHF (b:ByteArray):Option (Pr×ByteArray):=
 if b.size<2∨seqB (b.extract 0 2) helloC=false then none
 else match readPF (b.extract 2 b.size) with
  | none=>none
  | some (p,r)=>if r.size=0∨r.size≠1+atB r 0∨nameF (r.extract 1 r.size)=false then none else some (p,r.extract 1 r.size)
abbrev Res := Sd×ByteArray×Nat
def failS (s:Sd) (e:Nat):Res:=({ s with state:=4 },⟨#[]⟩,e)
def greetF (s:Sd) (b:ByteArray):Res:=
 match readHF b with
 | none=>failS s 6
 | some (p,want)=>if seqB want s.self.name=false∨seqB p.name s.self.name=true then failS s 351 else ({ s with other:=p,state:=2 },⟨#[]⟩,0)
def offerF (s:Sd) (b:ByteArray):Res:=
 if seqB b busyC=true∨seqB b staleC=true then failS s 351
 else if b.size<2∨seqB (b.extract 0 2) offerC=false then failS s 6
 else match readPF (b.extract 2 b.size) with
  | none=>failS s 6
  | some (p,r)=>
   if r.size≠8 then failS s 6
   else if seqB p.name s.want=false then failS s 351
   else ({ s with other:=p,their:=valF r 8,sent:=true },replyC++numF s.chal 8++proofF letD s.self p s.cookie (valF r 8) s.chal,0)
def replyF (s:Sd) (b:ByteArray):Res:=
 if b.size≠41∨atB b 0≠3 then failS s 6
 else
  let t:=valF (b.extract 1 9) 8
  if seqB (b.extract 9 41) (proofF letD s.other s.self s.cookie s.chal t)=false then failS { s with their:=t } 350
  else ({ s with their:=t,state:=3 },ackC++proofF letL s.self s.other s.cookie t s.chal,0)
def ackF (s:Sd) (b:ByteArray):Res:=
 if b.size≠33∨atB b 0≠4 then failS s 6
 else if seqB (b.extract 1 33) (proofF letL s.other s.self s.cookie s.chal s.their)=false then failS s 350
 else ({ s with state:=3 },⟨#[]⟩,0)
def moveF (s:Sd) (b:ByteArray):Res:=
 if s.dials then (if s.sent then ackF s b else offerF s b) else (if s.sent then replyF s b else greetF s b)
def takeF (s:Sd) (b:ByteArray):Res:=if s.state≠1 then (s,⟨#[]⟩,2) else moveF s b
def answerF (s:Sd) (how:Int):Res:=
 if s.state≠2∨how<1∨3<how then (s,⟨#[]⟩,2)
 else if how≠1 then ({ s with state:=4 },statusC++numF how.toNat 1,0)
 else ({ s with state:=1,sent:=true },offerC++encF s.self++numF s.chal 8,0)
def listenS (self:Pr) (cookie:ByteArray) (chal:Nat):Sd:=⟨self,⟨⟨#[]⟩,0⟩,⟨#[]⟩,cookie,chal,0,false,false,1⟩
end Go.Proofs.YtoaimoemaoinhaaGreatDoor.Sk
namespace Go.Proofs.YtoaimoemaoinhaaGreatDoor.Sk
open Go.RowKit Go.Rt
end Go.Proofs.YtoaimoemaoinhaaGreatDoor.Sk
namespace Go.Proofs.YtoaimoemaoinhaaGreatDoor.Sk
open Go.RowKit Go.Rt
theorem genB_I (n:Nat):genB n=genI n:=by
 unfold genB genI;rw[Bool.eq_iff_iff];simp only[Bool.and_eq_true,decide_eq_true_eq];omega
end Go.Proofs.YtoaimoemaoinhaaGreatDoor.Sk
namespace Go.Proofs.YtoaimoemaoinhaaGreatDoor.Sk
open Go.RowKit Go.Rt
end Go.Proofs.YtoaimoemaoinhaaGreatDoor.Sk
namespace Go.Proofs.YtoaimoemaoinhaaGreatDoor.Sk
open Go.RowKit Go.Rt
end Go.Proofs.YtoaimoemaoinhaaGreatDoor.Sk
namespace Go.Proofs.YtoaimoemaoinhaaGreatDoor.Sk
open Go.RowKit Go.Rt
theorem ext_ext (b:ByteArray) (i j k l:Nat) (h:i+l≤j):(b.extract i j).extract k l=b.extract (i+k) (i+l):=by
 apply ByteArray.ext;simp only[ByteArray.data_extract,Array.extract_extract];rw[Nat.min_eq_left (by omega)]
theorem ext_size (b:ByteArray) (i j:Nat) (h:j≤b.size):(b.extract i j).size=j-i:=by rw[ByteArray.size_extract,Nat.min_eq_left h]
theorem cut_any' (b:ByteArray) (h0:0<b.size) (h1:1+atB b 0≤b.size) (hz:b.size≤1000000) (w:World) :
  Calls Tryz.prog 202 #[.string b] w fun e w'=>e = .returned (.tuple #[.string (b.extract 1 (1+atB b 0)),.string (b.extract (1+atB b 0) b.size),.bool true])∧Below w.heap.size w w':=by
 rw[atB_get b 0 h0] at h1 ⊢;refine(cut_some b h0 h1 hz w).mono fun e w' ⟨he,n,hw⟩=>⟨he,?_⟩
 subst hw;exact below_drewN (Below.refl _ _) n
theorem readPF_none (b:ByteArray) (h:b.size=0∨b.size<5+atB b 0):readPF b=none:=by unfold readPF;rw[if_pos h]
theorem readPF_bad (b:ByteArray) (h:¬(b.size=0∨b.size<5+atB b 0)) (hv:validF ⟨b.extract 1 (1+atB b 0),valF (b.extract (1+atB b 0) (5+atB b 0)) 4⟩=false):readPF b=none:=by
 unfold readPF;rw[if_neg h];simp only[hv,Bool.false_eq_true,if_false]
theorem readPF_good (b:ByteArray) (h:¬(b.size=0∨b.size<5+atB b 0)) (hv:validF ⟨b.extract 1 (1+atB b 0),valF (b.extract (1+atB b 0) (5+atB b 0)) 4⟩=true) :
  readPF b=some (⟨b.extract 1 (1+atB b 0),valF (b.extract (1+atB b 0) (5+atB b 0)) 4⟩,b.extract (5+atB b 0) b.size):=by
 unfold readPF;rw[if_neg h];simp only[hv,if_true]
def ReadP (b:ByteArray) (w:World) (e:Ending) (w':World):Prop:=
 (∃ (nm:ByteArray) (g:Nat) (r:ByteArray) (ok:Bool),e = .returned (.tuple #[.agg #[.string nm,.int .i64 g],.string r,.bool ok])∧(readPF b=if ok then some (⟨nm,g⟩,r) else none))∧Below w.heap.size w w'
set_option maxHeartbeats 1000000 in
theorem cutP_any (b:ByteArray) (hz:b.size≤1000000) (w:World):Calls Tryz.prog 201 #[.string b] w (ReadP b w):=by
 have A0:Hid (∀ W' o,Below (w.alloc o).heap.size (w.alloc o) W'→Below w.heap.size w W'):=qH (fun W' o h=>((Below.refl w.heap.size w).alloc (Nat.le_refl _) o).trans (h.mono (by simp)))
 by_cases h0:b.size=0∨b.size<1+atB b 0
 ·
  have C:Hid (∀ W,Calls Tryz.prog 202 #[.string b] W fun e w'=>e = .returned (.tuple #[.string ByteArray.empty,.string ByteArray.empty,.bool false])∧W=w'):=by
   refine qH fun W=>?_
   rcases h0 with h0|h0
   ·
    exact cut_none b h0 W
   ·
    have hb:0<b.size∨b.size=0:=by omega
    rcases hb with hb|hb
    ·
     exact cut_short b hb (by rw[←atB_get b 0 hb];exact h0) W
    ·
     exact cut_none b hb W
  have HR:=qH (readPF_none b (by omega));clear h0;go_enter Tryz.func201,Tryz.ntmps201;go_wp2_with (go_at_call 202;refine(C.out _).mono ?_;rintro e w1 ⟨rfl,rfl⟩);exact bodyPost_ret (v:=.tuple #[.agg #[.string ⟨#[]⟩,.int .i64 0],.string ⟨#[]⟩,.bool false]) (by simp[results,Tryz.results201,go_sem]) rfl ⟨⟨⟨#[]⟩,0,⟨#[]⟩,false,rfl,HR.out⟩,(Below.refl _ _).alloc (Nat.le_refl _) _⟩
 ·
  have hb:0<b.size:=by omega
  have C:=qH (fun W=>cut_any' b hb (by omega) hz W);have h4:(b.extract (1+atB b 0) b.size).size=b.size-(1+atB b 0):=ext_size _ _ _ (Nat.le_refl _);have hrl:1+atB b 0≤b.size:=by omega
  have HN:=qH (readPF_none b);have HB:=qH (readPF_bad b);have HG:=qH (readPF_good b);have e1:b.extract (1+atB b 0) (5+atB b 0)=(b.extract (1+atB b 0) b.size).extract 0 4:=by
   by_cases h5:5+atB b 0≤b.size
   ·
    rw[ext_ext _ _ _ _ _ (by omega)];congr 1;omega
   ·
    apply ByteArray.ext;simp only[ByteArray.data_extract,Array.extract_extract];apply Array.ext';simp[Array.toList_extract,List.extract];omega
  have e2:b.extract (5+atB b 0) b.size=(b.extract (1+atB b 0) b.size).extract 4 (b.extract (1+atB b 0) b.size).size:=by
   rw[h4,ext_ext _ _ _ _ _ (by omega)];congr 1<;>omega
  rw[e1,e2] at HG;rw[e1] at HB;obtain⟨R,hR⟩:∃ R,R=b.extract (1+atB b 0) b.size:=⟨_,rfl⟩;obtain⟨nm,hnm⟩:∃ R,R=b.extract 1 (1+atB b 0):=⟨_,rfl⟩;rw[←hR] at h4 C HG HB;rw[←hnm] at C HG HB;clear e1 e2 hR hnm h0
  by_cases h5:R.size<4
  ·
   have HR:=qH (HN.out (by omega));have h5':(R.size:Int)<4:=by omega
   clear HG HB h4 hrl h5;go_enter Tryz.func201,Tryz.ntmps201;go_wp2_with (go_at_call 202;refine(C.out _).mono ?_;rintro e w1 ⟨rfl,b1⟩;obtain⟨hc1,hf1⟩:=bcell b1;have z1:=b1.size;have B1:=qH (A0.out _ _ b1);clear b1);exact bodyPost_ret (v:=.tuple #[.agg #[.string ⟨#[]⟩,.int .i64 0],.string ⟨#[]⟩,.bool false]) (by simp[results,Tryz.results201,go_sem,hc1]) rfl ⟨⟨⟨#[]⟩,0,⟨#[]⟩,false,rfl,HR.out⟩,(B1.out.setCell (Nat.le_refl _) _).setCell (Nat.le_refl _) _⟩
  ·
   have hv4:(R.extract 0 4).size=4:=by rw[ext_size _ _ _ (by omega)]
   have V:=fun W=>value_any (R.extract 0 4) (by omega) W
   rw[hv4] at V;have hgl:=valF_lt (R.extract 0 4) 4;obtain⟨g,hg⟩:∃ g,g=valF (R.extract 0 4) 4:=⟨_,rfl⟩;rw[←hg] at V HG HB hgl;have hgl':g<4294967296:=hgl;have hgw:IntKind.i64.wrap (g:Int)=(g:Int):=by rw[IntKind.wrap_i64]<;>omega
   have HV:=qH V;have VA:=qH (fun W=>validV_any nm (g:Int) W);have HF:Hid (readPF b=if nameF nm&&genI g then some (⟨nm,g⟩,R.extract 4 R.size) else none):=by
    refine qH ?_;have hc:¬(b.size=0∨b.size<5+atB b 0):=by omega
    cases hh:(nameF nm&&genI g) with
    | false=>rw[HB.out hc (by unfold validF;rw[genB_I];exact hh)];rfl
    | true=>rw[HG.out hc (by unfold validF;rw[genB_I];exact hh)];rfl
   obtain⟨ok,hok⟩:∃ ok,ok=(nameF nm&&genI g):=⟨_,rfl⟩;rw[←hok] at VA HF;have h5':¬(R.size:Int)<4:=by omega
   have h6:(4:Int)≤R.size:=by omega
   clear hg V HG HB HN hok hgl hv4 h4 hrl h5 hgl';go_enter Tryz.func201,Tryz.ntmps201;go_wp2_with fail;refine(C.out _).mono ?_;rintro e w1 ⟨rfl,b1⟩;obtain⟨hc1,hf1⟩:=bcell b1;have k0:w1.cell? ⟨w.heap.size,0,none⟩=some (.string ⟨#[]⟩):=by rw[hc1 _ _ (by simp)];simp
   have k1:w1.cell? ⟨w.heap.size,1,none⟩=some (.int .i64 0):=by rw[hc1 _ _ (by simp)];simp
   have k2:w1.frozen? ⟨w.heap.size,0,none⟩=false:=by rw[hf1 _ _ (by simp)];simp
   have k3:w1.frozen? ⟨w.heap.size,1,none⟩=false:=by rw[hf1 _ _ (by simp)];simp
   have z1:w.heap.size<w1.heap.size:=by have:=b1.size;simp at this;omega
   have z1p:w.heap.size<w1.heap.size+1:=by omega
   have ne1:¬w.heap.size=w1.heap.size:=by omega
   have ne2:¬w1.heap.size=w.heap.size:=by omega
   have B1:=qH (A0.out _ _ b1);clear b1 hc1 hf1;go_wp2_with fail;refine(HV.out _).mono ?_;rintro e w2 ⟨rfl,rfl⟩;go_wp2_with fail;go_region_held3 (fun w'=>w'.cell? ⟨w1.heap.size,0,none⟩=some (.string nm)∧w'.cell? ⟨w1.heap.size,1,none⟩=some (.int .i64 (g:Int))∧w1.heap.size<w'.heap.size) (((try dsimp only);refine⟨?_,?_,?_⟩<;>first|(go_keep;done)|omega|(simp;omega)|(simp[*,World.frozen?_alloc_past];done)))
    ((go_at_call 66;refine(VA.out _).mono ?_;rintro e w3 ⟨rfl,b3⟩;obtain⟨hc3,hf3⟩:=bcell b3;have z3:=b3.size))
   all_goals
    have q0:w3.cell? ⟨w.heap.size,0,none⟩=some (.string ⟨#[]⟩):=(hc3 _ _ (by simp;omega)).trans ((World.cell?_alloc_past _ _ _ z1).trans k0);have q1:w3.cell? ⟨w.heap.size,1,none⟩=some (.int .i64 0):=(hc3 _ _ (by simp;omega)).trans ((World.cell?_alloc_past _ _ _ z1).trans k1);go_wp2;refine bodyPost_ret (v:=.tuple #[.agg #[.string nm,.int .i64 g],.string (R.extract 4 R.size),.bool ok]) (by simp[results,Tryz.results201,go_sem,q0,q1]) rfl ⟨⟨nm,g,R.extract 4 R.size,ok,rfl,HF.out⟩,?_⟩
    exact(((B1.out.alloc (by omega) _).drew.trans (b3.mono (by simp;omega))).setCell (Nat.le_refl _) _).setCell (Nat.le_refl _) _
end Go.Proofs.YtoaimoemaoinhaaGreatDoor.Sk
