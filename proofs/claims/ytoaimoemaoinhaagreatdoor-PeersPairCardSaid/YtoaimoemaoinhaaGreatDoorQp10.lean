/- PeersX: a part of the proof. No condition beyond the premises of each theorem. -/
import Derived.Test.YtoaimoemaoinhaaGreatDoorQp09
import Derived.Test.YtoaimoemaoinhaaGreatDoorQp08
import Derived.Shelf.Abstract
import Derived.Lib.AtoiErrMem
import Derived.Shelf.RegionOpen
import Derived.OwnWalkIn
import Derived.TacticsInMore
import Derived.LoopNIn
import Derived.LoopIn
import Derived.Test.YtoaimoemaoinhaaGreatDoorQp00
set_option maxRecDepth 100000
namespace Go.Proofs.YtoaimoemaoinhaaGreatDoor.Sk
open Go.RowKit Go.Rt
def zerosN (n:Nat):Nat:=(119-n % 64) % 64
def byteAt (m k:Nat):Nat:=m / 2 ^ (56-8*k) % 256
def be8N (m:Nat):List Nat:=(List.range 8).map (byteAt m)
def padL (n:Nat):List Nat:=128::(List.replicate (zerosN n) 0++be8N (8*n))
def allL (b:ByteArray):List Nat:=bytesN b++padL b.size
def blkL (all:List Nat) (k:Nat):List Nat:=(all.drop (64*k)).take 64
def manyN (b:ByteArray):Nat:=b.size / 64+(b.size % 64+9+zerosN b.size) / 64
def blocksL (b:ByteArray):List (List Nat):=(List.range (manyN b)).map (blkL (allL b))
theorem zeros_lt (n:Nat):zerosN n<64:=Nat.mod_lt _ (by omega)
theorem zeros_eq (n:Nat):(n % 64+1+zerosN n) % 64=56:=by unfold zerosN;omega
theorem zeros_first (n j:Nat) (hj:j<zerosN n):(n % 64+1+j) % 64≠56:=by unfold zerosN at hj;omega
theorem be8N_len (m:Nat):(be8N m).length=8:=by simp[be8N]
theorem be8N_take (m k:Nat) (hk:k<8):(be8N m).take (k+1)=(be8N m).take k ++ [byteAt m k]:=by
 rw[List.take_succ_eq_append_getElem (by rw[be8N_len];exact hk)];simp[be8N]
theorem all_len (b:ByteArray):(allL b).length=64*manyN b:=by
 unfold allL padL manyN;simp only[List.length_append,List.length_cons,List.length_replicate,be8N_len,bytesN_len]
 have:=zeros_eq b.size
 omega
theorem blocks_len (b:ByteArray):(blocksL b).length=manyN b:=by simp[blocksL]
theorem blocks_get (b:ByteArray) (k:Nat) (h:k<(blocksL b).length):(blocksL b)[k]=blkL (allL b) k:=by simp[blocksL]
theorem blk_len (b:ByteArray) (k:Nat) (h:k<manyN b):(blkL (allL b) k).length=64:=by
 unfold blkL;rw[List.length_take,List.length_drop,all_len];omega
theorem many_ge (b:ByteArray):b.size / 64≤manyN b:=by unfold manyN;omega
theorem bytesN_lt (b:ByteArray):∀ x∈bytesN b,x<256:=by
 intro x hx;obtain⟨c,_,rfl⟩:=List.mem_map.1 hx;exact c.toNat_lt
theorem all_lt (b:ByteArray):∀ x∈allL b,x<256:=by
 intro x hx;unfold allL padL at hx;simp only[List.mem_append,List.mem_cons] at hx;rcases hx with h|rfl|h|h
 ·
  exact bytesN_lt b x h
 ·
  omega
 ·
  have:=List.eq_of_mem_replicate h;omega
 ·
  obtain⟨k,_,rfl⟩:=List.mem_map.1 h;exact Nat.mod_lt _ (by omega)
theorem blk_lt (b:ByteArray) (k:Nat):∀ x∈blkL (allL b) k,x<256:=fun x hx=>all_lt b x (List.mem_of_mem_drop (List.mem_of_mem_take hx))
theorem blk_head (b:ByteArray) (k:Nat) (h:k<b.size / 64):blkL (allL b) k=((bytesN b).drop (64*k)).take 64:=by
 unfold blkL allL;rw[List.drop_append_of_le_length (by rw[bytesN_len];omega),List.take_append_of_le_length (by rw[List.length_drop,bytesN_len];omega)]
def tailL (b:ByteArray):List Nat:=(bytesN b).drop (64*(b.size / 64))++padL b.size
theorem tail_eq (b:ByteArray):tailL b=(allL b).drop (64*(b.size / 64)):=by
 unfold tailL allL;rw[List.drop_append_of_le_length (by rw[bytesN_len];omega)]
theorem tail_len (b:ByteArray):(tailL b).length=64*(manyN b-b.size / 64):=by
 rw[tail_eq,List.length_drop,all_len]
 have:=many_ge b
 omega
theorem blk_tail (b:ByteArray) (k:Nat):blkL (allL b) (b.size / 64+k)=((tailL b).drop (64*k)).take 64:=by
 unfold blkL;rw[tail_eq,List.drop_drop]
 congr 2
 omega
theorem bytesN_extract (b:ByteArray) (i j:Nat):bytesN (b.extract i j)=((bytesN b).drop i).take (j-i):=by
 unfold bytesN;rw[ByteArray.data_extract,Array.toList_extract];simp[List.extract,List.map_drop,List.map_take]
end Go.Proofs.YtoaimoemaoinhaaGreatDoor.Sk
namespace Go.Proofs.YtoaimoemaoinhaaGreatDoor.Sk
open Go.RowKit
structure S8 where
 a:Nat
 b:Nat
 c:Nat
 d:Nat
 e:Nat
 f:Nat
 g:Nat
 h:Nat
def S8.l (s:S8):List Nat:=[s.a,s.b,s.c,s.d,s.e,s.f,s.g,s.h]
def S8.ok (s:S8):Prop:=s.a<4294967296∧s.b<4294967296∧s.c<4294967296∧s.d<4294967296∧s.e<4294967296∧s.f<4294967296∧s.g<4294967296∧s.h<4294967296
def bigE (e:Nat):Nat:=rotr 6 e ^^^ rotr 11 e ^^^ rotr 25 e
def bigA (a:Nat):Nat:=rotr 2 a ^^^ rotr 13 a ^^^ rotr 22 a
def chF (e f g:Nat):Nat:=(e &&& f) ^^^ ((4294967295-e) &&& g)
def majF (a b c:Nat):Nat:=((a &&& b) ^^^ (a &&& c)) ^^^ (b &&& c)
def tF (s:S8) (k w:Nat):Nat:=(s.h+bigE s.e+chF s.e s.f s.g+k+w) % 4294967296
def uF (s:S8):Nat:=(bigA s.a+majF s.a s.b s.c) % 4294967296
def stepF (s:S8) (k w:Nat):S8:=⟨(tF s k w+uF s) % 4294967296,s.a,s.b,s.c,(s.d+tF s k w) % 4294967296,s.e,s.f,s.g⟩
def roundsF (K W:List Nat) (s:S8):Nat→S8
 | 0=>s
 | i+1=>stepF (roundsF K W s i) (K.getD i 0) (W.getD i 0)
def addF (s t:S8):S8:=⟨(s.a+t.a) % 4294967296,(s.b+t.b) % 4294967296,(s.c+t.c) % 4294967296,(s.d+t.d) % 4294967296,(s.e+t.e) % 4294967296,(s.f+t.f) % 4294967296,(s.g+t.g) % 4294967296,(s.h+t.h) % 4294967296⟩
def KL : List Nat:=[
 0x428a2f98,0x71374491,0xb5c0fbcf,0xe9b5dba5,0x3956c25b,0x59f111f1,0x923f82a4,0xab1c5ed5,
 0xd807aa98,0x12835b01,0x243185be,0x550c7dc3,0x72be5d74,0x80deb1fe,0x9bdc06a7,0xc19bf174,
 0xe49b69c1,0xefbe4786,0x0fc19dc6,0x240ca1cc,0x2de92c6f,0x4a7484aa,0x5cb0a9dc,0x76f988da,
 0x983e5152,0xa831c66d,0xb00327c8,0xbf597fc7,0xc6e00bf3,0xd5a79147,0x06ca6351,0x14292967,
 0x27b70a85,0x2e1b2138,0x4d2c6dfc,0x53380d13,0x650a7354,0x766a0abb,0x81c2c92e,0x92722c85,
 0xa2bfe8a1,0xa81a664b,0xc24b8b70,0xc76c51a3,0xd192e819,0xd6990624,0xf40e3585,0x106aa070,
 0x19a4c116,0x1e376c08,0x2748774c,0x34b0bcb5,0x391c0cb3,0x4ed8aa4a,0x5b9cca4f,0x682e6ff3,
 0x748f82ee,0x78a5636f,0x84c87814,0x8cc70208,0x90befffa,0xa4506ceb,0xbef9a3f7,0xc67178f2]
def startF : S8:=⟨0x6a09e667,0xbb67ae85,0x3c6ef372,0xa54ff53a,0x510e527f,0x9b05688c,0x1f83d9ab,0x5be0cd19⟩
def compF (s:S8) (p:List Nat):S8:=addF s (roundsF KL (schedL p 64) s 64)
theorem xor_lt {a b:Nat} (h:a<4294967296) (k:b<4294967296):a ^^^ b<4294967296:=Nat.xor_lt_two_pow (n:=32) h k
theorem and_lt {a b:Nat} (h:a<4294967296):a &&& b<4294967296:=Nat.lt_of_le_of_lt Nat.and_le_left h
theorem step_ok (s:S8) (k w:Nat) (h:s.ok):(stepF s k w).ok:=by
 obtain⟨h1,h2,h3,h4,h5,h6,h7,h8⟩:=h;exact⟨Nat.mod_lt _ (by omega),h1,h2,h3,Nat.mod_lt _ (by omega),h5,h6,h7⟩
theorem rounds_ok (K W:List Nat) (s:S8) (h:s.ok) (i:Nat):(roundsF K W s i).ok:=by
 induction i with
 | zero=>exact h
 | succ i ih=>exact step_ok _ _ _ ih
theorem add_ok (s t:S8):(addF s t).ok:=by
 refine⟨?_,?_,?_,?_,?_,?_,?_,?_⟩<;>exact Nat.mod_lt _ (by omega)
theorem comp_ok (s:S8) (p:List Nat):(compF s p).ok:=add_ok _ _
theorem KL_lt (i:Nat):KL.getD i 0<4294967296:=by
 have h:∀ x∈KL,x<4294967296:=by decide +kernel
 rw[List.getD_eq_getElem?_getD];cases hj:KL[i]? with
 | none=>simp
 | some v=>exact h v (List.mem_of_getElem? hj)
theorem e_bits (e:Nat) (h:e<4294967296):bits .xor .u32 (bits .xor .u32 ↑(rotr 6 e) ↑(rotr 11 e)) ↑(rotr 25 e)=(bigE e:Int):=by
 rw[u32_xor_nat _ _ (rotr_lt 6 e h) (rotr_lt 11 e h),u32_xor_nat _ _ (xor_lt (rotr_lt 6 e h) (rotr_lt 11 e h)) (rotr_lt 25 e h)];rfl
theorem a_bits (e:Nat) (h:e<4294967296):bits .xor .u32 (bits .xor .u32 ↑(rotr 2 e) ↑(rotr 13 e)) ↑(rotr 22 e)=(bigA e:Int):=by
 rw[u32_xor_nat _ _ (rotr_lt 2 e h) (rotr_lt 13 e h),u32_xor_nat _ _ (xor_lt (rotr_lt 2 e h) (rotr_lt 13 e h)) (rotr_lt 22 e h)];rfl
theorem maj_bits (a b c:Nat) (h:a<4294967296) (k:b<4294967296) (hc:c<4294967296):bits .xor .u32 (bits .xor .u32 (bits .and .u32 ↑a ↑b) (bits .and .u32 ↑a ↑c)) (bits .and .u32 ↑b ↑c)=(majF a b c:Int):=by
 rw[u32_and_nat _ _ h k,u32_and_nat _ _ h hc,u32_and_nat _ _ k hc,u32_xor_nat _ _ (and_lt h) (and_lt h),u32_xor_nat _ _ (xor_lt (and_lt h) (and_lt h)) (and_lt k)];rfl
end Go.Proofs.YtoaimoemaoinhaaGreatDoor.Sk
namespace Go.Rw
open Go Go.RowKit Go.Rt
theorem wpListIn_load_run {F:Fence} {n:Nat} {P:Program} {w:World} {ops:Array Oper} {rest:List Oper} {o:Oper} {a:Act} {Q:Exit→Act→World→Prop} {v x:Value}
  (hg:o.guard=none) (ty:TypeId) (p:Operand) (hop:o.op=Op.load ty p) (hs:a.eval p=v) (hrun:(Instr.loadAt ty v).run P w = .ok x w) (hK:wpListIn F n P ops Q rest (a.put o.dst x) w) :
  wpListIn F n P ops Q (o::rest) a w:=by
 refine wpListIn_plain hg fun K hK'=>?_
 unfold Oper.wpIn;refine⟨?_,?_⟩
 ·
  simp[Oper.about,hop]
 ·
  rw[Oper.semAt_plain F _ _ (by rw[hop];intro c hc';cases hc')];simp[execOp,hop,hs,hrun,Result.andThen];exact hK' _ _ hK
theorem wpListIn_conv_run {F:Fence} {n:Nat} {P:Program} {w w':World} {ops:Array Oper} {rest:List Oper} {o:Oper} {a:Act} {Q:Exit→Act→World→Prop} {v x:Value}
  (hg:o.guard=none) (s d:TypeId) (p:Operand) (hop:o.op=Op.convert s d p) (hs:a.eval p=v) (hrun:(convert s d v).run P w = .ok x w') (hK:wpListIn F n P ops Q rest (a.put o.dst x) w') :
  wpListIn F n P ops Q (o::rest) a w:=by
 refine wpListIn_plain hg fun K hK'=>?_
 unfold Oper.wpIn;refine⟨?_,?_⟩
 ·
  simp[Oper.about,hop]
 ·
  rw[Oper.semAt_plain F _ _ (by rw[hop];intro c hc';cases hc')];simp[execOp,hop,hs,hrun,Result.andThen];exact hK' _ _ hK
end Go.Rw
namespace Go.Proofs.YtoaimoemaoinhaaGreatDoor.Sk
open Go.RowKit Go.Shelf Go.Rt Go.Rw
attribute [local go_sem] Oper.semAt_some
theorem arr37 (a:Option Addr) (cap:Nat) (W:World):(Instr.arrayAt 303 (.slice a 64 cap)).run Tryz.prog W = .ok (.pointer a) W:=by
 simp[Instr.arrayAt,run_underlying Tryz.underlying303]
set_option maxHeartbeats 1000000 in
theorem blocks1_runs (F:Fence) (n:Nat) (h27:F.fn 264) (hro:F.round=none) (hn:1≤n) (Bb:Nat) (b:ByteArray) (hb:b.size≤100000) :
  SeqRuns F n Tryz.prog 264 #[.pointer (some ⟨Bb,0,none⟩)] (fun x:List Nat=>#[.agg (x.map bv).toArray]) (blocksL b) [Bb] (fun W=>Boxed W Bb 9 (.string b)):=by
 intro l J Jx W bd hT hJ hJx hY h0;refine callsIn_of_wp Tryz.func264 rfl h27 ?_ hro;simp only[Tryz.ntmps264,List.size_toArray,List.length_cons,List.length_nil,Nat.reduceAdd,Nat.reduceSub,Array.replicate_succ,Array.replicate_zero,List.push_toArray,List.append_toArray,List.nil_append,List.cons_append];have cd:=bd.cell;have HY:=qH hY;have HT:=qH hT;have hWb:=bd.lt;obtain⟨R,hR⟩:∃ R,R=b.extract (b.size / 64*64) b.size:=⟨_,rfl⟩
 have hRs:R.size=b.size-b.size / 64*64:=by rw[hR,ByteArray.size_extract];omega
 have t0:=ts_conv W R (by omega);rw[hRs] at t0;obtain⟨g1,cap1,W1,hrun1,ts1,on1,wh1⟩:=Ts.push (P:=Tryz.prog) (t:=124) (ty:=124) und29 info5 (t0.same (Below.heap_alloc _ (.cells #[bv 128] 5) _ t0.lt)) 128 _ (World.alloc_heap_new _ _) (by omega) 1;have hsz0:(Lib.bytesWorld W 5 R).heap.size=W.heap.size+1:=Lib.bytesWorld_size _ _ _;have hz1:W.heap.size≤g1:=by
  rcases wh1 with rfl|q
  ·
   exact Nat.le_refl _
  ·
   simp at q;omega
 have B1:Below W.heap.size W W1:=(Lib.bytesWorld_below W 5 R).trans (((Below.refl _ _).alloc (by omega) _).trans (on1.below (n:=W.heap.size) (by simp) (by simp;omega)));have HRN1:=qH hrun1;have HTS1:=qH ts1;have HB1:=qH B1;have HR:=qH hR;have hwc:(convert 9 124 (.string R)).run Tryz.prog W = .ok (.slice (some ⟨W.heap.size,0,none⟩) (b.size-b.size / 64*64) (grownCap W (b.size-b.size / 64*64) 0 5)) (Lib.bytesWorld W 5 R):=by
  have:=Lib.run_convert_string_bytes (P:=Tryz.prog) W 9 124 5 R und9 und29 und5
  rw[hRs] at this;exact this
 have HWC:=qH hwc;rw[hR] at HRN1 HTS1 HWC;clear hrun1 ts1 B1 on1 wh1 t0 hRs hwc hsz0 hR hY hT
 gi_wp2_with (first
  | (refine wpListIn_conv_run rfl 9 124 _ rfl rfl HWC.out ?_)
  | (gi_at_builtin;refine wpListIn_append_run rfl _ _ 124 124 rfl rfl rfl HRN1.out ?_))
 obtain⟨r,hr⟩:∃ r,r=b.size-b.size / 64*64:=⟨_,rfl⟩;rw[←hr] at HTS1 ⊢;have hr64:r=b.size % 64:=by omega
 have HRR:=qH hr;have hzl:=zeros_lt b.size;have hzf:∀ j,j<zerosN b.size→(r+1+j) % 64≠56:=by rw[hr64];exact zeros_first b.size
 have hze:(r+1+zerosN b.size) % 64=56:=by rw[hr64];exact zeros_eq b.size
 have HZF:=qH hzf;have HZE:=qH hze;have hr63:r≤63:=by omega
 have HR64:=qH hr64;obtain⟨z,hz⟩:∃ z,z=zerosN b.size:=⟨_,rfl⟩;rw[←hz] at hzl HZF HZE;have HZ:=qH hz;clear hr hzf hze hr64 HRN1 HWC hz;obtain⟨X,hX⟩:∃ X,X=bytesN (b.extract (b.size / 64*64) b.size):=⟨_,rfl⟩;rw[←hX] at HTS1;have HX:=qH hX;clear hX
 gi_loopw [3] (fun v wr=>∃ j g cap:Nat,j≤z∧v = .slice (some ⟨g,0,none⟩) (r+1+j) cap∧Ts wr g (r+1+j) cap (X ++ [128]++List.replicate j 0)∧W.heap.size≤g∧Below W.heap.size W wr) (fun v _=>match v with | .slice _ n _=>r+1+z-n|_=>0)
 case atStart=>exact⟨0,g1,cap1,by omega,rfl,by simpa using HTS1.out,hz1,HB1.out⟩
 case round=>
  obtain⟨j,g,cap,hj,rfl,ts,hg,bl⟩:=hrel;clear HTS1 HB1
  by_cases hlt:j<z
  ·
   have hne:(((r+1+j:Nat):Int) % 64 != 56)=true:=by have:=HZF.out j hlt;rw[bne_iff_ne];omega
   obtain⟨g2,cap2,W2,hrun2,ts2,on2,wh2⟩:=Ts.push (P:=Tryz.prog) (t:=124) (ty:=124) und29 info5 (ts.same (Below.heap_alloc _ (.cells #[bv 0] 5) _ ts.lt)) 0 _ (World.alloc_heap_new _ _) (by omega) 1;have hg2:W.heap.size≤g2:=by
    have:=bl.size
    rcases wh2 with rfl|q
    ·
     exact hg
    ·
     simp at q;omega
   have B2:Hid (Below W.heap.size W W2):=qH (bl.trans (((Below.refl _ _).alloc bl.size _).trans (on2.below (n:=W.heap.size) (by simpa using hg) (by have:=bl.size;simp;omega))));have HRN2:=qH hrun2;have HTS2:=qH ts2;clear hrun2 ts2 on2 wh2 ts bl
   gi_wp2_with (gi_at_builtin;refine wpListIn_append_run rfl _ _ 124 124 rfl rfl rfl HRN2.out ?_)
   go_roundw
   case rel=>exact⟨j+1,g2,cap2,by omega,rfl,by have:=HTS2.out;rw[List.append_assoc,Nat.add_assoc] at this;simpa [List.replicate_succ'] using this,hg2,B2.out⟩
   case measure=>simp;omega
  ·
   obtain rfl:j=z:=by omega
   have hne:(((r+1+j:Nat):Int) % 64 != 56)=false:=by have:=HZE.out;simp;omega
   have HTS:=qH ts;have HBL:=qH bl;clear ts bl;have cd2:wr.cell? ⟨Bb,0,none⟩=some (.string b):=(HBL.out.cell (p:=⟨Bb,0,none⟩) hWb).trans cd
   gi_wp2
   have hne2:(((r:Int)+1+(j:Int)) % 64 != 56)=false:=by have:=HZE.out;simp;omega
   rw[hne2];clear hne hne2
   gi_loopw [3,5] (fun v s5 wr=>∃ k g cap:Nat,k≤8∧s5 = .int .i64 (56-8*(k:Int))∧v = .slice (some ⟨g,0,none⟩) (r+1+j+k) cap∧Ts wr g (r+1+j+k) cap (X ++ [128]++List.replicate j 0++(be8N (8*b.size)).take k)∧W.heap.size≤g∧Below W.heap.size W wr) (fun _ s _=>(intOf s+8).toNat)
   case atStart=>exact⟨0,g,cap,by omega,rfl,rfl,by simpa using HTS.out,hg,HBL.out⟩
   case round=>
    obtain⟨k,g',cap',hk,rfl,rfl,ts,hg',bl⟩:=hrel;clear HTS HBL cd2
    by_cases hlt8:k<8
    ·
     have hs0:(0:Int)≤56-8*(k:Int):=by omega
     have hs1:56-8*(k:Int)≤56:=by omega
     have hs2:8*(k:Int)≤56:=by omega
     obtain⟨g2,cap2,W2,hrun2,ts2,on2,wh2⟩:=Ts.push (P:=Tryz.prog) (t:=124) (ty:=124) und29 info5 (ts.same (Below.heap_alloc _ (.cells #[bv (byteAt (8*b.size) k)] 5) _ ts.lt)) (byteAt (8*b.size) k) _ (World.alloc_heap_new _ _) (by omega) 1;have hg2:W.heap.size≤g2:=by
      have:=bl.size
      rcases wh2 with rfl|q
      ·
       exact hg'
      ·
       simp at q;omega
     have B2:Hid (Below W.heap.size W W2):=qH (bl.trans (((Below.refl _ _).alloc bl.size _).trans (on2.below (n:=W.heap.size) (by simpa using hg') (by have:=bl.size;simp;omega))));have ebv:bv (byteAt (8*b.size) k) = .int .u8 ((b.size:Int)*8 / 2 ^ (56-8*k) % 256):=by
      unfold byteAt bv;rw[Int.natCast_emod,Int.natCast_ediv,Int.natCast_mul,Int.natCast_pow,Int.mul_comm];rfl
     rw[ebv] at hrun2;rw[List.append_assoc,←be8N_take _ _ hlt8,Nat.add_assoc] at ts2;have HRN2:=qH hrun2;have HTS2:=qH ts2;clear hrun2 ts2 on2 wh2 ts bl ebv
     gi_wp2_with (gi_at_builtin;refine wpListIn_append_run rfl _ _ 124 124 rfl rfl rfl HRN2.out ?_)
     go_roundw
     case rel=>exact⟨k+1,g2,cap2,by omega,by rw[show (56-8*(k:Int)-8)=56-8*((k+1:Nat):Int) by omega],rfl,HTS2.out,hg2,B2.out⟩
     case measure=>simp[intOf];omega
    ·
     obtain rfl:k=8:=by omega
     have HTT:Hid (Ts wr g' (r+1+j+8) cap' (tailL b)):=by
      refine qH ?_;have e:X ++ [128]++List.replicate j 0++(be8N (8*b.size)).take 8=tailL b:=by
       rw[List.take_of_length_le (by rw[be8N_len];omega),HX.out,bytesN_extract,HZ.out];unfold tailL padL;rw[List.take_of_length_le (by rw[List.length_drop,bytesN_len];omega),Nat.mul_comm (b.size / 64) 64]
       simp
      rw[←e];exact ts
     have HBL:=qH bl;clear ts bl;have htl:Hid (r+1+j+8=64*(manyN b-b.size / 64)):=by
      refine qH ?_
      have:=tail_len b
      rw[HTT.out.1] at this;exact this
     obtain⟨tl,htle⟩:∃ tl,tl=r+1+j+8:=⟨_,rfl⟩;rw[←htle] at HTT htl ⊢;have HTLE:=qH htle;clear htle;have hj0:J 0 [Bb,g'] wr:=by
      refine hJ 0 [Bb] W _ wr h0 (Only.of_below (HBL.out.mono (Nat.le_refl _))) ?_ ?_
      ·
       intro x hx;simp only[List.mem_cons,List.not_mem_nil,or_false] at hx;rcases hx with rfl|rfl
       ·
        exact .inl (by simp)
       ·
        exact .inr hg'
      ·
       intro x hx;simp only[List.mem_cons,List.not_mem_nil,or_false] at hx
       have:=HTT.out.lt
       have:=HBL.out.size
       rcases hx with rfl|rfl<;>omega
     have bd0:Boxed wr Bb 9 (.string (b.extract 0 b.size)):=by rw[ByteArray.extract_zero_size];exact(HBL.out.block Bb hWb).trans bd
     clear cd bd h0;rw[show (56-8*((8:Nat):Int)) = -8 from rfl]
     gi_wp2
     have hmg:=many_ge b;obtain⟨nb,hnb⟩:∃ nb,nb=b.size / 64:=⟨_,rfl⟩;have HNB:=qH hnb
     gi_loopw [37] (fun _ wr=>∃ k,k≤nb∧J k [Bb,g'] wr∧Boxed wr Bb 9 (.string (b.extract (64*k) b.size))∧Ts wr g' tl cap' (tailL b)) (fun _ wr=>match wr.cell? ⟨Bb,0,none⟩ with|some (.string s)=>s.size|_=>0)
     case atStart=>exact⟨0,by omega,hj0,bd0,HTT.out⟩
     case round=>
      obtain⟨k,hk,hj,bd,ts⟩:=hrel;clear HTT HBL hj0 bd0;have cd:=bd.cell;have hbm:Bb≠g':=by omega
      have hgl:=ts.lt;have hbl:=bd.lt;obtain⟨S,hS⟩:∃ S,S=b.extract (64*k) b.size:=⟨_,rfl⟩;have hSs:S.size=b.size-64*k:=by rw[hS,ByteArray.size_extract];omega
      rw[←hS] at bd cd
      by_cases hlt:k<nb
      ·
       have h64:64≤S.size:=by omega
       have h64':(64:Int)≤S.size:=by omega
       have hs2:(S.extract 0 64).size=64:=by rw[ByteArray.size_extract];omega
       have t1:=ts_conv wr (S.extract 0 64) (by omega);have hwc:(convert 9 124 (.string (S.extract 0 64))).run Tryz.prog wr = .ok (.slice (some ⟨wr.heap.size,0,none⟩) 64 (grownCap wr 64 0 5)) (Lib.bytesWorld wr 5 (S.extract 0 64)):=by
        have:=Lib.run_convert_string_bytes (P:=Tryz.prog) wr 9 124 5 (S.extract 0 64) und9 und29 und5
        rw[hs2] at this;exact this
       rw[hs2] at t1;have hbk:((bytesN (S.extract 0 64)).drop 0).take 64=blkL (allL b) k:=by
        rw[blk_head b k (by omega),hS,bytesN_extract,bytesN_extract,List.drop_zero,List.take_of_length_le (by rw[List.length_take];omega),List.drop_zero,List.take_take]
        congr 1
        omega
       have hrg:=t1.range 0 64 (by omega);rw[hbk] at hrg;have hld:=run_loadAt_mid (P:=Tryz.prog) (Lib.bytesWorld wr 5 (S.extract 0 64)) wr.heap.size 0 303 _ _ hrg Tryz.underlying303 rfl (by rw[List.length_map,blk_len b k (by omega)];kernel_rfl);have bw:=Lib.bytesWorld_below wr 5 (S.extract 0 64);have hj1:J k [Bb,g'] (Lib.bytesWorld wr 5 (S.extract 0 64)):=hJ k [Bb,g'] wr _ _ hj (Only.of_below bw) (fun x hx=>.inl hx) (fun x hx=>by
        have:=bw.size
        simp only[List.mem_cons,List.not_mem_nil,or_false] at hx;rcases hx with rfl|rfl<;>omega)
       have hq:=HY.out k (by rw[blocks_len];omega) [Bb,g'] _ hj1;simp only[blocks_get] at hq;have HTS:=qH ts;have HLD:=qH hld;have HWC:=qH hwc;have HBW:=qH bw;have HBD:=qH bd;have HSS:=qH hS;clear hld hwc hs2 hSs hnb ts bw hbk hrg t1 hj hj1 bd hS;have harr:=arr37;obtain⟨fn,tmps,assign,body,hy,hR⟩:=hq
       gi_wp2_with (first
        | (refine wpListIn_conv_run rfl 9 124 _ rfl rfl HWC.out ?_)
        | (refine wpListIn_load_run rfl 303 _ rfl rfl HLD.out ?_))
       clear harr;refine hR.mono ?_;rintro e W3 (⟨rfl,hJ3,hk3⟩|⟨rfl,hJx3⟩)
       ·
        have bd3:Boxed W3 Bb 9 (.string S):=(hk3.same Bb (by simp)).trans ((HBW.out.block Bb hbl).trans HBD.out);have ts3:Ts W3 g' tl cap' (tailL b):=HTS.out.same ((hk3.same g' (by simp)).trans (HBW.out.block g' hgl));have cd3:=bd3.cell;have cf3:=bd3.frozen;have HTS3:=qH ts3;have HBD3:=qH bd3;clear ts3 bd3
        gi_wp2
        go_roundw
        case rel=>
         refine⟨k+1,by omega,hJ (k+1) _ W3 _ _ hJ3 (Only.setCell _ _ _ (by simp)) (fun r hr=>.inl hr) ?_,?_,?_⟩
         ·
          intro x hx;have l1:=HBD3.out.lt;have l2:=HTS3.out.lt;simp only[List.mem_cons,List.not_mem_nil,or_false] at hx;rcases hx with rfl|rfl
          ·
           simpa [World.setCell] using l1
          ·
           simpa [World.setCell] using l2
         ·
          have e:b.extract (64*(k+1)) b.size=S.extract 64 S.size:=by
           rw[HSS.out];apply ByteArray.ext;simp only[ByteArray.data_extract,ByteArray.size_extract,Array.extract_extract]
           congr 1<;>omega
          rw[e];exact HBD3.out.set _
         ·
          exact HTS3.out.same (Below.heap_setCell _ _ _ _ (Ne.symm hbm))
        case measure=>
         have q1:=(HBD3.out.set (.string (S.extract 64 S.size))).cell;simp only[q1,ByteArray.size_extract];simp only[HBD.out.cell];omega
       ·
        gi_wp2
        refine bodyPost_ret (results_none rfl _ _ _) rfl ?_;exact⟨⟨_,rfl⟩,.inr ⟨k+1,_,by rw[blocks_len];have:=HNB.out;omega,hJx3⟩⟩
      ·
       obtain rfl:k=nb:=by omega
       have h64:S.size<64:=by have:=HNB.out;omega
       have h64':¬(64:Int)≤S.size:=by omega
       have HTS:=qH ts;have HJJ:=qH hj;clear ts hj bd hS;clear hnb;have hdec:decide ((64:Int)≤S.size)=false:=by rw[decide_eq_false_iff_not];exact h64'
       clear hSs
       gi_wp2
       clear hdec
       gi_loopw [3] (fun v wr=>∃ m o:Nat,m≤manyN b-b.size / 64∧v = .slice (some ⟨g',o,none⟩) (tl-64*m) (cap'-64*m)∧(m<manyN b-b.size / 64→o=64*m)∧J (k+m) [Bb,g'] wr∧Ts wr g' tl cap' (tailL b)) (fun v _=>match v with | .slice _ n _=>n|_=>0)
       case atStart=>exact⟨0,0,by omega,rfl,fun _=>rfl,HJJ.out,HTS.out⟩
       case round=>
        obtain⟨m,o,hm,rfl,ho,hj,ts⟩:=hrel;clear HTS HJJ;obtain⟨nt,hnt⟩:∃ nt,nt=manyN b-b.size / 64:=⟨_,rfl⟩;have htl2:tl=64*nt:=by rw[hnt];exact htl.out
        rw[←hnt] at hm ho;have hmn:manyN b=k+nt:=by have:=HNB.out;omega
        have hcp:=ts.2.1;have hgl:=ts.lt
        by_cases hlt4:m<nt
        ·
         obtain rfl:=ho hlt4;have hrg:=ts.range (64*m) 64 (by omega);have hbk:((tailL b).drop (64*m)).take 64=blkL (allL b) (k+m):=by rw[HNB.out];exact(blk_tail b m).symm
         rw[hbk] at hrg;have hld:=run_loadAt_mid (P:=Tryz.prog) wr g' (64*m) 303 _ _ hrg Tryz.underlying303 rfl (by rw[List.length_map,blk_len b _ (by omega)];kernel_rfl);have hq:=HY.out (k+m) (by rw[blocks_len];omega) [Bb,g'] _ hj;simp only[blocks_get] at hq;obtain⟨A,hA⟩:∃ A,A=tl-64*m:=⟨_,rfl⟩;obtain⟨C,hC⟩:∃ C,C=cap'-64*m:=⟨_,rfl⟩;rw[←hA,←hC];have hA1:64≤A:=by omega
         have hAC:A≤C:=by omega
         have hA2:(64:Int)≤A:=by omega
         have hA3:(64:Int)≤C:=by omega
         have hA4:0<A:=by omega
         have hA5:(0:Int)<A:=by omega
         have hA6:(A:Int)≤C:=by omega
         have hA7:64≤C:=by omega
         have HTS:=qH ts;have HLD:=qH hld;have HA:=qH hA;have HC:=qH hC;have HNT:=qH hnt;have HTL2:=qH htl2;have HMN:=qH hmn;clear hld hbk hrg hj ts hA hC hnt htl2 hmn ho;have harr:=arr37;obtain⟨fn,tmps,assign,body,hy,hR⟩:=hq
         by_cases hc:C=64
         all_goals
          gi_wp2_with (refine wpListIn_load_run rfl 303 _ rfl rfl HLD.out ?_)
          clear harr;refine hR.mono ?_;rintro e W3 (⟨rfl,hJ3,hk3⟩|⟨rfl,hJx3⟩)
          ·
           have ts3:Ts W3 g' tl cap' (tailL b):=HTS.out.same (hk3.same g' (by simp));have HTS3:=qH ts3;clear ts3
           gi_wp2
           have e1:tl-64*(m+1)=A-64:=by have:=HA.out;omega
           have e2:cap'-64*(m+1)=C-64:=by have:=HC.out;omega
           refine⟨⟨m+1,if C=64 then 64*m else 64*m+64,by have:=HNT.out;omega,by rw[e1,e2];simp[hc],fun h=>?_,by rw[show k+(m+1)=k+m+1 by omega];exact hJ3,HTS3.out⟩,by simp;omega⟩;have q1:=HNT.out;have q2:=HTL2.out;have q3:=HA.out;have q4:=HC.out;split<;>omega
          ·
           gi_wp2
           refine bodyPost_ret (results_none rfl _ _ _) rfl ?_;exact⟨⟨_,rfl⟩,.inr ⟨k+m+1,_,by rw[blocks_len];have:=HMN.out;omega,hJx3⟩⟩
        ·
         obtain rfl:m=nt:=by omega
         have hz0:tl-64*m=0:=by omega
         rw[hz0];have HJJ:Hid (J (blocksL b).length [Bb,g'] wr):=by refine qH ?_;rw[blocks_len,hmn];exact hj
         clear hj ts hnt htl2 hmn ho hz0
         gi_wp2
         go_end0;exact⟨⟨_,rfl⟩,.inl ⟨_,HJJ.out⟩⟩
end Go.Proofs.YtoaimoemaoinhaaGreatDoor.Sk
namespace Go.Proofs.YtoaimoemaoinhaaGreatDoor.Sk
open Go.RowKit Go.Rt
attribute [local go_sem ↓] Go.wp_at_zero Go.wp_at_succ
structure Tabs (w:World):Prop where
  st:∀ i,i<8→w.cell? ⟨0,i,none⟩=some (wv (startF.l.getD i 0))
  kl:∀ i,i<64→w.cell? ⟨1,i,none⟩=some (wv (KL.getD i 0))
theorem Tabs.two {w:World} (h:Tabs w):2≤w.heap.size:=World.block_lt_of_cell? w _ (h.kl 0 (by omega))
theorem Tabs.below {w w':World} {n:Nat} (h:Tabs w) (hb:Below n w w') (hn:2≤n):Tabs w':=
  ⟨fun i hi=>(hb.cell (p:=⟨0,i,none⟩) (by simp;omega)).trans (h.st i hi),fun i hi=>(hb.cell (p:=⟨1,i,none⟩) (by simp;omega)).trans (h.kl i hi)⟩
def rotK (k:Int) (x:Nat):Nat:=rotr k.natAbs x
theorem rotK_any (k:Int) (x:Nat) (w:World) (hx:x<4294967296) (h1:k≤-1) (h2 : -31≤k) :
    Calls Tryz.prog 266 #[.int .u32 x,.int .i64 k] w fun e w'=>e = .returned (.int .u32 (rotK k x:Nat))∧w'=w:=
  (rot_at k.natAbs k x w (by omega) hx (by omega) (by omega)).mono fun _ _ ⟨h1,h2⟩=>⟨h1,h2.symm⟩
theorem not_word (x:Nat) (h:x<4294967296):4294967295 ^^^ x=4294967295-x:=by
  have q:=congrArg BitVec.toNat (BitVec.allOnes_xor (x:=BitVec.ofNat 32 x));rw[BitVec.toNat_xor,BitVec.toNat_not,BitVec.toNat_allOnes,BitVec.toNat_ofNat,Nat.mod_eq_of_lt (by simpa using h)] at q;exact q
theorem t_bits (s:S8) (k w:Nat) (hs:s.ok) (_:k<4294967296) (_:w<4294967296):∃ t:Nat,(((s.h:Int)+bits .xor .u32 (bits .xor .u32 ↑(rotK (-6) s.e) ↑(rotK (-11) s.e)) ↑(rotK (-25) s.e) +
      bits .xor .u32 (bits .and .u32 ↑s.e ↑s.f) (bits .and .u32 (bits .xor .u32 (if IntKind.u32.signed=true then -1 else IntKind.u32.max) ↑s.e) ↑s.g)+(k:Int)) % 4294967296+(w:Int)) % 4294967296=(t:Int)∧t=tF s k w∧t<4294967296:=by
  obtain⟨ha,hb,hc,hd,he,hf,hg,hh⟩:=hs;refine⟨tF s k w,?_,rfl,Nat.mod_lt _ (by omega)⟩;have e1:=e_bits s.e he;have e2:bits .xor .u32 (bits .and .u32 ↑s.e ↑s.f) (bits .and .u32 (bits .xor .u32 (if IntKind.u32.signed=true then -1 else IntKind.u32.max) ↑s.e) ↑s.g)=(chF s.e s.f s.g:Int):=by
    have e3:bits .xor .u32 (if IntKind.u32.signed=true then -1 else IntKind.u32.max) ↑s.e=((4294967295-s.e:Nat):Int):=by
      have e4:(if IntKind.u32.signed=true then (-1:Int) else IntKind.u32.max)=((4294967295:Nat):Int):=by decide
      rw[e4,u32_xor_nat _ _ (by omega) he];rw[not_word s.e he]
    rw[e3,u32_and_nat _ _ he hf,u32_and_nat _ _ (by omega) hg,u32_xor_nat _ _ (and_lt he) (and_lt (by omega))];rfl
  rw[show rotK (-6) s.e=rotr 6 s.e from rfl,show rotK (-11) s.e=rotr 11 s.e from rfl,show rotK (-25) s.e=rotr 25 s.e from rfl,e1,e2];unfold tF;omega
theorem u_bits (s:S8) (hs:s.ok):(bits .xor .u32 (bits .xor .u32 ↑(rotK (-2) s.a) ↑(rotK (-13) s.a)) ↑(rotK (-22) s.a)+bits .xor .u32 (bits .xor .u32 (bits .and .u32 ↑s.a ↑s.b) (bits .and .u32 ↑s.a ↑s.c)) (bits .and .u32 ↑s.b ↑s.c)) % 4294967296=(uF s:Int):=by
  obtain⟨ha,hb,hc,hd,he,hf,hg,hh⟩:=hs;rw[show rotK (-2) s.a=rotr 2 s.a from rfl,show rotK (-13) s.a=rotr 13 s.a from rfl,show rotK (-22) s.a=rotr 22 s.a from rfl,a_bits s.a ha,maj_bits s.a s.b s.c ha hb hc];unfold uF;omega
theorem wv_add (a b:Nat):Value.int .u32 (((a:Int)+(b:Int)) % 4294967296)=wv ((a+b) % 4294967296):=by
  unfold wv
  congr 1
def mixL (s t:S8) (j:Nat):List Nat:=
  [if 0<j then (addF s t).a else s.a,if 1<j then (addF s t).b else s.b,if 2<j then (addF s t).c else s.c,if 3<j then (addF s t).d else s.d,
    if 4<j then (addF s t).e else s.e,if 5<j then (addF s t).f else s.f,if 6<j then (addF s t).g else s.g,if 7<j then (addF s t).h else s.h]
theorem i37 {L:List Nat} (h:L.length=64):(Tryz.prog.info? 303).map (·.size)=some ((L.map bv).toArray).size:=by
  have:(Tryz.prog.info? 303).map (·.size)=some 64:=by kernel_rfl
  rw[this];simp[h]
theorem i32 {s t:S8} {j:Nat} : (Tryz.prog.info? 310).map (·.size)=some (((mixL s t j).map wv).toArray).size:=by
  have:(Tryz.prog.info? 310).map (·.size)=some 8:=by kernel_rfl
  rw[this];simp[mixL]
set_option maxHeartbeats 1000000 in
theorem compress_any (s:S8) (p:List Nat) (hs:s.ok) (hp:p.length=64) (hb:∀ x∈p,x<256) (w:World) (ht:Tabs w) :
    Calls Tryz.prog 254 #[.agg (s.l.map wv).toArray,.agg (p.map bv).toArray] w fun e w'=>e = .returned (.agg ((compF s p).l.map wv).toArray)∧Below w.heap.size w w':=by
  obtain⟨ha,hbb,hc,hd,he,hf,hg,hh⟩:=hs;obtain⟨a,b,c,d,e,f,g,h⟩:=s;simp only[S8.l,List.map_cons,List.map_nil];have HBP:∀ o,Blk (((w.alloc (.cells #[wv a,wv b,wv c,wv d,wv e,wv f,wv g,wv h] 310)).alloc (.cells (p.map bv).toArray 303)).alloc o) (w.heap.size+1) 303 (p.map bv).toArray:=by
    intro o
    have:=Blk.new (w.alloc (.cells #[wv a,wv b,wv c,wv d,wv e,wv f,wv g,wv h] 310)) 303 (p.map bv).toArray
    rw[World.size_alloc] at this;exact this.alloc o
  have HP:=qH HBP;have HT:=qH ht;clear HBP ht;go_enter Tryz.func254,Tryz.ntmps254;go_wp2_with (first
    | (refine wpList_load_blk rfl 303 _ rfl (w.heap.size+1) rfl _ 303 _ (HP.out _) Tryz.underlying303 rfl (i37 hp) ?_)
    | (go_at_call 265
       refine(schedule_any p hp hb _).mono ?_;rintro e1 w1 ⟨rfl,b1⟩;have B1:=qH b1;clear b1)
    | (refine wpList_store_blk rfl 323 _ _ rfl rfl w1.heap.size _ _ 323 rfl rfl (Blk.new _ 323 _) (by simp[schedL_len]) (i47 (by simp[schedL_len])) (one_map (fun _=>rfl) _) ?_
       intro w2 b2 o2;have HB2:=qH b2;have HO2:=qH o2;clear b2 o2))
  have hz1:w.heap.size+3≤w1.heap.size:=by have:=B1.out.size;simp at this;omega
  have q1:=HO2.out.below (n:=w.heap.size) (by simp;omega) (by simp;omega);have BW:Below w.heap.size w w2:=
    ((((Below.refl _ w).alloc (Nat.le_refl _) _).alloc (by simp) _).alloc (by simp;omega) _).trans ((B1.out.mono (by simp;omega)).trans (((Below.refl _ w1).alloc (by omega) _).trans q1))
  clear q1;have hs2:Blk w2 w.heap.size 310 #[wv a,wv b,wv c,wv d,wv e,wv f,wv g,wv h]:=by
    have b0:Blk w1 w.heap.size 310 #[wv a,wv b,wv c,wv d,wv e,wv f,wv g,wv h]:=(((Blk.new w 310 _).alloc _).alloc _).below B1.out (by simp;omega);exact(b0.alloc _).only HO2.out (by simp;omega)
  have hr2:Blk w2 (w.heap.size+1+1) 310 #[wv 0,wv 0,wv 0,wv 0,wv 0,wv 0,wv 0,wv 0]:=by
    have q:=Blk.new ((w.alloc (.cells #[wv a,wv b,wv c,wv d,wv e,wv f,wv g,wv h] 310)).alloc (.cells (p.map bv).toArray 303)) 310 #[wv 0,wv 0,wv 0,wv 0,wv 0,wv 0,wv 0,wv 0];rw[World.size_alloc,World.size_alloc] at q;have b0:=Blk.below (w':=w1) q B1.out (by simp);exact(b0.alloc _).only HO2.out (by simp;omega)
  have ht2:Tabs w2:=HT.out.below BW HT.out.two;have s0:=hs2.cell 0;have s1:=hs2.cell 1;have s2:=hs2.cell 2;have s3:=hs2.cell 3;have s4:=hs2.cell 4;have s5:=hs2.cell 5;have s6:=hs2.cell 6;have s7:=hs2.cell 7;simp only[List.getElem?_toArray,List.getElem?_cons_zero,List.getElem?_cons_succ] at s0 s1 s2 s3 s4 s5 s6 s7;have HS2:=qH hs2;have HR2:=qH hr2;have HT2:=qH ht2;have HBW:=qH BW;clear BW hs2 hr2 ht2 B1 HO2 HP HT
  go_quiet (fail);go_wp2_with fail;clear s0 s1 s2 s3 s4 s5 s6 s7;go_loopw [6,7,8,9,10,11,12,13,37] (fun x6 x7 x8 x9 x10 x11 x12 x13 x37 wr=>∃ k n:Nat,k≤64∧x37 = .int .i64 k∧wr=w2.drewN n ∧
    ∃ S,S=roundsF KL (schedL p 64) ⟨a,b,c,d,e,f,g,h⟩ k∧x6=wv S.a∧x7=wv S.b∧x8=wv S.c∧x9=wv S.d∧x10=wv S.e∧x11=wv S.f∧x12=wv S.g∧x13=wv S.h) (fun _ _ _ _ _ _ _ _ s _=>64-(intOf s).toNat)
  case atStart=>exact⟨0,_,by omega,rfl,rfl,_,rfl,rfl,rfl,rfl,rfl,rfl,rfl,rfl,rfl⟩
  case round=>
    obtain⟨k,n,hk,rfl,rfl,S,hS,rfl,rfl,rfl,rfl,rfl,rfl,rfl,rfl⟩:=hrel
    by_cases hlt:k<64
    · have ok:=rounds_ok KL (schedL p 64) ⟨a,b,c,d,e,f,g,h⟩ ⟨ha,hbb,hc,hd,he,hf,hg,hh⟩ k
      rw[←hS] at ok;have HSS:=qH hS;clear hS;obtain⟨sa,sb,sc,sd,se,sf,sg,sh⟩:=S;obtain⟨oa,ob,oc,od,oe,of,og,oh⟩:=ok
      simp only at oa ob oc od oe of og oh
      obtain⟨wq,hwq⟩:∃ wq,wq=w2.drewN n:=⟨_,rfl⟩;rw[←hwq];have gk:wq.cell? ⟨1,k,none⟩=some (wv (KL.getD k 0)):=by rw[hwq];exact HT2.out.kl k hlt
      have gw:wq.cell? ⟨w1.heap.size,k,none⟩=some (wv ((schedL p 64).getD k 0)):=by
        rw[hwq];refine(HB2.out.cell k).trans ?_;rw[map_get _ _ (by rw[schedL_len];exact hlt),List.getD_eq_getElem?_getD,List.getElem?_eq_getElem (by rw[schedL_len];exact hlt)];rfl
      have HWQ:=qH hwq;clear hwq;have lk:=KL_lt k;have lw:=sched_lt p hb 64 k;obtain⟨kk,hkk⟩:∃ kk,kk=KL.getD k 0:=⟨_,rfl⟩;obtain⟨ww,hww⟩:∃ ww,ww=(schedL p 64).getD k 0:=⟨_,rfl⟩;rw[←hkk] at gk lk;rw[←hww] at gw lw;have HKK:=qH hkk;have HWW:=qH hww;clear hkk hww;have k0:(0:Int)≤(k:Int):=by omega
      have k1:(k:Int)<64:=by omega
      go_wp2_with fail;go_quiet ((go_at_call 266;exact Calls.quiet_of_same (rotK_any _ se _ oe (by decide) (by decide))));obtain⟨tt,ht1,ht2,ht3⟩:=t_bits ⟨sa,sb,sc,sd,se,sf,sg,sh⟩ kk ww ⟨oa,ob,oc,od,oe,of,og,oh⟩ lk lw
      simp only at ht1
      rw[ht1];have HT3:=qH ht2;clear ht1 ht2;go_wp2_with fail;refine(rotK_any (-2) sa _ oa (by decide) (by decide)).mono ?_;rintro e1 w' ⟨rfl,rfl⟩;go_wp2_with fail;refine(rotK_any (-13) sa _ oa (by decide) (by decide)).mono ?_;rintro e1 w' ⟨rfl,rfl⟩;go_wp2_with fail;refine(rotK_any (-22) sa _ oa (by decide) (by decide)).mono ?_;rintro e1 w' ⟨rfl,rfl⟩;go_wp2_with fail;go_roundw
      case rel=>
        have hu:=u_bits ⟨sa,sb,sc,sd,se,sf,sg,sh⟩ ⟨oa,ob,oc,od,oe,of,og,oh⟩
        simp only at hu
        rw[hu];refine⟨k+1,n+nq,by omega,by go_num,by rw[HWQ.out,World.drewN_drewN],stepF ⟨sa,sb,sc,sd,se,sf,sg,sh⟩ kk ww,by rw[HSS.out,HKK.out,HWW.out];rfl,?_,rfl,rfl,rfl,?_,rfl,rfl,rfl⟩
        · simp only[stepF,←HT3.out]
          rw[wv_add]
        · simp only[stepF,←HT3.out]
          rw[wv_add]
      case measure=>simp[intOf];omega
    · obtain rfl:k=64:=by omega
      rw[show ((64:Nat):Int)=64 from rfl];have HSS:=qH hS;clear hS;obtain⟨sa,sb,sc,sd,se,sf,sg,sh⟩:=S;obtain⟨wq,hwq⟩:∃ wq,wq=w2.drewN n:=⟨_,rfl⟩;rw[←hwq];have r1:Blk wq w.heap.size 310 ((mixL ⟨a,b,c,d,e,f,g,h⟩ ⟨sa,sb,sc,sd,se,sf,sg,sh⟩ 0).map wv).toArray:=by
        rw[hwq];exact HS2.out.drewN n
      have r2:Blk wq (w.heap.size+1+1) 310 #[wv 0,wv 0,wv 0,wv 0,wv 0,wv 0,wv 0,wv 0]:=by rw[hwq];exact HR2.out.drewN n
      have r3:Below w.heap.size w wq:=by rw[hwq];exact⟨HBW.out.os,HBW.out.tape,HBW.out.output,HBW.out.size,HBW.out.block⟩
      clear hwq HS2 HR2 HBW HT2 HB2
      simp only
      go_wp2_with fail;go_loopw [109] (fun x wr=>∃ j:Nat,j≤8∧x = .int .i64 j∧Blk wr w.heap.size 310 ((mixL ⟨a,b,c,d,e,f,g,h⟩ ⟨sa,sb,sc,sd,se,sf,sg,sh⟩ j).map wv).toArray∧Blk wr (w.heap.size+1+1) 310 #[wv 0,wv 0,wv 0,wv 0,wv 0,wv 0,wv 0,wv 0]∧Below w.heap.size w wr) (fun s _=>8-(intOf s).toNat)
      case atStart=>exact⟨0,by omega,rfl,r1,r2,r3⟩
      case round=>
        obtain⟨j,hj,rfl,m1,m2,m3⟩:=hrel;clear r1 r2 r3
        by_cases hlt:j<8
        · have hcase:j=0∨j=1∨j=2∨j=3∨j=4∨j=5∨j=6∨j=7:=by omega
          have hx0:∀ W,(Instr.index 310 (.agg #[wv sa,wv sb,wv sc,wv sd,wv se,wv sf,wv sg,wv sh]) (.int .i64 0)).run Tryz.prog W = .ok (wv sa) W:=fun _=>by kernel_rfl
          have hx1:∀ W,(Instr.index 310 (.agg #[wv sa,wv sb,wv sc,wv sd,wv se,wv sf,wv sg,wv sh]) (.int .i64 1)).run Tryz.prog W = .ok (wv sb) W:=fun _=>by kernel_rfl
          have hx2:∀ W,(Instr.index 310 (.agg #[wv sa,wv sb,wv sc,wv sd,wv se,wv sf,wv sg,wv sh]) (.int .i64 2)).run Tryz.prog W = .ok (wv sc) W:=fun _=>by kernel_rfl
          have hx3:∀ W,(Instr.index 310 (.agg #[wv sa,wv sb,wv sc,wv sd,wv se,wv sf,wv sg,wv sh]) (.int .i64 3)).run Tryz.prog W = .ok (wv sd) W:=fun _=>by kernel_rfl
          have hx4:∀ W,(Instr.index 310 (.agg #[wv sa,wv sb,wv sc,wv sd,wv se,wv sf,wv sg,wv sh]) (.int .i64 4)).run Tryz.prog W = .ok (wv se) W:=fun _=>by kernel_rfl
          have hx5:∀ W,(Instr.index 310 (.agg #[wv sa,wv sb,wv sc,wv sd,wv se,wv sf,wv sg,wv sh]) (.int .i64 5)).run Tryz.prog W = .ok (wv sf) W:=fun _=>by kernel_rfl
          have hx6:∀ W,(Instr.index 310 (.agg #[wv sa,wv sb,wv sc,wv sd,wv se,wv sf,wv sg,wv sh]) (.int .i64 6)).run Tryz.prog W = .ok (wv sg) W:=fun _=>by kernel_rfl
          have hx7:∀ W,(Instr.index 310 (.agg #[wv sa,wv sb,wv sc,wv sd,wv se,wv sf,wv sg,wv sh]) (.int .i64 7)).run Tryz.prog W = .ok (wv sh) W:=fun _=>by kernel_rfl
          have cf:=m1.frozen j;have cc:=m1.cell j;have M1:=qH m1;have M2:=qH m2;have M3:=qH m3;clear m1 m2 m3;rcases hcase with rfl|rfl|rfl|rfl|rfl|rfl|rfl|rfl
          · simp[mixL] at cc
            simp only[Int.cast_ofNat_Int];go_wp2_with fail;go_roundw
            case rel=>
              rw[wv_add a sa];exact⟨1,by omega,by go_num,by simpa [mixL,addF] using M1.out.set_ 0 (wv ((a+sa) % 4294967296)),M2.out.far (by show w.heap.size+1+1≠w.heap.size;omega) _,M3.out.setCell (by simp) _⟩
            case measure=>simp[intOf]
          · simp[mixL] at cc
            simp only[Int.cast_ofNat_Int];go_wp2_with fail;go_roundw
            case rel=>
              rw[wv_add b sb];exact⟨2,by omega,by go_num,by simpa [mixL,addF] using M1.out.set_ 1 (wv ((b+sb) % 4294967296)),M2.out.far (by show w.heap.size+1+1≠w.heap.size;omega) _,M3.out.setCell (by simp) _⟩
            case measure=>simp[intOf]
          · simp[mixL] at cc
            simp only[Int.cast_ofNat_Int];go_wp2_with fail;go_roundw
            case rel=>
              rw[wv_add c sc];exact⟨3,by omega,by go_num,by simpa [mixL,addF] using M1.out.set_ 2 (wv ((c+sc) % 4294967296)),M2.out.far (by show w.heap.size+1+1≠w.heap.size;omega) _,M3.out.setCell (by simp) _⟩
            case measure=>simp[intOf]
          · simp[mixL] at cc
            simp only[Int.cast_ofNat_Int];go_wp2_with fail;go_roundw
            case rel=>
              rw[wv_add d sd];exact⟨4,by omega,by go_num,by simpa [mixL,addF] using M1.out.set_ 3 (wv ((d+sd) % 4294967296)),M2.out.far (by show w.heap.size+1+1≠w.heap.size;omega) _,M3.out.setCell (by simp) _⟩
            case measure=>simp[intOf]
          · simp[mixL] at cc
            simp only[Int.cast_ofNat_Int];go_wp2_with fail;go_roundw
            case rel=>
              rw[wv_add e se];exact⟨5,by omega,by go_num,by simpa [mixL,addF] using M1.out.set_ 4 (wv ((e+se) % 4294967296)),M2.out.far (by show w.heap.size+1+1≠w.heap.size;omega) _,M3.out.setCell (by simp) _⟩
            case measure=>simp[intOf]
          · simp[mixL] at cc
            simp only[Int.cast_ofNat_Int];go_wp2_with fail;go_roundw
            case rel=>
              rw[wv_add f sf];exact⟨6,by omega,by go_num,by simpa [mixL,addF] using M1.out.set_ 5 (wv ((f+sf) % 4294967296)),M2.out.far (by show w.heap.size+1+1≠w.heap.size;omega) _,M3.out.setCell (by simp) _⟩
            case measure=>simp[intOf]
          · simp[mixL] at cc
            simp only[Int.cast_ofNat_Int];go_wp2_with fail;go_roundw
            case rel=>
              rw[wv_add g sg];exact⟨7,by omega,by go_num,by simpa [mixL,addF] using M1.out.set_ 6 (wv ((g+sg) % 4294967296)),M2.out.far (by show w.heap.size+1+1≠w.heap.size;omega) _,M3.out.setCell (by simp) _⟩
            case measure=>simp[intOf]
          · simp[mixL] at cc
            simp only[Int.cast_ofNat_Int];go_wp2_with fail;go_roundw
            case rel=>
              rw[wv_add h sh];exact⟨8,by omega,by go_num,by simpa [mixL,addF] using M1.out.set_ 7 (wv ((h+sh) % 4294967296)),M2.out.far (by show w.heap.size+1+1≠w.heap.size;omega) _,M3.out.setCell (by simp) _⟩
            case measure=>simp[intOf]
        · obtain rfl:j=8:=by omega
          rw[show ((8:Nat):Int)=8 from rfl];have M1:=qH m1;have M2:=qH m2;have M3:=qH m3;have HC:Hid (mixL ⟨a,b,c,d,e,f,g,h⟩ ⟨sa,sb,sc,sd,se,sf,sg,sh⟩ 8=(compF ⟨a,b,c,d,e,f,g,h⟩ p).l):=by
            refine qH ?_;unfold compF;rw[←HSS.out];rfl
          clear m1 m2 m3;go_wp2_with (first
            | (refine wpList_load_blk rfl 310 _ rfl w.heap.size rfl _ 310 _ M1.out Tryz.underlying310 rfl i32 ?_)
            | (refine wpList_store_blk rfl 310 _ _ rfl rfl (w.heap.size+1+1) _ _ 310 rfl rfl M2.out rfl i32 (one_map (fun _=>rfl) _) ?_;intro w4 b4 o4))
          refine bodyPost_ret (results_blk Tryz.results254 _ _ (w.heap.size+1+1) _ _ rfl b4 Tryz.underlying310 rfl i32) rfl ?_;refine⟨?_,M3.out.trans (o4.below (by simp;omega) M3.out.size)⟩;rw[HC.out];rfl
end Go.Proofs.YtoaimoemaoinhaaGreatDoor.Sk
