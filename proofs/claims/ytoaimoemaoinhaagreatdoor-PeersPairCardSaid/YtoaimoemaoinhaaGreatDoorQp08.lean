/- PeersX: a part of the proof. No condition beyond the premises of each theorem. -/
import Derived.Test.YtoaimoemaoinhaaGreatDoorQp07
import Derived.Deep.RegionWith
import Derived.Deep.RegionHeld3
import Derived.Lib.SlBytesRow
import Derived.Deep.OwnRows
import Derived.WalkKit
import Derived.MapKept
import Derived.Maps.Keyed
import Derived.RangeFuncRecord
import Derived.Test.YtoaimoemaoinhaaGreatDoorQp00
set_option maxRecDepth 100000
namespace Go.Proofs.YtoaimoemaoinhaaGreatDoor.Sk
open Go.RowKit Go.Rt
theorem und29 : Tryz.prog.underlying 124=some (.slice 5):=by kernel_rfl
theorem und9 : Tryz.prog.underlying 9=some .string:=by kernel_rfl
theorem und5 : Tryz.prog.underlying 5=some (.int .u8):=by kernel_rfl
structure Pr where
 name:ByteArray
 gen:Nat
structure Sd where
 self:Pr
 other:Pr
 want:ByteArray
 cookie:ByteArray
 chal:Nat
 their:Nat
 dials:Bool
 sent:Bool
 state:Nat
def seqB (a b:ByteArray):Bool:=a.toList==b.toList
theorem info5b : (Tryz.prog.info? 5).map (fun i=>(i.zero,i.size,i.bytes))=some (some (.int .u8 0),1,1):=by kernel_rfl
def numL (n k:Nat):List Nat:=(List.range k).map fun j=>n / 2 ^ (8*(k-1-j)) % 256
def numF (n k:Nat):ByteArray:=⟨((numL n k).map UInt8.ofNat).toArray⟩
def rowN (n k m:Nat) (j:Nat):Value:=if k-1-j<m then .int .u8 ((n:Int) / 2 ^ (8*(k-1-j)) % 256) else .int .u8 0
theorem rowN_next (n k m j:Nat) (hm:m<k) (hj:j<k):(if j=k-1-m then Value.int .u8 ((n:Int) / 2 ^ (8*m) % 256) else rowN n k m j)=rowN n k (m+1) j:=by
 unfold rowN
 by_cases e:j=k-1-m
 ·
  rw[if_pos e,if_pos (by omega),show k-1-j=m by omega]
 ·
  rw[if_neg e]
  by_cases h:k-1-j<m
  ·
   rw[if_pos h,if_pos (by omega)]
  ·
   rw[if_neg h,if_neg (by omega)]
theorem num_conv {n k g:Nat} {W:World} (r:W.rowIs g 5 k (rowN n k k)):(convert 124 9 (.slice (some ⟨g,0,none⟩) k k)).run Tryz.prog W = .ok (.string (numF n k)) W:=by
 have hlen:(numL n k).length=k:=by simp[numL]
 have q:=run_convert_bytes_back (P:=Tryz.prog) W 124 9 5 ⟨g,0,none⟩ k ((numL n k).map UInt8.ofNat) und29 und5 und9 ?_
 ·
  rw[List.length_map,hlen] at q;exact q
 ·
  intro j hj;rw[List.length_map,hlen] at hj;have e:(⟨g,0,none⟩:Addr).add j=⟨g,j,none⟩:=by unfold Addr.add;split<;>simp_all
  rw[e,r.cell hj,List.getElem_map];have e2:(numL n k)[j]'(by rw[hlen];exact hj)=n / 2 ^ (8*(k-1-j)) % 256:=by simp[numL]
  rw[e2,UInt8.toNat_ofNat',Nat.mod_eq_of_lt (Nat.mod_lt _ (by omega))];unfold rowN;rw[if_pos (by omega)];rw[Int.natCast_emod,Int.natCast_ediv,Int.natCast_pow];rfl
set_option maxHeartbeats 400000 in
theorem bytes_any (n k:Nat) (hk:k≤8) (w:World) :
  Calls Tryz.prog 126 #[.int .u64 n,.int .i64 k] w fun e w'=>e = .returned (.string (numF n k))∧Below w.heap.size w w':=by
 have hmk:=run_make_row' (P:=Tryz.prog) 124 5 (.int .u8 0) 1 und29 info5b rfl .i64 .i64 k (by omega) (by omega) w;have r0:=World.rowIs_made w (.int .u8 0) k 5;have b0:=(Below.refl w.heap.size w).alloc (Nat.le_refl _) (.cells (madeCells #[.int .u8 0] k) 5);obtain⟨W1,hW1⟩:∃ W1,W1=w.alloc (.cells (madeCells #[.int .u8 0] k) 5):=⟨_,rfl⟩;rw[←hW1] at hmk r0 b0;have R0:=qH r0;have B0:=qH b0;clear hW1 r0 b0
 go_enter Tryz.func126,Tryz.ntmps126;go_wp2;clear hmk;go_loopw [11] (fun i wr=>∃ m:Nat,m≤k∧i = .int .i64 m∧wr.rowIs w.heap.size 5 k (rowN n k m)∧Below w.heap.size w wr) (fun i _=>k-(intOf i).toNat)
 case atStart=>exact⟨0,Nat.zero_le _,rfl,R0.out.congr (fun i _=>by simp[rowN]),B0.out⟩
 case round=>
  obtain⟨m,hm,rfl,r,bb⟩:=hrel
  by_cases hlt:m<k
  ·
   have rc:=r.cell (i:=k-1-m) (by omega);have rf:=r.frozen (k-1-m);have hw1:IntKind.i64.wrap ((k:Int)-1-m)=((k-1-m:Nat):Int):=by rw[IntKind.wrap_i64]<;>omega
   have r2:=(r.set (k-1-m) (.int .u8 ((n:Int) / 2 ^ (8*m) % 256))).congr (fun j hj=>rowN_next n k m j hlt hj);have R2:=qH r2;have B2:=qH (bb.setCell (p:=⟨w.heap.size,k-1-m,none⟩) (Nat.le_refl _) (.int .u8 ((n:Int) / 2 ^ (8*m) % 256)));clear r2 bb;go_wp2;go_roundw
   case rel=>exact⟨m+1,by omega,by go_num,R2.out,B2.out⟩
   case measure=>simp[intOf];omega
  ·
   obtain rfl:m=k:=by omega
   have hcv:=num_conv r;have BB:=qH bb;clear bb r;go_wp2;go_ret;exact⟨rfl,BB.out⟩
theorem numF_size (n k:Nat):(numF n k).size=k:=by simp[numF,numL,ByteArray.size]
def lenF (s:ByteArray):ByteArray:=numF s.size 1++s
theorem word_any (s:ByteArray) (hs:s.size≤1000000) (w:World) :
  Calls Tryz.prog 68 #[.string s] w fun e w'=>e = .returned (.string (lenF s))∧Below w.heap.size w w':=by
 have z1:=numF_size s.size 1;have C:=qH (bytes_any s.size 1 (by omega) w);obtain⟨q,hq⟩:∃ q,q=numF s.size 1:=⟨_,rfl⟩;have HQ:Hid (lenF s=q++s):=by refine qH ?_;rw[hq];rfl
 rw[←hq] at z1;have C2:Hid (Calls Tryz.prog 126 #[.int .u64 (s.size:Int),.int .i64 1] w fun e w'=>e = .returned (.string q)∧Below w.heap.size w w'):=by rw[hq];exact C
 clear C hq;rw[HQ.out];go_enter Tryz.func68,Tryz.ntmps68;go_wp2_with (go_at_call 126;refine C2.out.mono ?_;rintro e w1 ⟨rfl,b1⟩;have B1:=qH b1;clear b1);go_ret;exact⟨rfl,B1.out⟩
def encF (p:Pr):ByteArray:=lenF p.name++numF p.gen 4
def helloC : ByteArray:=⟨#[1,1]⟩
def helloF (self:Pr) (want:ByteArray):ByteArray:=helloC++encF self++lenF want
theorem bcell {W w1:World} {B:Nat} (hb:Below B W w1):(∀ b o,b<B→w1.cell? ⟨b,o,none⟩=W.cell? ⟨b,o,none⟩)∧(∀ b o,b<B→w1.frozen? ⟨b,o,none⟩=W.frozen? ⟨b,o,none⟩):=
 ⟨fun b o h=>hb.cell (p:=⟨b,o,none⟩) h,fun b o h=>hb.frozen (p:=⟨b,o,none⟩) h⟩
def genI (g:Int):Bool:=decide (1≤g)&&decide (g≤2147483647)
set_option maxHeartbeats 400000 in
theorem validV_any (n:ByteArray) (g:Int) (w:World) :
  Calls Tryz.prog 66 #[.agg #[.string n,.int .i64 g]] w fun e w'=>e = .returned (.bool (nameF n&&genI g))∧Below w.heap.size w w':=by
 have C:=qH (fun W=>nameV_any n W);obtain⟨r,hr⟩:∃ r,r=nameF n:=⟨_,rfl⟩;rw[←hr] at C ⊢;clear hr;have B0:Hid (∀ W' o,Below (w.alloc o).heap.size (w.alloc o) W'→Below w.heap.size w W'):=qH (fun W' o h=>((Below.refl w.heap.size w).alloc (Nat.le_refl _) o).trans (h.mono (by simp)));cases r with
 | false=>
  rw[Bool.false_and];go_enter Tryz.func66,Tryz.ntmps66;go_wp2_with (go_at_call 64;refine(C.out _).mono ?_;rintro e w1 ⟨rfl,b1⟩;have B1:=qH b1;clear b1);go_ret;exact⟨rfl,B0.out _ _ B1.out⟩
 | true=>
  rw[Bool.true_and]
  by_cases h1:1≤g
  ·
   by_cases h2:g≤2147483647
   ·
    have hg:genI g=true:=by simp[genI,h1,h2]
    rw[hg];go_enter Tryz.func66,Tryz.ntmps66;go_wp2_with (go_at_call 64;refine(C.out _).mono ?_;rintro e w1 ⟨rfl,b1⟩;obtain⟨hc,hf⟩:=bcell b1;have B1:=qH b1;clear b1);go_ret;exact⟨rfl,B0.out _ _ B1.out⟩
   ·
    have hg:genI g=false:=by simp[genI,h1,h2]
    have hd:decide (g≤2147483647)=false:=decide_eq_false h2;rw[hg];go_enter Tryz.func66,Tryz.ntmps66;go_wp2_with (go_at_call 64;refine(C.out _).mono ?_;rintro e w1 ⟨rfl,b1⟩;obtain⟨hc,hf⟩:=bcell b1;have B1:=qH b1;clear b1);go_ret;exact⟨rfl,B0.out _ _ B1.out⟩
  ·
   have hg:genI g=false:=by simp[genI,h1]
   rw[hg];go_enter Tryz.func66,Tryz.ntmps66;go_wp2_with (go_at_call 64;refine(C.out _).mono ?_;rintro e w1 ⟨rfl,b1⟩;obtain⟨hc,hf⟩:=bcell b1;have B1:=qH b1;clear b1);go_ret;exact⟨rfl,B0.out _ _ B1.out⟩
theorem lenF_size (s:ByteArray):(lenF s).size=s.size+1:=by unfold lenF;rw[ByteArray.size_append,numF_size];omega
theorem encF_size (p:Pr):(encF p).size=p.name.size+5:=by unfold encF;rw[ByteArray.size_append,numF_size,lenF_size]
theorem u64_of (g:Nat) (h:g≤2147483647):IntKind.u64.wrap (g:Int)=(g:Int):=by rw[IntKind.wrap_u64];omega
set_option maxHeartbeats 1000000 in
theorem enc_any (n:ByteArray) (g:Nat) (hn:n.size≤100000) (hg:g≤2147483647) (w:World) :
  Calls Tryz.prog 67 #[.agg #[.string n,.int .i64 g]] w fun e w'=>e = .returned (.string (encF ⟨n,g⟩))∧Below w.heap.size w w':=by
 have hu:=u64_of g hg;have z1:=lenF_size n;have z2:=numF_size g 4;have C1:=qH (fun W=>word_any n (by omega) W);have C2:Hid (∀ W,Calls Tryz.prog 126 #[.int .u64 (g:Int),.int .i64 4] W fun e w'=>e = .returned (.string (numF g 4))∧Below W.heap.size W w'):=qH (fun W=>bytes_any g 4 (by omega) W);have HQ:Hid (encF ⟨n,g⟩=lenF n++numF g 4):=qH rfl;obtain⟨q1,hq1⟩:∃ q,q=lenF n:=⟨_,rfl⟩;obtain⟨q2,hq2⟩:∃ q,q=numF g 4:=⟨_,rfl⟩
 rw[←hq1] at z1 C1 HQ;rw[←hq2] at z2 C2 HQ;clear hq1 hq2;have z2':q2.size≤4:=by omega
 have z1':q1.size≤100001:=by omega
 clear z1 z2;have hs:¬9223372036854775807<q1.size+q2.size:=by omega
 rw[HQ.out];go_enter Tryz.func67,Tryz.ntmps67;go_wp2;go_region_held3 (fun w'=>w'.cell? ⟨w.heap.size,0,none⟩=some (.string n)∧w'.cell? ⟨w.heap.size,1,none⟩=some (.int .i64 (g:Int))∧w.heap.size<w'.heap.size) (((try dsimp only);refine⟨?_,?_,?_⟩<;>first|(go_keep;done)|omega))
  (first
   | (go_at_call 68;refine(C1.out _).mono ?_;rintro e w1 ⟨rfl,b1⟩;obtain⟨hc1,_⟩:=bcell b1;have z1:=b1.size)
   | (go_at_call 126;refine(C2.out _).mono ?_;rintro e w2 ⟨rfl,b2⟩;obtain⟨hc2,_⟩:=bcell b2;have z2:=b2.size))
 all_goals (go_wp2;go_ret;exact⟨rfl,(((Below.refl w.heap.size w).alloc (Nat.le_refl _) _).drew.trans (b1.mono (by simp))).trans (b2.mono (by simp at z1;omega))⟩)
theorem cell_keep {W W':World} {p:Addr} {v:Value} (b:Below W.heap.size W W') (h:W.cell? p=some v):W'.cell? p=some v:=(b.cell (World.block_lt_of_cell? W p h)).trans h
def dialS (self:Pr) (want cookie:ByteArray) (chal:Nat):Sd:=⟨self,⟨⟨#[]⟩,0⟩,want,cookie,chal,0,true,false,1⟩
def sdC (s:Sd):Array Value:=#[.string s.self.name,.int .i64 s.self.gen,.string s.other.name,.int .i64 s.other.gen,.string s.want,.string s.cookie,.int .u64 s.chal,.int .u64 s.their,.bool s.dials,.bool s.sent,.int .i64 s.state]
def dialB (n:ByteArray) (g:Int) (want:ByteArray):Bool:=nameF n&&genI g&&nameF want && !(seqB want n)
theorem genI_nat {g:Int} (h:genI g=true):∃ k:Nat,g=k∧k≤2147483647:=by
 unfold genI at h;simp only[Bool.and_eq_true,decide_eq_true_eq] at h;exact⟨g.toNat,by omega,by omega⟩
def Made (T:TypeId) (s:Sd) (out:ByteArray) (w:World) (e:Ending) (w':World):Prop:=
 ∃ B,e = .returned (.tuple #[.pointer (some ⟨B,0,none⟩),.string out,.int .i64 0])∧w.heap.size≤B∧Blk w' B T (sdC s)∧Below w.heap.size w w'
theorem dialB_parts {n:ByteArray} {g:Int} {want:ByteArray} (h:dialB n g want=true):(nameF n&&genI g)=true∧nameF want=true∧(want.toList==n.toList)=false:=by
 unfold dialB seqB at h;simp only[Bool.and_eq_true,Bool.not_eq_true'] at h;exact⟨by rw[Bool.and_eq_true];exact h.1.1,h.1.2,h.2⟩
set_option maxHeartbeats 1000000 in
theorem dial_yes (n:ByteArray) (g:Nat) (want cookie:ByteArray) (c:Nat) (h:dialB n g want=true) (w:World) :
  Calls Tryz.prog 32 #[.agg #[.string n,.int .i64 g],.string want,.string cookie,.int .u64 c] w (Made 141 (dialS ⟨n,g⟩ want cookie c) (helloF ⟨n,g⟩ want) w):=by
 obtain⟨h1,h2,h3⟩:=dialB_parts h;have V:=qH (fun W=>validV_any n g W);have N:=qH (fun W=>nameV_any want W);rw[h1] at V;rw[h2] at N;have hn:=nameF_size n (by rw[Bool.and_eq_true] at h1;exact h1.1);have hw:=nameF_size want h2;have hg:g≤2147483647:=by
  rw[Bool.and_eq_true] at h1;obtain⟨k,e,hk⟩:=genI_nat h1.2;omega
 have C1:=qH (fun W=>enc_any n g (by omega) hg W);have C2:=qH (fun W=>word_any want (by omega) W);have e1:=encF_size ⟨n,g⟩;have e2:=lenF_size want;have HQ:Hid (helloF ⟨n,g⟩ want=ByteArray.mk #[1,1]++encF ⟨n,g⟩++lenF want):=qH rfl;rw[HQ.out];obtain⟨q1,hq1⟩:∃ q,q=encF ⟨n,g⟩:=⟨_,rfl⟩;obtain⟨q2,hq2⟩:∃ q,q=lenF want:=⟨_,rfl⟩;rw[←hq1] at e1 C1 ⊢;rw[←hq2] at e2 C2 ⊢
 simp only at e1
 have z1:q1.size≤37:=by omega
 have z2:q2.size≤33:=by omega
 have s1:¬9223372036854775807<2+q1.size:=by omega
 have s2:¬9223372036854775807<2+q1.size+q2.size:=by omega
 clear hq1 hq2 HQ e1 e2 h h1 h2 hn hw hg z1 z2;go_enter Tryz.func32,Tryz.ntmps32;go_wp2_with fail;refine(V.out _).mono ?_;rintro e w1 ⟨rfl,b1⟩;have k0:w1.cell? ⟨w.heap.size,0,none⟩=some (.string n):=cell_keep b1 (by simp);have k1:w1.cell? ⟨w.heap.size,1,none⟩=some (.int .i64 (g:Int)):=cell_keep b1 (by simp);have B1:=qH (((Below.refl w.heap.size w).alloc (Nat.le_refl _) _).trans (b1.mono (by simp)))
 clear b1;go_wp2_with fail;refine(N.out _).mono ?_;rintro e w2 ⟨rfl,b2⟩;have j0:=cell_keep b2 k0;have j1:=cell_keep b2 k1;have B2:=qH (B1.out.trans (b2.mono B1.out.size));have y0:=World.block_lt_of_cell? _ _ j0
 simp only at y0
 clear b2 k0 k1;go_wp2_with fail;refine(C1.out _).mono ?_;rintro e w3 ⟨rfl,b3⟩;have X3:Hid (Blk w3 w2.heap.size 141 (sdC (dialS ⟨n,g⟩ want cookie c))):=qH ((World.alloc_heap_new w2 _) |> fun q=>(b3.block w2.heap.size (by simp)).trans q);have B3:=qH ((B2.out.alloc B2.out.size _).trans (b3.mono (by have:=B2.out.size;simp;omega)));clear b3;go_wp2_with fail;refine(C2.out _).mono ?_;rintro e w4 ⟨rfl,b4⟩
 have X4:=qH (X3.out.below b4 X3.out.lt);have B4:=qH (B3.out.trans (b4.mono B3.out.size));clear b4;go_wp2;go_ret3;exact⟨w2.heap.size,rfl,B2.out.size,X4.out,B4.out⟩
end Go.Proofs.YtoaimoemaoinhaaGreatDoor.Sk
namespace Go.Mp
open Go.MapKept
variable {K V:Type}
def MapAt (w:World) (b:Nat) (kap:K→Value) (nu:V→Value) (l:List (K×V)):Prop:=
  ∃ es c,w.heap[b]? = some (.map es c)∧es.toList.map (fun e=>(e.key,e.val))=l.map (fun p=>(kap p.1,nu p.2))∧Stamped es c
structure Emb (P:Program) (k:TypeId) (kap:K→Value):Prop where
  kind:∃ d,P.underlying k=some d∧∀ a,IsKey d (kap a)
  inj:∀ {a b},kap a=kap b→a=b
theorem MapAt.lt {w:World} {b:Nat} {kap:K→Value} {nu:V→Value} {l:List (K×V)} (h:MapAt w b kap nu l):b<w.heap.size:=by
  obtain⟨es,c,hb,_⟩:=h;exact(Array.getElem?_eq_some_iff.1 hb).1
theorem MapAt.of_heap {w w':World} {b:Nat} {kap:K→Value} {nu:V→Value} {l:List (K×V)} (h:MapAt w b kap nu l) (he:w'.heap[b]? = w.heap[b]?):MapAt w' b kap nu l:=by
  obtain⟨es,c,hb,hl⟩:=h;exact⟨es,c,he.trans hb,hl⟩
theorem MapAt.new (w:World) (kap:K→Value) (nu:V→Value):MapAt (w.alloc (.map #[] 0)) w.heap.size kap nu []:=⟨#[],0,(heap_alloc w _).1,rfl,stamped_empty _⟩
section
variable {P:Program} {t k e:TypeId} {kap:K→Value} {nu:V→Value} {w:World} {b:Nat} {l:List (K×V)}
end
variable [DecidableEq K]
def get : List (K×V)→K→Option V
  | [],_=>none
  | (a,v)::r,k=>if a=k then some v else get r k
def put : List (K×V)→K→V→List (K×V)
  | [],k,v=>[(k,v)]
  | (a,u)::r,k,v=>if a=k then (k,v)::r else (a,u)::put r k v
def del : List (K×V)→K→List (K×V)
  | [],_=>[]
  | (a,u)::r,k=>if a=k then r else (a,u)::del r k
theorem findNow_list {d:TypeDesc} {kap:K→Value} {nu:V→Value} (hk:∀ a,IsKey d (kap a)) (inj:∀ {a b},kap a=kap b→a=b) (k:K) :
    ∀ (es:List MapEntry) (l:List (K×V)) (i:Nat),es.map (fun e=>(e.key,e.val))=l.map (fun p=>(kap p.1,nu p.2)) →
      (get l k=none∧Instr.findNow d (kap k) es i=some none) ∨
      (∃ j v e,get l k=some v∧Instr.findNow d (kap k) es i=some (some (i+j,nu v))∧es[j]? = some e∧e.key=kap k ∧
        (∀ u,put l k u=l.set j (k,u))∧del l k=l.eraseIdx j∧j<l.length)
  | [],[],_,_=>.inl ⟨rfl,rfl⟩
  | [],_::_,_,h=>by simp at h
  | _::_,[],_,h=>by simp at h
  | e::es,(a,v)::l,i,h=>by
    simp only[List.map_cons,List.cons.injEq,Prod.mk.injEq] at h;obtain⟨⟨h1,h2⟩,h3⟩:=h;obtain⟨r,hr,hiff⟩:=sameNow_of_keys (hk k) (hk a);rw[←h1] at hr
    by_cases ha:a=k
    · subst ha
      have:r=true:=hiff.2 rfl
      subst this;exact .inr ⟨0,v,e,by simp[get],by simp[Instr.findNow,hr,h2],rfl,h1,by simp[put],by simp[del],by simp⟩
    · have:r=false:=by
        cases r with
        | false=>rfl
        | true=>exact absurd (inj (hiff.1 rfl)).symm ha
      subst this;rcases findNow_list hk inj k es l (i+1) h3 with ⟨g1,g2⟩|⟨j,v',e',g1,g2,g3,g4,g5,g6,g7⟩
      · exact .inl ⟨by simp[get,ha,g1],by simp[Instr.findNow,hr,g2]⟩
      · exact .inr ⟨j+1,v',e',by simp[get,ha,g1],by simp[Instr.findNow,hr,g2];omega,by simpa using g3,g4,by simp[put,ha,g5],by simp[del,ha,g6],by simp;omega⟩
theorem put_none (l:List (K×V)) (k:K) (v:V) (h:get l k=none):put l k v=l ++ [(k,v)]:=by
  induction l with
  | nil=>rfl
  | cons p r ih=>
    obtain⟨a,u⟩:=p
    by_cases ha:a=k
    · simp[get,ha] at h
    · simp[get,ha] at h;simp[put,ha,ih h]
theorem del_none (l:List (K×V)) (k:K) (h:get l k=none):del l k=l:=by
  induction l with
  | nil=>rfl
  | cons p r ih=>
    obtain⟨a,u⟩:=p
    by_cases ha:a=k
    · simp[get,ha] at h
    · simp[get,ha] at h;simp[del,ha,ih h]
theorem get_mem {l:List (K×V)} {a:K} (h:get l a=none):∀ p∈l,p.1≠a:=by
  induction l with
  | nil=>simp
  | cons q r ih=>
    obtain⟨c,u⟩:=q
    by_cases hc:c=a
    · simp[get,hc] at h
    · simp only[get,hc,↓reduceIte] at h
      intro p hp;rcases List.mem_cons.1 hp with rfl|hp
      · exact hc
      · exact ih h p hp
theorem fresh_key {kap:K→Value} {nu:V→Value} (inj:∀ {a b},kap a=kap b→a=b) {es:Array MapEntry} {l:List (K×V)} {a:K}
    (hl:es.toList.map (fun e=>(e.key,e.val))=l.map (fun p=>(kap p.1,nu p.2))) (h:get l a=none):∀ x∈es.toList,x.key≠kap a:=by
  intro x hx hk
  have:(x.key,x.val)∈l.map (fun p=>(kap p.1,nu p.2)):=hl▸List.mem_map.2 ⟨x,hx,rfl⟩
  obtain⟨p,hp,e⟩:=List.mem_map.1 this;simp only[Prod.mk.injEq] at e;exact get_mem h p hp (inj (e.1.trans hk))
section
variable {P:Program} {t k e:TypeId} {kap:K→Value} {nu:V→Value} {w:World} {b:Nat} {l:List (K×V)}
theorem run_lookup2 (E:Emb P k kap) (ht:P.underlying t=some (.map k e)) (h:MapAt w b kap nu l) {z:Value} (hz:(zeroValue e).run P w = .ok z w) (a:K) :
    (Instr.lookup t (.map (some b)) (kap a) true).run P w = .ok (.tuple #[((get l a).map nu).getD z,.bool (get l a).isSome]) w:=by
  obtain⟨es,c,hb,hl,hst⟩:=h;obtain⟨d,hd,hk⟩:=E.kind;rcases findNow_list hk E.inj a es.toList l 0 hl with ⟨g1,g2⟩|⟨j,v,e',g1,g2,_⟩
  · simp[Instr.lookup,run_underlying ht,MapKept.run_getObj_map hb,run_checkKey hd (hk a),run_findKey hd g2,g1,hz,Result.andThen]
  · simp[Instr.lookup,run_underlying ht,MapKept.run_getObj_map hb,run_checkKey hd (hk a),run_findKey hd g2,g1,Result.andThen]
theorem run_lookup1 (E:Emb P k kap) (ht:P.underlying t=some (.map k e)) (h:MapAt w b kap nu l) {z:Value} (hz:(zeroValue e).run P w = .ok z w) (a:K) :
    (Instr.lookup t (.map (some b)) (kap a) false).run P w = .ok (((get l a).map nu).getD z) w:=by
  obtain⟨es,c,hb,hl,hst⟩:=h;obtain⟨d,hd,hk⟩:=E.kind;rcases findNow_list hk E.inj a es.toList l 0 hl with ⟨g1,g2⟩|⟨j,v,e',g1,g2,_⟩
  · simp[Instr.lookup,run_underlying ht,MapKept.run_getObj_map hb,run_checkKey hd (hk a),run_findKey hd g2,g1,hz,Result.andThen]
  · simp[Instr.lookup,run_underlying ht,MapKept.run_getObj_map hb,run_checkKey hd (hk a),run_findKey hd g2,g1,Result.andThen]
theorem putObj_grown (w:World) (b:Nat) (o:Obj):w.grownBy (w.putObj b o) (some b):=⟨rfl,rfl,rfl,by simp,fun k _ hk=>World.putObj_heap_other (fun q=>hk (by rw[q]))⟩
theorem run_update (E:Emb P k kap) (ht:P.underlying t=some (.map k e)) (h:MapAt w b kap nu l) (a:K) (v:V) :
    ∃ o,(Instr.mapUpdate t (.map (some b)) (kap a) (nu v)).run P w = .ok () (w.putObj b o)∧MapAt (w.putObj b o) b kap nu (put l a v):=by
  obtain⟨es,c,hb,hl,hst⟩:=h;obtain⟨d,hd,hk⟩:=E.kind;have hlt:=(Array.getElem?_eq_some_iff.1 hb).1;rcases findNow_list hk E.inj a es.toList l 0 hl with ⟨g1,g2⟩|⟨j,v',e',g1,g2,g3,g4,g5,g6,g7⟩
  · refine⟨.map (es.push ⟨kap a,nu v,c⟩) (c+1),?_,?_⟩
    · simp[Instr.mapUpdate,run_underlying ht,MapKept.run_getObj_map hb,run_checkKey hd (hk a),run_findKey hd g2,run_setObj_map _ hb,Result.andThen,World.putObj]
    · exact⟨_,_,World.putObj_heap_same hlt,by rw[put_none _ _ _ g1];simp[hl],stamped_push hst (fresh_key E.inj hl g1)⟩
  · have hj:es[j]? = some e':=by simpa using g3
    refine⟨.map (es.modify j (fun q=>{ q with key:=kap a,val:=nu v })) c,?_,?_⟩
    · simp only[Nat.zero_add] at g2
      simp[Instr.mapUpdate,run_underlying ht,MapKept.run_getObj_map hb,run_checkKey hd (hk a),run_findKey hd g2,hj,g4,run_keyThatStays (hk a),run_setObj_map _ hb,Result.andThen,World.putObj]
    · refine⟨_,_,World.putObj_heap_same hlt,?_,stamped_modify hst _ _ (fun _ _=>rfl) (fun x _ hx=>by rw[hj] at hx;cases hx;exact g4.symm)⟩
      rw[g5,Array.toList_modify,ChangeMaps.modify_eq_set _ _ _ _ g3,List.map_set,List.map_set,hl]
theorem run_delete {ty:TypeId} (E:Emb P k kap) (ht:P.underlying t=some (.map k e)) (h:MapAt w b kap nu l) (a:K) :
    ∃ o,(Builtin.delete_ #[t,k] ty #[.map (some b),kap a]).run P w = .ok (.tuple #[]) (w.putObj b o)∧MapAt (w.putObj b o) b kap nu (del l a):=by
  obtain⟨es,c,hb,hl,hst⟩:=h;obtain⟨d,hd,hk⟩:=E.kind;have hlt:=(Array.getElem?_eq_some_iff.1 hb).1;rcases findNow_list hk E.inj a es.toList l 0 hl with ⟨g1,g2⟩|⟨j,v',e',g1,g2,g3,g4,g5,g6,g7⟩
  · refine⟨.map es c,?_,?_⟩
    · simp[Builtin.delete_,run_underlying ht,MapKept.run_getObj_map hb,run_checkKey hd (hk a),run_findKey hd g2,run_setObj_map _ hb,Result.andThen,World.putObj]
    · exact⟨_,_,World.putObj_heap_same hlt,by rw[del_none _ _ g1];exact hl,hst⟩
  · refine⟨.map (es.eraseIdxIfInBounds j) c,?_,?_⟩
    · simp only[Nat.zero_add] at g2
      simp[Builtin.delete_,run_underlying ht,MapKept.run_getObj_map hb,run_checkKey hd (hk a),run_findKey hd g2,run_setObj_map _ hb,Result.andThen,World.putObj]
    · refine⟨_,_,World.putObj_heap_same hlt,?_,stamped_erase hst _⟩
      have hjl:j<es.size:=by have:=(List.getElem?_eq_some_iff.1 g3).1;simpa using this
      rw[g6];simp only[Array.eraseIdxIfInBounds,hjl,↓reduceDIte,Array.toList_eraseIdx];rw[ChangeMaps.map_eraseIdx,ChangeMaps.map_eraseIdx,hl]
end
theorem int_emb {P:Program} {k:TypeId} {q:IntKind} (hk:P.underlying k=some (.int q)):Emb P k (fun n:Int=>Value.int q n):=⟨⟨_,hk,fun _=>by simp[IsKey]⟩,fun h=>by simpa using h⟩
theorem str_emb {P:Program} {k:TypeId} (hk:P.underlying k=some .string):Emb P k (fun s:ByteArray=>Value.string s):=⟨⟨_,hk,fun _=>by simp[IsKey]⟩,fun h=>by simpa using h⟩
end Go.Mp
namespace Go.Proofs.YtoaimoemaoinhaaGreatDoor
open Go.RowKit Go.Rt Go.Rw Go.Mp
def strK (s:ByteArray):Value:=.string s
def ptrV (c:Nat):Value:=.pointer (some ⟨c,0,none⟩)
def numV (n:Int):Value:=.int .i64 n
def pC (nm:ByteArray) (gen:Int) (ck:ByteArray) (ch di mc mo ml:Nat):Array Value:=#[.string nm,.int .i64 gen,.string ck,.int .u64 (ch:Int),.int .u64 (di:Int),.map (some mc),.map (some mo),.map (some ml)]
theorem und75 : Tryz.prog.underlying 54=some (.map 9 86):=by kernel_rfl
theorem und76 : Tryz.prog.underlying 55=some (.map 9 28):=by kernel_rfl
theorem und77 : Tryz.prog.underlying 56=some (.map 9 2):=by kernel_rfl
theorem und45 : Tryz.prog.underlying 28=some (.slice 9):=by kernel_rfl
theorem undS : Tryz.prog.underlying 9=some .string:=by kernel_rfl
structure PM (w:World) (g mc mo ml:Nat) (nm:ByteArray) (gen:Int) (ck:ByteArray) (ch di:Nat) (C:List (ByteArray×Nat)) (O:List (ByteArray×Value)) (L:List (ByteArray×Int)):Prop where
 blk:Blk w g 58 (pC nm gen ck ch di mc mo ml)
 cm:MapAt w mc strK ptrV C
 om:MapAt w mo strK id O
 lm:MapAt w ml strK numV L
 sep:g≠mc∧g≠mo∧g≠ml∧mc≠mo∧mc≠ml∧mo≠ml
theorem map_nil (W:World):(binOp .eql 54 (.map none) (.map none)).run Tryz.prog W = .ok (.bool true) W:=by kernel_rfl
theorem map_some (m:Nat) (W:World):(binOp .eql 54 (.map (some m)) (.map none)).run Tryz.prog W = .ok (.bool false) W:=by kernel_rfl
section
variable {w w':World} {g mc mo ml:Nat} {nm:ByteArray} {gen:Int} {ck:ByteArray} {ch di:Nat} {C:List (ByteArray×Nat)} {O:List (ByteArray×Value)} {L:List (ByteArray×Int)}
theorem PM.below (h:PM w g mc mo ml nm gen ck ch di C O L) (b:Below w.heap.size w w'):PM w' g mc mo ml nm gen ck ch di C O L:=
 ⟨h.blk.below b h.blk.lt,h.cm.of_heap (b.block _ h.cm.lt),h.om.of_heap (b.block _ h.om.lt),h.lm.of_heap (b.block _ h.lm.lt),h.sep⟩
theorem PM.only {bs:List Nat} (h:PM w g mc mo ml nm gen ck ch di C O L) (b:Only bs w w') (hg:g∉bs) (h1:mc∉bs) (h2:mo∉bs) (h3:ml∉bs):PM w' g mc mo ml nm gen ck ch di C O L:=
 ⟨h.blk.only b hg,h.cm.of_heap (b.block _ h.cm.lt h1),h.om.of_heap (b.block _ h.om.lt h2),h.lm.of_heap (b.block _ h.lm.lt h3),h.sep⟩
end
set_option maxHeartbeats 4000000 in
theorem none_no (g m:Nat) (w:World) (hc:w.cell? ⟨g,5,none⟩=some (.map (some m))):Calls Tryz.prog 30 #[.pointer (some ⟨g,0,none⟩)] w fun e w'=>e = .returned (.bool false)∧w'=w:=by
 have hmm:=map_some m;go_enter Tryz.func30,Tryz.ntmps30;go_wp2_with fail;go_ret;exact⟨rfl,rfl⟩
set_option maxHeartbeats 4000000 in
theorem other_any (g:Nat) (nm node:ByteArray) (w:World) (h0:w.cell? ⟨g,0,none⟩=some (.string nm)):Calls Tryz.prog 31 #[.pointer (some ⟨g,0,none⟩),.string node] w fun e w'=>e = .returned (.bool (nameF node && !(node.toList==nm.toList)))∧Below w.heap.size w w':=by
 have C:=qH (fun W=>nameV_any node W);have hlt:=World.block_lt_of_cell? _ _ h0;dsimp only at hlt;obtain⟨r,hr⟩:∃ r,r=nameF node:=⟨_,rfl⟩;rw[←hr] at C ⊢;clear hr;cases r with
 | false=>
  rw[Bool.false_and];go_enter Tryz.func31,Tryz.ntmps31;go_wp2_with fail;refine(C.out _).mono ?_;rintro e w1 ⟨rfl,b1⟩;have B1:=qH b1;clear b1 h0;go_wp2_with fail;go_ret;exact⟨rfl,B1.out⟩
 | true=>
  rw[Bool.true_and];obtain⟨q,hq⟩:∃ q,q=(node.toList==nm.toList):=⟨_,rfl⟩;rw[←hq];have hq2:=hq.symm;clear hq;go_enter Tryz.func31,Tryz.ntmps31;go_wp2_with fail;refine(C.out _).mono ?_;rintro e w1 ⟨rfl,b1⟩;have B1:=qH b1;have k0:=(b1.cell (p:=⟨g,0,none⟩) hlt).trans h0;clear b1 h0;cases q with
  | true=>
   go_wp2_with fail;go_ret;exact⟨rfl,B1.out⟩
  | false=>
   go_wp2_with fail;go_ret;exact⟨rfl,B1.out⟩
set_option maxHeartbeats 4000000 in
theorem next_any (g:Nat) (nm:ByteArray) (gen:Int) (ck:ByteArray) (ch di mc mo ml:Nat) (hch:ch+1<18446744073709551616) (w:World) (h:Blk w g 58 (pC nm gen ck ch di mc mo ml)) :
  Calls Tryz.prog 33 #[.pointer (some ⟨g,0,none⟩)] w fun e w'=>e = .returned (.int .u64 (ch:Int))∧w'=w.setCell ⟨g,3,none⟩ (.int .u64 ((ch+1:Nat):Int)):=by
 have c3:w.cell? ⟨g,3,none⟩=some (.int .u64 (ch:Int)):=h.cell 3;have f3:=h.frozen 3;go_enter Tryz.func33,Tryz.ntmps33;go_wp2_with fail;go_ret;exact⟨rfl,rfl⟩
def newOk (node:ByteArray) (gen:Int):Bool:=nameF node&&Sk.genI gen
set_option maxHeartbeats 4000000 in
theorem pnew_yes (node:ByteArray) (gen:Int) (ck:ByteArray) (seed:Nat) (hok:newOk node gen=true) (w:World) :
  Calls Tryz.prog 28 #[.string node,.int .i64 gen,.string ck,.int .u64 (seed:Int)] w fun e w'=>∃ g mc mo ml,e = .returned (.tuple #[.pointer (some ⟨g,0,none⟩),.int .i64 0])∧w.heap.size≤g∧w.heap.size≤mc∧w.heap.size≤mo∧w.heap.size≤ml∧PM w' g mc mo ml node gen ck seed 0 [] [] []∧Below w.heap.size w w':=by
 have hmm:=@run_makeMap Tryz.prog;have C:=qH (fun W=>nameV_any node W);unfold newOk Sk.genI at hok;simp only[Bool.and_eq_true,decide_eq_true_eq] at hok;obtain⟨h1,h2,h3⟩:=hok;rw[h1] at C;clear h1;go_enter Tryz.func28,Tryz.ntmps28;go_wp2_with fail;refine(C.out w).mono ?_;rintro e w1 ⟨rfl,b1⟩;have B1:=qH b1;clear b1;go_wp2_with fail;go_ret2;have e1:=MapAt.new w1 strK ptrV;have e2:=MapAt.new (w1.alloc (.map #[] 0)) strK (id:Value→Value)
 have e3:=MapAt.new ((w1.alloc (.map #[] 0)).alloc (.map #[] 0)) strK numV;simp only[World.size_alloc] at e2 e3;have hs:=B1.out.size;refine⟨w1.heap.size+3,w1.heap.size,w1.heap.size+1,w1.heap.size+2,rfl,by omega,by omega,by omega,by omega,⟨?_,?_,?_,?_,by omega⟩,?_⟩
 ·
  have:=Blk.new (((w1.alloc (.map #[] 0)).alloc (.map #[] 0)).alloc (.map #[] 0)) 58 (pC node gen ck seed 0 w1.heap.size (w1.heap.size+1) (w1.heap.size+2))
  simp only[World.size_alloc] at this;exact this
 ·
  exact((e1.of_heap (Below.heap_alloc _ _ _ (by simp))).of_heap (Below.heap_alloc _ _ _ (by simp;omega))).of_heap (Below.heap_alloc _ _ _ (by simp;omega))
 ·
  exact(e2.of_heap (Below.heap_alloc _ _ _ (by simp))).of_heap (Below.heap_alloc _ _ _ (by simp))
 ·
  exact e3.of_heap (Below.heap_alloc _ _ _ (by simp))
 ·
  exact B1.out.trans (((((Below.refl _ w1).alloc (Nat.le_refl _) _).alloc (by simp) _).alloc (by simp;omega) _).alloc (by simp;omega) _ |>.mono hs)
end Go.Proofs.YtoaimoemaoinhaaGreatDoor
namespace Go.Proofs.YtoaimoemaoinhaaGreatDoor
open Go.RowKit Go.Rt Go.Rw Go.Mp
theorem zero45 (w:World):(zeroValue 28).run Tryz.prog w = .ok (.slice none 0 0) w:=by kernel_rfl
theorem zero80 (w:World):(zeroValue 86).run Tryz.prog w = .ok (.pointer none) w:=by kernel_rfl
def outV (O:List (ByteArray×Value)) (node:ByteArray):Value:=(get O node).getD (.slice none 0 0)
theorem look_out {w:World} {mo:Nat} {O:List (ByteArray×Value)} (h:MapAt w mo strK id O) (node:ByteArray):(Instr.lookup 55 (.map (some mo)) (.string node) false).run Tryz.prog w = .ok (outV O node) w:=by
 have:=run_lookup1 (str_emb undS) und76 h (zero45 w) node
 unfold outV;cases hg:get O node<;>simp[hg] at this ⊢<;>exact this
def conV (C:List (ByteArray×Nat)) (node:ByteArray):Value:=match get C node with|none=>.pointer none|some c=>ptrV c
theorem look_con {w:World} {mc:Nat} {C:List (ByteArray×Nat)} (h:MapAt w mc strK ptrV C) (node:ByteArray):(Instr.lookup 54 (.map (some mc)) (.string node) false).run Tryz.prog w = .ok (conV C node) w:=by
 have:=run_lookup1 (str_emb undS) und75 h (zero80 w) node
 unfold conV;cases hg:get C node<;>simp[hg] at this ⊢<;>exact this
set_option maxHeartbeats 4000000 in
theorem out_any {w:World} {g mc mo ml:Nat} {nm:ByteArray} {gen:Int} {ck:ByteArray} {ch di:Nat} {C:List (ByteArray×Nat)} {O:List (ByteArray×Value)} {L:List (ByteArray×Int)} (h:PM w g mc mo ml nm gen ck ch di C O L) (node:ByteArray) :
  Calls Tryz.prog 21 #[.pointer (some ⟨g,0,none⟩),.string node] w fun e w'=>e = .returned (outV O node)∧PM w' g mc mo ml nm gen ck ch di C (del O node) L∧Only [mo] w w':=by
 have H:=qH h;have c5:w.cell? ⟨g,5,none⟩=some (.map (some mc)):=h.blk.cell 5;have c6:w.cell? ⟨g,6,none⟩=some (.map (some mo)):=h.blk.cell 6;have hl:=look_out h.om node;obtain⟨o,hd,hm⟩:=run_delete (ty:=0) (str_emb undS) und76 h.om node;have HD:Hid ((Builtin.delete_ #[55,9] 0 #[.map (some mo),.string node]).run Tryz.prog w = .ok (.tuple #[]) (w.putObj mo o)):=qH hd;have HM:=qH hm;obtain⟨V,hV⟩:∃ q,q=outV O node:=⟨_,rfl⟩
 rw[←hV] at hl ⊢;have CN:=qH (none_no g mc w c5);clear h hd hm hV;go_enter Tryz.func21,Tryz.ntmps21;go_wp2_with fail;refine CN.out.mono ?_;rintro e w1 ⟨rfl,rfl⟩;have hd:=HD.out;go_wp2_with fail;go_ret;exact⟨rfl,⟨H.out.blk.only (Only.putObj (bs:=[mo]) w1 mo o (by simp)) (by have:=H.out.sep;simp;omega),H.out.cm.of_heap ((Only.putObj (bs:=[mo]) w1 mo o (by simp)).block _ H.out.cm.lt (by have:=H.out.sep;simp;omega)),HM.out,H.out.lm.of_heap ((Only.putObj (bs:=[mo]) w1 mo o (by simp)).block _ H.out.lm.lt (by have:=H.out.sep;simp;omega)),H.out.sep⟩,Only.putObj (bs:=[mo]) w1 mo o (by simp)⟩
def pkF (dials:Bool) (num:Nat) (kind:UInt8) (contents:ByteArray):ByteArray:=⟨#[if dials then 68 else 76]⟩++Sk.numF num 8++⟨#[kind]⟩++contents
def pkRow (d:Int) (k:Int) (n m:Nat) (j:Nat):Value:=if j=0 then .int .u8 d else if j=9 then .int .u8 k else Sk.rowN n 8 m (j-1)
def pkH (d:UInt8) (num:Nat) (kind:UInt8):ByteArray:=⟨#[d]⟩++Sk.numF num 8++⟨#[kind]⟩
theorem pk_size (d:UInt8) (num:Nat) (kind:UInt8):(pkH d num kind).size=10:=by
 unfold pkH;rw[ByteArray.size_append,ByteArray.size_append,Sk.numF_size];rfl
theorem pk_conv {d:UInt8} {num:Nat} {kind:UInt8} {g:Nat} {W:World} (r:W.rowIs g 5 10 (pkRow (d.toNat:Int) (kind.toNat:Int) num 8)):(convert 124 9 (.slice (some ⟨g,0,none⟩) 10 10)).run Tryz.prog W = .ok (.string (pkH d num kind)) W:=by
 have hlen:(Sk.numL num 8).length=8:=by simp[Sk.numL]
 have q:=run_convert_bytes_back (P:=Tryz.prog) W 124 9 5 ⟨g,0,none⟩ 10 (d::((Sk.numL num 8).map UInt8.ofNat ++ [kind])) Sk.und29 Sk.und5 Sk.und9 ?_
 ·
  have e:(⟨(d::((Sk.numL num 8).map UInt8.ofNat ++ [kind])).toArray⟩:ByteArray)=pkH d num kind:=by
   unfold pkH Sk.numF;apply ByteArray.ext
   simp
  have hl:(d::((Sk.numL num 8).map UInt8.ofNat ++ [kind])).length=10:=by simp[hlen]
  rw[hl,e] at q;exact q
 ·
  intro j hj;have hl:(d::((Sk.numL num 8).map UInt8.ofNat ++ [kind])).length=10:=by simp[hlen]
  have hj10:j<10:=by omega
  have e:(⟨g,0,none⟩:Addr).add j=⟨g,j,none⟩:=by unfold Addr.add;split<;>simp_all
  rw[e,r.cell hj10];unfold pkRow
  by_cases h0:j=0
  ·
   subst h0;rfl
  ·
   by_cases h9:j=9
   ·
    subst h9;rw[if_neg h0,if_pos rfl];simp[hlen]
   ·
    rw[if_neg h0,if_neg h9];obtain⟨i,rfl⟩:∃ i,j=i+1:=⟨j-1,by omega⟩;have hi:i<8:=by omega
    have e2:(d::((Sk.numL num 8).map UInt8.ofNat ++ [kind]))[i+1]'hj=UInt8.ofNat (num / 2 ^ (8*(8-1-i)) % 256):=by
     rw[List.getElem_cons_succ,List.getElem_append_left (by simp[hlen];omega)];simp[Sk.numL]
    rw[e2,UInt8.toNat_ofNat',Nat.mod_eq_of_lt (Nat.mod_lt _ (by omega))];unfold Sk.rowN;rw[if_pos (by omega),Int.natCast_emod,Int.natCast_ediv,Int.natCast_pow];rfl
theorem pk_next (d k:Int) (n m j:Nat) (hm:m<8) (hj:j<10):(if j=8-m then Value.int .u8 ((n:Int) / 2 ^ (8*m) % 256) else pkRow d k n m j)=pkRow d k n (m+1) j:=by
 unfold pkRow
 by_cases h0:j=0
 ·
  rw[if_pos h0,if_pos h0,if_neg (by omega)]
 ·
  rw[if_neg h0,if_neg h0]
  by_cases h9:j=9
  ·
   rw[if_pos h9,if_pos h9,if_neg (by omega)]
  ·
   rw[if_neg h9,if_neg h9,←Sk.rowN_next n 8 m (j-1) hm (by omega)]
   by_cases e:j=8-m
   ·
    rw[if_pos e,if_pos (by omega)]
   ·
    rw[if_neg e,if_neg (by omega)]
set_option maxHeartbeats 4000000 in
theorem pbytes_any (dials:Bool) (num:Nat) (kind:UInt8) (contents:ByteArray) (hc:contents.size≤1000000000) (w:World) :
  Calls Tryz.prog 127 #[.agg #[.bool dials,.int .u64 (num:Int),.int .u8 (kind.toNat:Int),.string contents]] w fun e w'=>e = .returned (.string (pkF dials num kind contents))∧Below w.heap.size w w':=by
 obtain⟨RV,hRV⟩:∃ q,q=pkF dials num kind contents:=⟨_,rfl⟩;rw[←hRV];have HRV:=qH hRV;clear hRV;obtain⟨m,hm⟩:∃ q,q=w.heap.size:=⟨_,rfl⟩;have HM:=qH hm;have X:=qH (Blk.new w 104 #[.bool dials,.int .u64 (num:Int),.int .u8 (kind.toNat:Int),.string contents]);have B:=qH ((Below.refl w.heap.size w).alloc (Nat.le_refl _) (.cells #[.bool dials,.int .u64 (num:Int),.int .u8 (kind.toNat:Int),.string contents] 104))
 rw[←hm] at X B;go_enter Tryz.func127,Tryz.ntmps127;go_upto_region 1 with fail
 rw[←hm];generalize w.alloc (.cells #[.bool dials,.int .u64 (num:Int),.int .u8 (kind.toNat:Int),.string contents] 104)=w1 at X B ⊢;clear hm;have hmk:=run_make_row' (P:=Tryz.prog) 124 5 (.int .u8 0) 1 Sk.und29 Sk.info5b rfl .i64 .i64 10 (by omega) (by omega) w1;replace hmk:(Instr.makeSlice 124 (.int .i64 10) (.int .i64 10)).run Tryz.prog w1 = .ok (.slice (some ⟨w1.heap.size,0,none⟩) 10 10) (w1.alloc (.cells (madeCells #[.int .u8 0] 10) 5)):=hmk
 have r0:=qH (World.rowIs_made w1 (.int .u8 0) 10 5);have hl1:=X.out.lt;obtain⟨b,hb⟩:∃ q,q=w1.heap.size:=⟨_,rfl⟩;have HBB:=qH hb;replace X:=qH (X.out.alloc (.cells (madeCells #[.int .u8 0] 10) 5));replace B:=qH (B.out.alloc (by have:=B.out.size;have:=HM.out;omega) (.cells (madeCells #[.int .u8 0] 10) 5));rw[←hb] at hmk r0 hl1;go_upto_region 2 with fail
 try rw[←hb]
 generalize w1.alloc (.cells (madeCells #[.int .u8 0] 10) 5)=w2 at X B r0 hmk ⊢;clear hmk hb;refine wp_region_held_drew (S:=(fun w'=>w'.cell? ⟨m,2,none⟩=some (.int .u8 (kind.toNat:Int)))) (by kernel_rfl) (X.out.cell 2) (fun hS=>?_);have X2:=qH X.out.drew;have B2:=qH B.out.drew;have R2:Hid (w2.drew.rowIs b 5 10 (fun _=>.int .u8 0)):=r0;clear X B r0;generalize w2.drew=wd at *;refine tl 0 6 (v:=?_) rfl ?_ ?_
 rotate_left
 ·
  intro w hSw;go_simp
  with_reducible rfl
 simp only[PU];refine tl 1 7 (v:=?_) rfl ?_ ?_;rotate_left
 ·
  intro w hSw;go_simp
  with_reducible rfl
 simp only[PU];refine tl 2 8 (v:=?_) rfl ?_ ?_;rotate_left
 ·
  intro w hSw;go_simp
  with_reducible rfl
 simp only[PU];refine tl 3 9 (v:=?_) rfl ?_ ?_;rotate_left
 ·
  intro w hSw;go_simp
  with_reducible rfl
 simp only[PU];refine tl 4 10 (v:=?_) rfl ?_ ?_;rotate_left
 ·
  intro w hSw;go_simp
  with_reducible rfl
 simp only[PU];refine wpAnyH_ready (rs:=[5]) (by kernel_rfl) (by simp) ?_;refine AllReadyH.cons rfl (fun K hK=>?_) AllReadyH.nil;have rc:=R2.out.cell (i:=0) (by omega);have rf:=R2.out.frozen 0;go_simp;have R3:=qH (R2.out.set 0 (.int .u8 76));have X3:=qH (X2.out.far (p:=⟨b,0,none⟩) (by show m≠b;omega) (.int .u8 76));have B3:=qH (B2.out.setCell (p:=⟨b,0,none⟩) (by show m≤b;omega) (.int .u8 76));clear R2 X2 B2 rc rf
 generalize wd.setCell ⟨b,0,none⟩ (.int .u8 76)=w3 at *;refine hK.out _ _ (X3.out.cell 2) (fun hS=>?_);clear hK K
 try simp only[PU]
 refine tl 6 11 (v:=?_) rfl ?_ ?_;rotate_left
 ·
  intro w hSw;go_simp
  with_reducible rfl
 simp only[PU];refine wpAnyH_ready (rs:=[7]) (by kernel_rfl) (by simp) ?_;refine AllReadyH.cons rfl (fun K hK=>?_) AllReadyH.nil;have rc:=R3.out.cell (i:=9) (by omega);have rf:=R3.out.frozen 9;go_simp;have R4:=qH (R3.out.set 9 (.int .u8 (kind.toNat:Int)));have X4:=qH (X3.out.far (p:=⟨b,9,none⟩) (by show m≠b;omega) (.int .u8 (kind.toNat:Int)));have B4:=qH (B3.out.setCell (p:=⟨b,9,none⟩) (by show m≤b;omega) (.int .u8 (kind.toNat:Int)))
 clear R3 X3 B3 rc rf;generalize w3.setCell ⟨b,9,none⟩ (.int .u8 (kind.toNat:Int))=w4 at *;refine hK.out _ _ (X4.out.cell 2) (fun hS=>?_);clear hK K
 try simp only[PU]
 refine wpAnyH_done (by kernel_rfl) ?_ _;clear hS;have R5:=qH (R4.out.congr (g:=pkRow 76 (kind.toNat:Int) num 0) (fun j hj=>by
  unfold pkRow Sk.rowN
  by_cases h0:j=0
  ·
   simp[h0]
  ·
   by_cases h9:j=9
   ·
    simp[h9]
   ·
    simp[h0,h9]))
 clear R4;have c0:w4.cell? ⟨m,0,none⟩=some (.bool dials):=X4.out.cell 0;cases dials with
 | false=>
  have R6:=R5;have X6:=X4;have B6:=B4;clear R5 X4 B4;go_upto_region 5 with fail
  clear c0;go_wp2_with fail;go_loopw [16] (fun i wr=>∃ q:Nat,q≤8∧i = .int .i64 q∧Hid (wr.rowIs b 5 10 (pkRow 76 (kind.toNat:Int) num q))∧Hid (Blk wr m 104 #[.bool false,.int .u64 (num:Int),.int .u8 (kind.toNat:Int),.string contents])∧Hid (Below m w wr)) (fun i _=>8-(intOf i).toNat)
  case atStart=>exact⟨0,Nat.zero_le _,rfl,R6,X6,B6⟩
  case round=>
   obtain⟨q,hq,rfl,R7,X7,B7⟩:=hrel;clear R6 X6 B6
   by_cases hlt:q<8
   ·
    have rc:=R7.out.cell (i:=8-q) (by omega);have rf:=R7.out.frozen (8-q);have c1:wr.cell? ⟨m,1,none⟩=some (.int .u64 (num:Int)):=X7.out.cell 1;have hw1:IntKind.i64.wrap ((8:Int)-q)=((8-q:Nat):Int):=by rw[IntKind.wrap_i64]<;>omega
    have R8:=qH ((R7.out.set (8-q) (.int .u8 ((num:Int) / 2 ^ (8*q) % 256))).congr (fun j hj=>pk_next 76 (kind.toNat:Int) num q j hlt hj));have X8:=qH (X7.out.far (p:=⟨b,8-q,none⟩) (by show m≠b;omega) (.int .u8 ((num:Int) / 2 ^ (8*q) % 256)));have B8:=qH (B7.out.setCell (p:=⟨b,8-q,none⟩) (by show m≤b;omega) (.int .u8 ((num:Int) / 2 ^ (8*q) % 256)));clear R7 X7 B7;go_wp2_with fail;go_roundw
    case rel=>exact⟨q+1,by omega,by go_num,R8,X8,B8⟩
    case measure=>simp[intOf];omega
   ·
    obtain rfl:q=8:=by omega
    have hcv:=pk_conv (g:=b) (d:=76) R7.out;have c3:wr.cell? ⟨m,3,none⟩=some (.string contents):=X7.out.cell 3;have hsz:=pk_size 76 num kind;obtain⟨PH,hPH⟩:∃ q,q=pkH 76 num kind:=⟨_,rfl⟩;obtain rfl:RV=PH++contents:=by rw[HRV.out,hPH];rfl
    rw[←hPH] at hcv hsz;clear hPH R7 X7 hlt hq HRV;go_wp2_with (refine wpList_conv_run rfl 124 9 _ rfl rfl hcv ?_);go_ret;exact⟨rfl,by rw[←HM.out];exact B7.out⟩
 | true=>
  have rc:=R5.out.cell (i:=0) (by omega);have rf:=R5.out.frozen 0;have R6:=qH ((R5.out.set 0 (.int .u8 68)).congr (g:=pkRow 68 (kind.toNat:Int) num 0) (fun j hj=>by
   unfold pkRow
   by_cases h0:j=0
   ·
    simp[h0]
   ·
    simp[h0]))
  have X6:=qH (X4.out.far (p:=⟨b,0,none⟩) (by show m≠b;omega) (.int .u8 68));have B6:=qH (B4.out.setCell (p:=⟨b,0,none⟩) (by show m≤b;omega) (.int .u8 68));clear R5 X4 B4;go_upto_region 5 with fail
  clear rc rf c0;generalize w4.setCell ⟨b,0,none⟩ (.int .u8 68)=w5 at *;go_wp2_with fail;go_loopw [16] (fun i wr=>∃ q:Nat,q≤8∧i = .int .i64 q∧Hid (wr.rowIs b 5 10 (pkRow 68 (kind.toNat:Int) num q))∧Hid (Blk wr m 104 #[.bool true,.int .u64 (num:Int),.int .u8 (kind.toNat:Int),.string contents])∧Hid (Below m w wr)) (fun i _=>8-(intOf i).toNat)
  case atStart=>exact⟨0,Nat.zero_le _,rfl,R6,X6,B6⟩
  case round=>
   obtain⟨q,hq,rfl,R7,X7,B7⟩:=hrel;clear R6 X6 B6
   by_cases hlt:q<8
   ·
    have rc:=R7.out.cell (i:=8-q) (by omega);have rf:=R7.out.frozen (8-q);have c1:wr.cell? ⟨m,1,none⟩=some (.int .u64 (num:Int)):=X7.out.cell 1;have hw1:IntKind.i64.wrap ((8:Int)-q)=((8-q:Nat):Int):=by rw[IntKind.wrap_i64]<;>omega
    have R8:=qH ((R7.out.set (8-q) (.int .u8 ((num:Int) / 2 ^ (8*q) % 256))).congr (fun j hj=>pk_next 68 (kind.toNat:Int) num q j hlt hj));have X8:=qH (X7.out.far (p:=⟨b,8-q,none⟩) (by show m≠b;omega) (.int .u8 ((num:Int) / 2 ^ (8*q) % 256)));have B8:=qH (B7.out.setCell (p:=⟨b,8-q,none⟩) (by show m≤b;omega) (.int .u8 ((num:Int) / 2 ^ (8*q) % 256)));clear R7 X7 B7;go_wp2_with fail;go_roundw
    case rel=>exact⟨q+1,by omega,by go_num,R8,X8,B8⟩
    case measure=>simp[intOf];omega
   ·
    obtain rfl:q=8:=by omega
    have hcv:=pk_conv (g:=b) (d:=68) R7.out;have c3:wr.cell? ⟨m,3,none⟩=some (.string contents):=X7.out.cell 3;have hsz:=pk_size 68 num kind;obtain⟨PH,hPH⟩:∃ q,q=pkH 68 num kind:=⟨_,rfl⟩;obtain rfl:RV=PH++contents:=by rw[HRV.out,hPH];rfl
    rw[←hPH] at hcv hsz;clear hPH R7 X7 hlt hq HRV;go_wp2_with (refine wpList_conv_run rfl 124 9 _ rfl rfl hcv ?_);go_ret;exact⟨rfl,by rw[←HM.out];exact B7.out⟩
end Go.Proofs.YtoaimoemaoinhaaGreatDoor
namespace Go.Proofs.YtoaimoemaoinhaaGreatDoor
open Go.RowKit Go.Rt Go.Rw Go.Mp
def strC (s:ByteArray):List Value:=[.string s]
theorem info9 : (Tryz.prog.info? 9).map (fun i=>(i.zero,i.size,i.bytes))=some (some (.string ⟨#[]⟩),1,16):=by kernel_rfl
theorem sl_off {w:World} {base:Nat} {v:Value} {l:List ByteArray} (h:Sl w base 9 1 strC v l) {g t:Nat} {cs:Array Value} (hb:Blk w g t cs) (ht:t≠9):∀ q,v.ownBlock=some q→q≠g:=by
 rintro q hq rfl;rcases h.form with ⟨rfl,_⟩|⟨g',cap,rfl,_,_,_,_,cur,hcur,_⟩
 ·
  cases hq
 ·
  obtain rfl:g'=q:=by simpa [Value.ownBlock] using hq
  unfold Blk at hb;rw[hb] at hcur;cases hcur;exact ht rfl
theorem sl_offm {w:World} {base:Nat} {v:Value} {l:List ByteArray} (h:Sl w base 9 1 strC v l) {K V:Type} {kap:K→Value} {nu:V→Value} {m:Nat} {O:List (K×V)} (hb:MapAt w m kap nu O):∀ q,v.ownBlock=some q→q≠m:=by
 rintro q hq rfl;obtain⟨es,c,hm,_⟩:=hb;rcases h.form with ⟨rfl,_⟩|⟨g',cap,rfl,_,_,_,_,cur,hcur,_⟩
 ·
  cases hq
 ·
  obtain rfl:g'=q:=by simpa [Value.ownBlock] using hq
  rw[hm] at hcur;cases hcur
def Sent (w:World) (base g mc mo ml:Nat) (nm:ByteArray) (gen:Int) (ck:ByteArray) (ch di:Nat) (C:List (ByteArray×Nat)) (O:List (ByteArray×Value)) (L:List (ByteArray×Int)) (node:ByteArray) (l:List ByteArray) (w':World):Prop:=
 ∃ v',PM w' g mc mo ml nm gen ck ch di C (put O node v') L∧Sl w' base 9 1 strC v' l∧Only (mo::(outV O node).ownBlock.toList) w w'∧(v'.ownBlock=(outV O node).ownBlock∨∀ q,v'.ownBlock=some q→w.heap.size≤q)
set_option maxHeartbeats 4000000 in
theorem psend_any {w:World} {g mc mo ml:Nat} {nm:ByteArray} {gen:Int} {ck:ByteArray} {ch di:Nat} {C:List (ByteArray×Nat)} {O:List (ByteArray×Value)} {L:List (ByteArray×Int)} (h:PM w g mc mo ml nm gen ck ch di C O L) (base:Nat) (hbs:base≤w.heap.size)
  (node:ByteArray) (dials:Bool) (num:Nat) (kind:UInt8) (contents:ByteArray) (hc:contents.size≤1000000000) (l:List ByteArray) (hS:Sl w base 9 1 strC (outV O node) l) (hl:l.length≤100000000) :
  Calls Tryz.prog 69 #[.pointer (some ⟨g,0,none⟩),.string node,.agg #[.bool dials,.int .u64 (num:Int),.int .u8 (kind.toNat:Int),.string contents]] w fun e w'=>e = .returned (.tuple #[])∧Sent w base g mc mo ml nm gen ck ch di C O L node (l ++ [pkF dials num kind contents]) w':=by
 have HBS:=qH hbs;have CB:=qH (fun(W:World)=>pbytes_any dials num kind contents hc W);obtain⟨PB,hPB⟩:∃ q,q=pkF dials num kind contents:=⟨_,rfl⟩;rw[←hPB] at CB ⊢;clear hPB hbs;obtain⟨V,hV⟩:∃ q,q=outV O node:=⟨_,rfl⟩;have HV:Hid (outV O node=V):=qH hV.symm;rw[←hV] at hS;clear hV;obtain⟨x,hx⟩:∃ q,q=w.heap.size:=⟨_,rfl⟩;have HXM:Hid (mo<x):=qH (by rw[hx];exact h.om.lt);have X:=qH (Blk.new w 104 #[.bool dials,.int .u64 (num:Int),.int .u8 (kind.toNat:Int),.string contents])
 rw[←hx] at X;have H1:=qH (h.below ((Below.refl w.heap.size w).alloc (Nat.le_refl _) (.cells #[.bool dials,.int .u64 (num:Int),.int .u8 (kind.toNat:Int),.string contents] 104)));have S1:=qH (hS.below ((Below.refl w.heap.size w).alloc (Nat.le_refl _) (.cells #[.bool dials,.int .u64 (num:Int),.int .u8 (kind.toNat:Int),.string contents] 104)) (fun q hq=>(hS.lt q hq).2));have O1:=qH (Only.alloc (mo::V.ownBlock.toList) w (.cells #[.bool dials,.int .u64 (num:Int),.int .u8 (kind.toNat:Int),.string contents] 104))
 clear h hS;go_enter Tryz.func69,Tryz.ntmps69;go_upto_region 1 with fail
 rw[←hx];generalize w.alloc (.cells #[.bool dials,.int .u64 (num:Int),.int .u8 (kind.toNat:Int),.string contents] 104)=w1 at X H1 S1 O1 ⊢;clear hx;refine wp_region_held_drew (S:=(fun w'=>Blk w' g 58 (pC nm gen ck ch di mc mo ml)∧Blk w' x 104 #[.bool dials,.int .u64 (num:Int),.int .u8 (kind.toNat:Int),.string contents])) (by kernel_rfl) (⟨H1.out.blk.drew,X.out.drew⟩) (fun hS=>?_);have H:Hid (PM w1.drew g mc mo ml nm gen ck ch di C O L):=qH (H1.out.below (Below.refl _ _).drew)
 replace X:=qH X.out.drew;have S:Hid (Sl w1.drew base 9 1 strC V l):=qH (S1.out.below (Below.refl w1.heap.size w1).drew (fun q hq=>(S1.out.lt q hq).2));have OO:=qH (O1.out.trans (Only.drew _ w1));clear H1 S1 O1;generalize w1.drew=wd at *;refine tl 0 6 (v:=?_) rfl ?_ ?_;rotate_left
 ·
  intro w hSw;go_simp
  with_reducible rfl
 simp only[PU];refine tl 1 7 (v:=?_) rfl ?_ ?_;rotate_left
 ·
  intro w hSw;go_simp
  with_reducible rfl
 simp only[PU];refine tl 2 8 (v:=?_) rfl ?_ ?_;rotate_left
 ·
  intro w hSw;go_simp
  with_reducible rfl
 simp only[PU];refine tl 3 9 (v:=?_) rfl ?_ ?_;rotate_left
 ·
  intro w hSw;have cc:w.cell? ⟨g,6,none⟩=some (.map (some mo)):=hSw.1.cell 6;go_simp
  with_reducible rfl
 simp only[PU];refine tl 4 10 (v:=?_) rfl ?_ ?_;rotate_left
 ·
  intro w hSw;go_simp
  with_reducible rfl
 simp only[PU];refine tl 5 11 (v:=?_) rfl ?_ ?_;rotate_left
 ·
  intro w hSw;go_simp
  with_reducible rfl
 simp only[PU];refine tl 6 12 (v:=?_) rfl ?_ ?_;rotate_left
 ·
  intro w hSw;go_simp
  with_reducible rfl
 simp only[PU];refine tl 7 13 (v:=?_) rfl ?_ ?_;rotate_left
 ·
  intro w hSw;go_simp
  with_reducible rfl
 simp only[PU];refine tl 8 14 (v:=?_) rfl ?_ ?_;rotate_left
 ·
  intro w hSw;have cc:w.cell? ⟨g,6,none⟩=some (.map (some mo)):=hSw.1.cell 6;go_simp
  with_reducible rfl
 simp only[PU];refine tl 9 15 (v:=?_) rfl ?_ ?_;rotate_left
 ·
  intro w hSw;go_simp
  with_reducible rfl
 simp only[PU];refine tl 11 17 (v:=?_) rfl ?_ ?_;rotate_left
 ·
  intro w hSw;have a0:=hSw.2.cell 0;have a1:=hSw.2.cell 1;have a2:=hSw.2.cell 2;have a3:=hSw.2.cell 3;simp only[List.getElem?_toArray,List.getElem?_cons_zero,List.getElem?_cons_succ] at a0 a1 a2 a3;go_simp
  with_reducible rfl
 simp only[PU];refine wpAnyH_ready (rs:=[10,12]) (by kernel_rfl) (by simp) ?_;refine AllReadyH.cons rfl (fun K hK=>?_) (AllReadyH.cons rfl (fun K hK=>?_) AllReadyH.nil)
 ·
  have cc:=look_out H.out.om node;rw[HV.out] at cc;go_simp;clear cc;refine hK.out _ _ (⟨H.out.blk,X.out⟩) (fun hS=>?_);clear hK K
  try simp only[PU]
  refine wpAnyH_ready (rs:=[12]) (by kernel_rfl) (by simp) ?_;refine AllReadyH.cons rfl (fun K hK=>?_) AllReadyH.nil;go_simp;refine(CB.out wd).mono ?_;rintro e w3 ⟨rfl,b3⟩;replace H:=qH (H.out.below b3);replace S:=qH (S.out.below b3 (fun q hq=>(S.out.lt q hq).2));replace OO:=qH (OO.out.trans (Only.of_below b3));replace X:=qH (X.out.below b3 X.out.lt);clear b3 CB;go_wp2_with fail;refine hK.out _ _ (⟨H.out.blk,X.out⟩) (fun hS=>?_)
  clear hK K
  try simp only[PU]
  refine wpAnyH_ready (rs:=[13]) (by kernel_rfl) (by simp) ?_;refine AllReadyH.cons rfl (fun K hK=>?_) AllReadyH.nil;go_simp;obtain⟨bn,hbn⟩:∃ q,q=w3.heap.size:=⟨_,rfl⟩;rw[←hbn];replace H:=qH (H.out.below ((Below.refl w3.heap.size w3).alloc (Nat.le_refl _) (.cells #[.string PB] 9)));replace X:=qH (X.out.alloc (.cells #[.string PB] 9));replace S:=qH (S.out.below ((Below.refl w3.heap.size w3).alloc (Nat.le_refl _) (.cells #[.string PB] 9)) (fun q hq=>(S.out.lt q hq).2))
  replace OO:=qH (OO.out.trans (Only.alloc _ w3 (.cells #[.string PB] 9)));have BN:=qH (Blk.new w3 9 #[.string PB]);rw[←hbn] at BN;clear hbn;generalize w3.alloc (.cells #[.string PB] 9)=w4 at *;refine hK.out _ _ (⟨H.out.blk,X.out⟩) (fun hS=>?_);clear hK K
  try simp only[PU]
  refine wpAnyH_ready (rs:=[14]) (by kernel_rfl) (by simp) ?_;refine AllReadyH.cons rfl (fun K hK=>?_) AllReadyH.nil;replace BN:Hid (Blk w4 bn 9 #[.string PB]):=qH BN.out;obtain⟨gn,cap,w5,hrun,hown,hgrow,hwh⟩:=S.out.push (P:=Tryz.prog) (t:=28) (ty:=28) und45 info9 rfl (by omega) (fun _=>rfl) (fun a u hu=>by simp[strC] at hu;subst hu;rfl) PB BN.out (by omega) (by omega) (by have:=HBS.out;have:=OO.out.size;omega) 1
  have HRN:=qH hrun;have og:Only V.ownBlock.toList w4 w5:=Only.grown hgrow (fun r hr=>.inl (by simp[hr]));have k1:=sl_off S.out H.out.blk (by decide);have k2:=sl_offm S.out H.out.cm;have k3:=sl_offm S.out H.out.om;have k4:=sl_offm S.out H.out.lm;have k5:=sl_off S.out X.out (by decide);replace H:=qH (H.out.only og (by simpa using fun h=>k1 g h rfl) (by simpa using fun h=>k2 mc h rfl) (by simpa using fun h=>k3 mo h rfl) (by simpa using fun h=>k4 ml h rfl))
  replace X:=qH (X.out.only og (by simpa using fun h=>k5 x h rfl));have HWH:=qH (show V.ownBlock=some gn∨w.heap.size≤gn from hwh.imp id (fun q=>Nat.le_trans OO.out.size q));replace OO:=qH (OO.out.trans (og.mono (fun b hb=>.inl (List.mem_cons_of_mem _ hb))));replace S:=qH hown;clear hrun hown hgrow hwh og k1 k2 k3 k4 k5 BN;refine step_append_run rfl _ _ 28 28 rfl rfl rfl HRN.out ?_;change K (Act.put _ (some 20) _) _
  refine hK.out _ _ (⟨H.out.blk,X.out⟩) (fun hS=>?_);clear hK K
  try simp only[PU]
  refine wpAnyH_ready (rs:=[15]) (by kernel_rfl) (by simp) ?_;refine AllReadyH.cons rfl (fun K hK=>?_) AllReadyH.nil;obtain⟨o,hu,hm⟩:=run_update (P:=Tryz.prog) (str_emb undS) und76 H.out.om node (.slice (some ⟨gn,0,none⟩) (l.length+1) cap);replace hu:(Instr.mapUpdate 55 (.map (some mo)) (.string node) (.slice (some ⟨gn,0,none⟩) (l.length+1) cap)).run Tryz.prog w5 = .ok () (w5.putObj mo o):=hu;have HM:=qH hm
  clear hm;go_simp;have op:Only [mo] w5 (w5.putObj mo o):=Only.putObj w5 mo o (by simp);have hsep:=H.out.sep;have k3:=sl_offm S.out H.out.om;replace H:Hid (PM (w5.putObj mo o) g mc mo ml nm gen ck ch di C (put O node (.slice (some ⟨gn,0,none⟩) (l.length+1) cap)) L):=qH ⟨H.out.blk.only op (by simp;omega),H.out.cm.of_heap (op.block _ H.out.cm.lt (by simp;omega)),HM.out,H.out.lm.of_heap (op.block _ H.out.lm.lt (by simp;omega)),hsep⟩
  replace S:=qH (S.out.only op (fun q hq=>by simp;exact k3 q hq));replace OO:=qH (OO.out.trans (op.mono (fun b hb=>.inl (by rw[List.mem_singleton.1 hb];exact List.mem_cons_self))));replace X:=qH (X.out.only op (by have:=HXM.out;simp;omega));clear hu hsep k3 op HRN HM;have HF:Hid (Sent w base g mc mo ml nm gen ck ch di C O L node (l ++ [PB]) (w5.putObj mo o)):=qH ⟨_,H.out,S.out,by rw[HV.out];exact OO.out,by
   rw[HV.out];rcases HWH.out with h|h
   ·
    exact .inl h.symm
   ·
    exact .inr (fun q hq=>by simp[Value.ownBlock] at hq;omega)⟩
  generalize w5.putObj mo o=w6 at *;refine hK.out _ _ (⟨H.out.blk,X.out⟩) (fun hS=>?_);clear hK K
  try simp only[PU]
  refine wpAnyH_done (by kernel_rfl) ?_ _;clear hS S OO X H HWH;go_end0;exact⟨rfl,HF.out⟩
 ·
  go_simp;refine(CB.out wd).mono ?_;rintro e w3 ⟨rfl,b3⟩;replace H:=qH (H.out.below b3);replace S:=qH (S.out.below b3 (fun q hq=>(S.out.lt q hq).2));replace OO:=qH (OO.out.trans (Only.of_below b3));replace X:=qH (X.out.below b3 X.out.lt);clear b3 CB;go_wp2_with fail;refine hK.out _ _ (⟨H.out.blk,X.out⟩) (fun hS=>?_);clear hK K
  try simp only[PU]
  refine wpAnyH_ready (rs:=[10,13]) (by kernel_rfl) (by simp) ?_;refine AllReadyH.cons rfl (fun K hK=>?_) (AllReadyH.cons rfl (fun K hK=>?_) AllReadyH.nil)
  ·
   have cc:=look_out H.out.om node;rw[HV.out] at cc;go_simp;clear cc;refine hK.out _ _ (⟨H.out.blk,X.out⟩) (fun hS=>?_);clear hK K
   try simp only[PU]
   refine wpAnyH_ready (rs:=[13]) (by kernel_rfl) (by simp) ?_;refine AllReadyH.cons rfl (fun K hK=>?_) AllReadyH.nil;go_simp;obtain⟨bn,hbn⟩:∃ q,q=w3.heap.size:=⟨_,rfl⟩;rw[←hbn];replace H:=qH (H.out.below ((Below.refl w3.heap.size w3).alloc (Nat.le_refl _) (.cells #[.string PB] 9)));replace X:=qH (X.out.alloc (.cells #[.string PB] 9));replace S:=qH (S.out.below ((Below.refl w3.heap.size w3).alloc (Nat.le_refl _) (.cells #[.string PB] 9)) (fun q hq=>(S.out.lt q hq).2))
   replace OO:=qH (OO.out.trans (Only.alloc _ w3 (.cells #[.string PB] 9)));have BN:=qH (Blk.new w3 9 #[.string PB]);rw[←hbn] at BN;clear hbn;generalize w3.alloc (.cells #[.string PB] 9)=w4 at *;refine hK.out _ _ (⟨H.out.blk,X.out⟩) (fun hS=>?_);clear hK K
   try simp only[PU]
   refine wpAnyH_ready (rs:=[14]) (by kernel_rfl) (by simp) ?_;refine AllReadyH.cons rfl (fun K hK=>?_) AllReadyH.nil;replace BN:Hid (Blk w4 bn 9 #[.string PB]):=qH BN.out;obtain⟨gn,cap,w5,hrun,hown,hgrow,hwh⟩:=S.out.push (P:=Tryz.prog) (t:=28) (ty:=28) und45 info9 rfl (by omega) (fun _=>rfl) (fun a u hu=>by simp[strC] at hu;subst hu;rfl) PB BN.out (by omega) (by omega) (by have:=HBS.out;have:=OO.out.size;omega) 1
   have HRN:=qH hrun;have og:Only V.ownBlock.toList w4 w5:=Only.grown hgrow (fun r hr=>.inl (by simp[hr]));have k1:=sl_off S.out H.out.blk (by decide);have k2:=sl_offm S.out H.out.cm;have k3:=sl_offm S.out H.out.om;have k4:=sl_offm S.out H.out.lm;have k5:=sl_off S.out X.out (by decide);replace H:=qH (H.out.only og (by simpa using fun h=>k1 g h rfl) (by simpa using fun h=>k2 mc h rfl) (by simpa using fun h=>k3 mo h rfl) (by simpa using fun h=>k4 ml h rfl))
   replace X:=qH (X.out.only og (by simpa using fun h=>k5 x h rfl));have HWH:=qH (show V.ownBlock=some gn∨w.heap.size≤gn from hwh.imp id (fun q=>Nat.le_trans OO.out.size q));replace OO:=qH (OO.out.trans (og.mono (fun b hb=>.inl (List.mem_cons_of_mem _ hb))));replace S:=qH hown;clear hrun hown hgrow hwh og k1 k2 k3 k4 k5 BN;refine step_append_run rfl _ _ 28 28 rfl rfl rfl HRN.out ?_;change K (Act.put _ (some 20) _) _
   refine hK.out _ _ (⟨H.out.blk,X.out⟩) (fun hS=>?_);clear hK K
   try simp only[PU]
   refine wpAnyH_ready (rs:=[15]) (by kernel_rfl) (by simp) ?_;refine AllReadyH.cons rfl (fun K hK=>?_) AllReadyH.nil;obtain⟨o,hu,hm⟩:=run_update (P:=Tryz.prog) (str_emb undS) und76 H.out.om node (.slice (some ⟨gn,0,none⟩) (l.length+1) cap);replace hu:(Instr.mapUpdate 55 (.map (some mo)) (.string node) (.slice (some ⟨gn,0,none⟩) (l.length+1) cap)).run Tryz.prog w5 = .ok () (w5.putObj mo o):=hu;have HM:=qH hm
   clear hm;go_simp;have op:Only [mo] w5 (w5.putObj mo o):=Only.putObj w5 mo o (by simp);have hsep:=H.out.sep;have k3:=sl_offm S.out H.out.om;replace H:Hid (PM (w5.putObj mo o) g mc mo ml nm gen ck ch di C (put O node (.slice (some ⟨gn,0,none⟩) (l.length+1) cap)) L):=qH ⟨H.out.blk.only op (by simp;omega),H.out.cm.of_heap (op.block _ H.out.cm.lt (by simp;omega)),HM.out,H.out.lm.of_heap (op.block _ H.out.lm.lt (by simp;omega)),hsep⟩
   replace S:=qH (S.out.only op (fun q hq=>by simp;exact k3 q hq));replace OO:=qH (OO.out.trans (op.mono (fun b hb=>.inl (by rw[List.mem_singleton.1 hb];exact List.mem_cons_self))));replace X:=qH (X.out.only op (by have:=HXM.out;simp;omega));clear hu hsep k3 op HRN HM;have HF:Hid (Sent w base g mc mo ml nm gen ck ch di C O L node (l ++ [PB]) (w5.putObj mo o)):=qH ⟨_,H.out,S.out,by rw[HV.out];exact OO.out,by
    rw[HV.out];rcases HWH.out with h|h
    ·
     exact .inl h.symm
    ·
     exact .inr (fun q hq=>by simp[Value.ownBlock] at hq;omega)⟩
   generalize w5.putObj mo o=w6 at *;refine hK.out _ _ (⟨H.out.blk,X.out⟩) (fun hS=>?_);clear hK K
   try simp only[PU]
   refine wpAnyH_done (by kernel_rfl) ?_ _;clear hS S OO X H HWH;go_end0;exact⟨rfl,HF.out⟩
  ·
   go_simp;obtain⟨bn,hbn⟩:∃ q,q=w3.heap.size:=⟨_,rfl⟩;rw[←hbn];replace H:=qH (H.out.below ((Below.refl w3.heap.size w3).alloc (Nat.le_refl _) (.cells #[.string PB] 9)));replace X:=qH (X.out.alloc (.cells #[.string PB] 9));replace S:=qH (S.out.below ((Below.refl w3.heap.size w3).alloc (Nat.le_refl _) (.cells #[.string PB] 9)) (fun q hq=>(S.out.lt q hq).2));replace OO:=qH (OO.out.trans (Only.alloc _ w3 (.cells #[.string PB] 9)))
   have BN:=qH (Blk.new w3 9 #[.string PB]);rw[←hbn] at BN;clear hbn;generalize w3.alloc (.cells #[.string PB] 9)=w4 at *;refine hK.out _ _ (⟨H.out.blk,X.out⟩) (fun hS=>?_);clear hK K
   try simp only[PU]
   refine wpAnyH_ready (rs:=[10]) (by kernel_rfl) (by simp) ?_;refine AllReadyH.cons rfl (fun K hK=>?_) AllReadyH.nil;have cc:=look_out H.out.om node;rw[HV.out] at cc;go_simp;clear cc;refine hK.out _ _ (⟨H.out.blk,X.out⟩) (fun hS=>?_);clear hK K
   try simp only[PU]
   refine wpAnyH_ready (rs:=[14]) (by kernel_rfl) (by simp) ?_;refine AllReadyH.cons rfl (fun K hK=>?_) AllReadyH.nil;replace BN:Hid (Blk w4 bn 9 #[.string PB]):=qH BN.out;obtain⟨gn,cap,w5,hrun,hown,hgrow,hwh⟩:=S.out.push (P:=Tryz.prog) (t:=28) (ty:=28) und45 info9 rfl (by omega) (fun _=>rfl) (fun a u hu=>by simp[strC] at hu;subst hu;rfl) PB BN.out (by omega) (by omega) (by have:=HBS.out;have:=OO.out.size;omega) 1
   have HRN:=qH hrun;have og:Only V.ownBlock.toList w4 w5:=Only.grown hgrow (fun r hr=>.inl (by simp[hr]));have k1:=sl_off S.out H.out.blk (by decide);have k2:=sl_offm S.out H.out.cm;have k3:=sl_offm S.out H.out.om;have k4:=sl_offm S.out H.out.lm;have k5:=sl_off S.out X.out (by decide);replace H:=qH (H.out.only og (by simpa using fun h=>k1 g h rfl) (by simpa using fun h=>k2 mc h rfl) (by simpa using fun h=>k3 mo h rfl) (by simpa using fun h=>k4 ml h rfl))
   replace X:=qH (X.out.only og (by simpa using fun h=>k5 x h rfl));have HWH:=qH (show V.ownBlock=some gn∨w.heap.size≤gn from hwh.imp id (fun q=>Nat.le_trans OO.out.size q));replace OO:=qH (OO.out.trans (og.mono (fun b hb=>.inl (List.mem_cons_of_mem _ hb))));replace S:=qH hown;clear hrun hown hgrow hwh og k1 k2 k3 k4 k5 BN;refine step_append_run rfl _ _ 28 28 rfl rfl rfl HRN.out ?_;change K (Act.put _ (some 20) _) _
   refine hK.out _ _ (⟨H.out.blk,X.out⟩) (fun hS=>?_);clear hK K
   try simp only[PU]
   refine wpAnyH_ready (rs:=[15]) (by kernel_rfl) (by simp) ?_;refine AllReadyH.cons rfl (fun K hK=>?_) AllReadyH.nil;obtain⟨o,hu,hm⟩:=run_update (P:=Tryz.prog) (str_emb undS) und76 H.out.om node (.slice (some ⟨gn,0,none⟩) (l.length+1) cap);replace hu:(Instr.mapUpdate 55 (.map (some mo)) (.string node) (.slice (some ⟨gn,0,none⟩) (l.length+1) cap)).run Tryz.prog w5 = .ok () (w5.putObj mo o):=hu;have HM:=qH hm
   clear hm;go_simp;have op:Only [mo] w5 (w5.putObj mo o):=Only.putObj w5 mo o (by simp);have hsep:=H.out.sep;have k3:=sl_offm S.out H.out.om;replace H:Hid (PM (w5.putObj mo o) g mc mo ml nm gen ck ch di C (put O node (.slice (some ⟨gn,0,none⟩) (l.length+1) cap)) L):=qH ⟨H.out.blk.only op (by simp;omega),H.out.cm.of_heap (op.block _ H.out.cm.lt (by simp;omega)),HM.out,H.out.lm.of_heap (op.block _ H.out.lm.lt (by simp;omega)),hsep⟩
   replace S:=qH (S.out.only op (fun q hq=>by simp;exact k3 q hq));replace OO:=qH (OO.out.trans (op.mono (fun b hb=>.inl (by rw[List.mem_singleton.1 hb];exact List.mem_cons_self))));replace X:=qH (X.out.only op (by have:=HXM.out;simp;omega));clear hu hsep k3 op HRN HM;have HF:Hid (Sent w base g mc mo ml nm gen ck ch di C O L node (l ++ [PB]) (w5.putObj mo o)):=qH ⟨_,H.out,S.out,by rw[HV.out];exact OO.out,by
    rw[HV.out];rcases HWH.out with h|h
    ·
     exact .inl h.symm
    ·
     exact .inr (fun q hq=>by simp[Value.ownBlock] at hq;omega)⟩
   generalize w5.putObj mo o=w6 at *;refine hK.out _ _ (⟨H.out.blk,X.out⟩) (fun hS=>?_);clear hK K
   try simp only[PU]
   refine wpAnyH_done (by kernel_rfl) ?_ _;clear hS S OO X H HWH;go_end0;exact⟨rfl,HF.out⟩
def cnC (node:ByteArray) (dials:Bool) (num:Nat) (side:Value) (gen:Int) (gat:Value) (id:Int):Array Value:=#[.string node,.bool dials,.int .u64 (num:Int),side,.int .i64 gen,gat,.int .i64 id]
set_option maxHeartbeats 4000000 in
theorem tell_any {w:World} {g mc mo ml:Nat} {nm:ByteArray} {gen:Int} {ck:ByteArray} {ch di:Nat} {C:List (ByteArray×Nat)} {O:List (ByteArray×Value)} {L:List (ByteArray×Int)} (h:PM w g mc mo ml nm gen ck ch di C O L) (base:Nat) (hbs:base≤w.heap.size)
  (c:Nat) (node:ByteArray) (dials:Bool) (num:Nat) (side:Value) (gn:Int) (gat:Value) (id:Int) (hcn:Blk w c 93 (cnC node dials num side gn gat id)) (kind:UInt8) (contents:ByteArray) (hc:contents.size≤1000000000) (l:List ByteArray) (hS:Sl w base 9 1 strC (outV O node) l) (hl:l.length≤100000000) :
  Calls Tryz.prog 34 #[.pointer (some ⟨g,0,none⟩),.pointer (some ⟨c,0,none⟩),.int .u8 (kind.toNat:Int),.string contents] w fun e w'=>e = .returned (.tuple #[])∧Sent w base g mc mo ml nm gen ck ch di C O L node (l ++ [pkF dials num kind contents]) w':=by
 have CP:=qH (psend_any (h.below (Below.refl _ _).drew) base hbs node dials num kind contents hc l (hS.below (Below.refl w.heap.size w).drew (fun q hq=>(hS.lt q hq).2)) hl);have c0:w.cell? ⟨c,0,none⟩=some (.string node):=hcn.cell 0;have c1:w.cell? ⟨c,1,none⟩=some (.bool dials):=hcn.cell 1;have c2:w.cell? ⟨c,2,none⟩=some (.int .u64 (num:Int)):=hcn.cell 2;clear h hbs hcn hS;go_enter Tryz.func34,Tryz.ntmps34
 go_wp2_with fail;go_still_tail 16,(by kernel_rfl);change wpList _ _ _ _ _ w.drew;clear c0 c1 c2;go_wp2_with fail;refine CP.out.mono ?_;rintro e w1 ⟨rfl,v',h1,h2,h3,h4⟩;have HS:Hid (Sent w base g mc mo ml nm gen ck ch di C O L node (l ++ [pkF dials num kind contents]) w1):=qH ⟨v',h1,h2,(Only.drew _ w).trans h3,h4⟩;clear h1 h2 h3 h4 CP;go_wp2_with fail;go_end0;exact⟨rfl,HS.out⟩
end Go.Proofs.YtoaimoemaoinhaaGreatDoor
