/- PeersX: a part of the proof. No condition beyond the premises of each theorem. -/
import Derived.RangeFuncNested
import Derived.RangeFuncBound
import Derived.RangeFuncCalls
import Derived.RangeFuncLeaves
import Derived.RangeFuncBox
import Derived.Deep.Draws
import Derived.Test.YtoaimoemaoinhaaGreatDoorQp08
import Derived.Test.YtoaimoemaoinhaaGreatDoorProg
import Derived.Test.YtoaimoemaoinhaaGreatDoorChecked
import Derived.WalkKit
import Derived.WalkSpells
import Derived.WalkLawsBesides
import Derived.RegionTactic
import Derived.Deep.QuietTactic
import Derived.BigQuiet
import Derived.Lib.Hide
import Derived.Outline
import Derived.IntWalk
import Derived.Laws.BitsAllLaws
import Derived.Below
import Derived.Laws.OwnMore
import Derived.RangeFuncRecord
import Derived.Deep.MidRow
import Derived.Lib.ConvBytes
import Derived.Laws.AppendOwn
import Derived.Laws.MakeOwn
import Derived.LoopTactic
import Derived.Lib.SlBytesRow
import Derived.Deep.OwnRows
import Derived.Deep.RegionHeld3
import Derived.Deep.DrawnRows
import Derived.Test.YtoaimoemaoinhaaGreatDoorQp00
set_option maxRecDepth 100000
namespace Go.Rt
open Go Go.RowKit
variable {F:Fence} {n:Nat} {P:Program}
theorem wpIn_rangeFunc_TB {α:Type} {g:Operand} {ps:Array Tmp} {assign body:Code} {Q:Exit→Act→World→Prop} {a:Act} {w:World}
  (hro:F.round=none) (h1:1≤n) {gf:Nat} {lb:Array Value} (hg:a.eval g = .func (.func gf) #[] lb) (hFg:F.fn gf) (eg:∀ args w,(callFunc gf args).run P w = .ok (.enter gf args) w)
  {encs:α→Array Value} {xs:List α} {T0:List Nat} {Pre:World→Prop} (hseq:SeqRuns F (n-1) P gf lb encs xs T0 Pre)
  (hpre:∀ W,Below w.heap.size w W→Pre W) (hT0:∀ r∈T0,r<w.heap.size) (hps:∀ x,(encs x).size=ps.size)
  (I:Nat→List Nat→World→Prop) (Ix:Code→Nat→List Nat→World→Prop) (hI:Abides I) (hIx:∀ c,Abides (Ix c)) (h0:I 0 T0 w) (I2:Act→Nat→List Nat→World→Prop) (hI2:∀ a',Abides (I2 a'))
  (hassign:∀ (l:Nat) (k:Nat) (hk:k<xs.length) (T:List Nat) (W:World) (K:Act→World→Prop),I k T W→(∀ r∈T,r<W.heap.size)→(∀ a' W',KeepsT T W W'→I2 a' k T W'→K a' W') →
   assign.wpIn (F.inRound l) (n-1-1) P (Exit.then K (fun _ _ _=>False)) { tmps:=(ps.zip (encs xs[k])).foldl (fun t (p,v)=>t.setIfInBounds p v) a.tmps,defers:=[] } W)
  (hbody:∀ (l:Nat) (k:Nat) (_:k<xs.length) (T:List Nat) (a':Act) (W:World),I2 a' k T W→(∀ r∈T,r<W.heap.size)→body.wpIn (F.inRound l) (n-1-1) P (ownPostT I Ix (k+1) T W) a' W)
  (hdone:∀ (D:Nat) (T:List Nat) (W:World),D∈T→(∀ r∈T,r<W.heap.size)→I xs.length T W→W.heap[D]? = some (.deferred (some []))→Q .normal { a with defers:={ target:=.collected D,args:=#[] } :: a.defers } W)
  (hstop:∀ (D:Nat) (T:List Nat) (c:Code) (k:Nat) (W:World),D∈T→(∀ r∈T,r<W.heap.size)→k≤xs.length→Ix c k T W→W.heap[D]? = some (.deferred (some []))→c.wpIn F n P Q { a with defers:={ target:=.collected D,args:=#[] } :: a.defers } W) :
  (Code.rangeFunc g ps assign body).wpIn F n P Q a w:=by
 refine wpIn_rangeFunc ?_;intro fn hfn;rw[hro];obtain⟨rec,hrec⟩:∃ rec:LoopState→Option Code→Loop,rec=fun st pe=>{ state:=st,pending:=pe,fn,tmps:=a.tmps,params:=ps,assign,body,defers:=w.heap.size }:=⟨_,rfl⟩
 obtain⟨W1,hW1⟩:∃ W1,(w.alloc (.deferred (some []))).alloc (.loop (rec .ready none))=W1:=⟨_,rfl⟩;have hL1:W1.heap[w.heap.size+1]? = some (.loop (rec .ready none)):=by
  rw[←hW1];have:=World.alloc_heap_new (w.alloc (.deferred (some []))) (.loop (rec .ready none));rwa [World.size_alloc] at this
 have hK1:W1.heap[w.heap.size]? = some (.deferred (some [])):=by
  rw[←hW1];exact(Below.heap_alloc _ _ _ (by simp)).trans (World.alloc_heap_new w _)
 have hb1:Below w.heap.size w W1:=by
  rw[←hW1];exact((Below.refl _ w).alloc (Nat.le_refl _) _).alloc (by simp) _
 have hz1:W1.heap.size=w.heap.size+2:=by rw[←hW1];simp
 have hI1:I 0 (w.heap.size::(w.heap.size+1)::T0) W1:=by
  refine hI 0 T0 w _ W1 h0 (Only.of_below hb1) ?_ ?_
  ·
   intro r hr;simp only[List.mem_cons] at hr;rcases hr with rfl|rfl|hr
   ·
    exact .inr (Nat.le_refl _)
   ·
    exact .inr (by omega)
   ·
    exact .inl hr
  ·
   intro r hr;simp only[List.mem_cons] at hr;rcases hr with rfl|rfl|hr
   ·
    omega
   ·
    omega
   ·
    have:=hT0 r hr;omega
 refine⟨w.heap.size+1,[{ target:=.collected w.heap.size,args:=#[] }],W1,{ target:=.fn (.func gf) lb,args:=#[.func (.yield (w.heap.size+1)) #[] #[]] },W1,gf,
  #[.func (.yield (w.heap.size+1)) #[] #[]]++lb,W1,?_,?_,?_,?_,fun _=>h1,?_⟩
 ·
  rw[←hW1,hrec];exact run_enterLoop_outer _ _ _ _ _
 ·
  simp only[resolve,hg];simp[go_sem]
 ·
  intro f' hf';simp[Target.leads] at hf';subst hf';exact hFg
 ·
  simp[invoke,go_sem,eg]
 ·
  -- the iterator's contract,at the caller's invariant with the facts of book-keeping beside it
  obtain⟨Bk,hBk⟩:∃ Bk:LoopState→Option Code→List Nat→World→Prop,Bk=fun st pe T W=>W.heap[w.heap.size+1]? = some (.loop (rec st pe))∧W.heap[w.heap.size]? = some (.deferred (some []))∧w.heap.size∉T∧(w.heap.size+1)∉T∧(∀ r∈T,r<W.heap.size):=⟨_,rfl⟩
  have hBa:∀ (st:LoopState) (pe:Option Code) (T:List Nat) (A:World) (T':List Nat) (B:World),Bk st pe T A→Only T A B→(∀ r∈T',r∈T∨A.heap.size≤r)→(∀ r∈T',r<B.heap.size)→Bk st pe T' B:=by
   intro st pe T A T' B hs ho hT hlt;rw[hBk] at hs ⊢;obtain⟨q1,q2,q3,q4,q5⟩:=hs;have l1:=(Array.getElem?_eq_some_iff.1 q1).1;have l2:=(Array.getElem?_eq_some_iff.1 q2).1;exact⟨(ho.block _ l1 q4).trans q1,(ho.block _ l2 q3).trans q2,fun hm=>(hT _ hm).elim q3 (fun _=>by omega),fun hm=>(hT _ hm).elim q4 (fun _=>by omega),hlt⟩
  have hIa:∀ {J:Nat→List Nat→World→Prop},Abides J→∀ (k:Nat) (T:List Nat) (A:World) (T':List Nat) (B:World),J k (w.heap.size::(w.heap.size+1)::T) A→w.heap.size+2≤A.heap.size→Only T A B→(∀ r∈T',r∈T∨A.heap.size≤r)→(∀ r∈T',r<B.heap.size)→J k (w.heap.size::(w.heap.size+1)::T') B:=by
   intro J hJ k T A T' B hj hsz ho hT hlt;refine hJ k _ A _ B hj (ho.mono (fun b hb=>.inl (by simp[hb]))) ?_ ?_
   ·
    intro r hr;simp only[List.mem_cons] at hr ⊢;rcases hr with rfl|rfl|hr
    ·
     exact .inl (.inl rfl)
    ·
     exact .inl (.inr (.inl rfl))
    ·
     exact(hT r hr).elim (fun h=>.inl (.inr (.inr h))) .inr
   ·
    intro r hr
    have:=ho.size
    simp only[List.mem_cons] at hr;rcases hr with rfl|rfl|hr
    ·
     omega
    ·
     omega
    ·
     exact hlt r hr
  have hput:∀ {J:Nat→List Nat→World→Prop},Abides J→∀ (k:Nat) (T:List Nat) (A:World) (o:Obj),J k (w.heap.size::(w.heap.size+1)::T) A→w.heap.size+2≤A.heap.size→(∀ r∈T,r<A.heap.size)→J k (w.heap.size::(w.heap.size+1)::T) (A.putObj (w.heap.size+1) o):=by
   intro J hJ k T A o hj hsz hlt;refine hJ k _ A _ _ hj (Only.putObj _ _ _ (by simp)) (fun r hr=>.inl hr) ?_;intro r hr;simp only[List.mem_cons] at hr
   have:(A.putObj (w.heap.size+1) o).heap.size=A.heap.size:=by simp
   rcases hr with rfl|rfl|hr
   ·
    omega
   ·
    omega
   ·
    have:=hlt r hr;omega
  refine(hseq (w.heap.size+1)
   (fun k T W=>I k (w.heap.size::(w.heap.size+1)::T) W∧Bk .ready none T W)
   (fun k T W=>∃ c,Ix c k (w.heap.size::(w.heap.size+1)::T) W∧Bk .done (some c) T W)
   W1 (hpre _ hb1) (fun r hr=>by have:=hT0 r hr;omega)
   (fun k T A T' B hs ho hT hlt=>?_) (fun k T A T' B hs ho hT hlt=>?_) ?_ ⟨hI1,?_⟩).mono ?_
  ·
   have hs2:=hs.2;rw[hBk] at hs2
   have:=(Array.getElem?_eq_some_iff.1 hs2.1).1
   exact⟨hIa hI k T A T' B hs.1 (by omega) ho hT hlt,hBa _ _ _ _ _ _ hs.2 ho hT hlt⟩
  ·
   obtain⟨c,hc,hb⟩:=hs;have hs2:=hb;rw[hBk] at hs2
   have:=(Array.getElem?_eq_some_iff.1 hs2.1).1
   exact⟨c,hIa (hIx c) k T A T' B hc (by omega) ho hT hlt,hBa _ _ _ _ _ _ hb ho hT hlt⟩
  ·
   -- one round
   rintro k hk T W ⟨hi,hb⟩;rw[hBk] at hb;obtain⟨hl,hd,hn1,hn2,hlt⟩:=hb;have hsz:w.heap.size+1<W.heap.size:=(Array.getElem?_eq_some_iff.1 hl).1;have hy:=run_yield (P:=P) (args:=encs xs[k]) hl (by rw[hrec];exact hps _);rw[hrec] at hy;refine⟨fn,_,assign,body,hy,roundIn_of_wpIn hfn (hassign _ k hk (w.heap.size::(w.heap.size+1)::T) W _ hi ?_ (fun a' Wa hka hia=>?_))⟩
   ·
    intro r hr;simp only[List.mem_cons] at hr;rcases hr with rfl|rfl|hr
    ·
     omega
    ·
     omega
    ·
     exact hlt r hr
   have hla:=(hka.same (w.heap.size+1) (by simp)).trans hl;have hda:=(hka.same w.heap.size (by simp)).trans hd;have hza:=hka.size;have hlta:∀ r∈T,r<Wa.heap.size:=fun r hr=>by have:=hlt r hr;omega
   refine⟨_,run_beginRound hla (by rw[hrec]),?_⟩;have hl2:(Wa.putObj (w.heap.size+1) (.loop { rec .ready none with state:=.busy })).heap[w.heap.size+1]? = some (.loop { rec .ready none with state:=.busy }):=World.putObj_heap_same (by omega);have hd2:(Wa.putObj (w.heap.size+1) (.loop { rec .ready none with state:=.busy })).heap[w.heap.size]? = some (.deferred (some [])):=(World.putObj_heap_other (by omega)).trans hda
   have hs2:(Wa.putObj (w.heap.size+1) (.loop { rec .ready none with state:=.busy })).heap.size=Wa.heap.size:=by simp
   refine wpIn_mono (hbody _ k hk (w.heap.size::(w.heap.size+1)::T) a' _ (hput (hI2 a') k T Wa _ hia (by omega) hlta) ?_) ?_
   ·
    intro r hr;simp only[List.mem_cons] at hr;rw[World.putObj_size];rcases hr with rfl|rfl|hr
    ·
     omega
    ·
     omega
    ·
     have:=hlta r hr;omega
   have fin:∀ (jump:Option Code) (W3:World),KeepsT (w.heap.size::(w.heap.size+1)::T) (Wa.putObj (w.heap.size+1) (.loop { rec .ready none with state:=.busy })) W3 →
     (Instr.endRound (w.heap.size+1) jump).run P W3 = .ok (.bool jump.isNone) (W3.putObj (w.heap.size+1) (.loop (rec (if jump.isNone then .ready else .done) jump)))∧w.heap.size+2≤W3.heap.size∧(∀ r∈T,r<W3.heap.size) ∧
     Bk (if jump.isNone then .ready else .done) jump T (W3.putObj (w.heap.size+1) (.loop (rec (if jump.isNone then .ready else .done) jump))) ∧
     KeepsT T W (W3.putObj (w.heap.size+1) (.loop (rec (if jump.isNone then .ready else .done) jump))):=fun jump W3 hk3=>by
    have hl3:=(hk3.same _ (by simp)).trans hl2;have hd3:=(hk3.same w.heap.size (by simp)).trans hd2;have hz3:=hk3.size;rw[hs2] at hz3;have hsz3:(W3.putObj (w.heap.size+1) (.loop (rec (if jump.isNone then .ready else .done) jump))).heap.size=W3.heap.size:=by simp
    have:=run_endRound (P:=P) jump hl3
    refine⟨by rw[hrec] at this ⊢;exact this,by omega,fun r hr=>by have:=hlt r hr;omega,?_,?_⟩
    ·
     rw[hBk];exact⟨World.putObj_heap_same (Array.getElem?_eq_some_iff.1 hl3).1,(World.putObj_heap_other (by omega)).trans hd3,hn1,hn2,fun r hr=>by have:=hlt r hr;omega⟩
    ·
     refine⟨by omega,fun r hr=>?_⟩;have hne:r≠w.heap.size+1:=fun e=>hn2 (e▸hr)
     exact(World.putObj_heap_other hne).trans (((hk3.same r (by simp[hr])).trans (World.putObj_heap_other hne)).trans (hka.same r (by simp[hr])))
   rintro e a3 W3 hp;cases e with
   | normal=>
    obtain⟨hk3,hi3⟩:=hp;obtain⟨hr,hz3,hl3,hb4,hk4⟩:=fin none W3 hk3;exact⟨_,_,hr,.inl ⟨rfl,⟨hput hI _ _ _ _ hi3 hz3 hl3,hb4⟩,hk4⟩⟩
   | ret=>
    obtain⟨hk3,hi3⟩:=hp;obtain⟨hr,hz3,hl3,hb4,hk4⟩:=fin (some .ret) W3 hk3;exact⟨_,_,hr,.inr ⟨rfl,.ret,hput (hIx _) _ _ _ _ hi3 hz3 hl3,hb4⟩⟩
   | exit id=>
    obtain⟨hk3,hi3⟩:=hp;obtain⟨hr,hz3,hl3,hb4,hk4⟩:=fin (some (.exit id)) W3 hk3;exact⟨_,_,hr,.inr ⟨rfl,.exit id,hput (hIx _) _ _ _ _ hi3 hz3 hl3,hb4⟩⟩
   | goto t=>
    obtain⟨hk3,hi3⟩:=hp;obtain⟨hr,hz3,hl3,hb4,hk4⟩:=fin (some (.goto t)) W3 hk3;exact⟨_,_,hr,.inr ⟨rfl,.goto t,hput (hIx _) _ _ _ _ hi3 hz3 hl3,hb4⟩⟩
   | panic ch=>exact hp.elim
   | outgrown=>exact hp.elim
  ·
   rw[hBk];exact⟨hL1,hK1,fun hm=>by have:=hT0 _ hm;omega,fun hm=>by have:=hT0 _ hm;omega,fun r hr=>by have:=hT0 r hr;omega⟩
  ·
   -- behind the iterator
   rintro e W2 ⟨⟨v,rfl⟩,(⟨T,hi,hb⟩|⟨k,T,hk,c,hi,hb⟩)⟩
   ·
    rw[hBk] at hb;obtain⟨hl,hd,hn1,hn2,hlt⟩:=hb;have hsz:w.heap.size+1<W2.heap.size:=(Array.getElem?_eq_some_iff.1 hl).1;refine⟨none,_,by have:=run_endLoop (P:=P) hl (by rw[hrec];simp);rw[hrec] at this;exact this,hdone w.heap.size (w.heap.size::(w.heap.size+1)::T) _ (by simp) ?_ (hput hI _ _ _ _ hi (by omega) hlt) ((World.putObj_heap_other (by omega)).trans hd)⟩;intro r hr;simp only[List.mem_cons] at hr
    rcases hr with rfl|rfl|hr
    ·
     simp;omega
    ·
     simp;omega
    ·
     have:=hlt r hr;simp;omega
   ·
    rw[hBk] at hb;obtain⟨hl,hd,hn1,hn2,hlt⟩:=hb;have hsz:w.heap.size+1<W2.heap.size:=(Array.getElem?_eq_some_iff.1 hl).1;refine⟨some c,_,by have:=run_endLoop (P:=P) hl (by rw[hrec];simp);rw[hrec] at this;exact this,hstop w.heap.size (w.heap.size::(w.heap.size+1)::T) c k _ (by simp) ?_ hk (hput (hIx c) _ _ _ _ hi (by omega) hlt) ((World.putObj_heap_other (by omega)).trans hd)⟩;intro r hr;simp only[List.mem_cons] at hr
    rcases hr with rfl|rfl|hr
    ·
     simp;omega
    ·
     simp;omega
    ·
     have:=hlt r hr;simp;omega
end Go.Rt
namespace Go.Proofs.YtoaimoemaoinhaaGreatDoor.Sk
open Go.RowKit
def rotr (n x:Nat):Nat:=x*2 ^ (32-n) % 4294967296 ||| x / 2 ^ n
theorem rot_any (x n:Nat) (w:World) (hx:x<4294967296) (h1:1≤n) (h2:n≤31) :
  Calls Tryz.prog 266 #[.int .u32 x,.int .i64 (-(n:Int))] w fun e w'=>e = .returned (.int .u32 (rotr n x:Nat))∧w=w':=by
 have hb:bits .and .u64 (IntKind.u64.wrap (-(n:Int))) 31=((32-n:Nat):Int):=by
  rw[IntKind.wrap_u64];rw[show (-(n:Int)) % 18446744073709551616=((18446744073709551616-n:Nat):Int) by omega]
  have:=u64_and_nat (18446744073709551616-n) 31 (by omega) (by omega)
  rw[show ((31:Nat):Int)=31 from rfl] at this;rw[this,nat_mask5]
  congr 1
  omega
 go_enter Tryz.func266,Tryz.ntmps266;go_wp2;go_ret;refine⟨?_,rfl⟩;have h32:32-(32-n)=n:=by omega
 rw[h32];have hl:x*2 ^ (32-n) % 4294967296<4294967296:=by omega
 have hr:x / 2 ^ n<4294967296:=Nat.lt_of_le_of_lt (Nat.div_le_self _ _) hx
 have:=u32_or_nat _ _ hl hr
 unfold rotr;rw[←this,Int.natCast_emod,Int.natCast_mul,Int.natCast_pow,Int.natCast_ediv,Int.natCast_pow];rfl
theorem rot_at (n:Nat) (k:Int) (x:Nat) (w:World) (hk:k = -(n:Int)) (hx:x<4294967296) (h1:1≤n) (h2:n≤31) :
  Calls Tryz.prog 266 #[.int .u32 x,.int .i64 k] w fun e w'=>e = .returned (.int .u32 (rotr n x:Nat))∧w=w':=by
 rw[hk];exact rot_any x n w hx h1 h2
theorem rotr_lt (n x:Nat) (hx:x<4294967296):rotr n x<4294967296:=by
 unfold rotr;exact Nat.or_lt_two_pow (n:=32) (by omega) (Nat.lt_of_le_of_lt (Nat.div_le_self _ _) hx)
end Go.Proofs.YtoaimoemaoinhaaGreatDoor.Sk
namespace Go.Proofs.YtoaimoemaoinhaaGreatDoor.Sk
open Go.RowKit Go.Rt
section
variable {w w':World} {g:Nat} {t:TypeId} {cs:Array Value}
end
abbrev bv (n:Nat):Value:=.int .u8 (n:Int)
abbrev wv (n:Nat):Value:=.int .u32 (n:Int)
theorem map_get {f:Nat→Value} (L:List Nat) (i:Nat) (h:i<L.length):((L.map f).toArray)[i]? = some (f L[i]):=by
 simp[h]
theorem map_set {f:Nat→Value} (L:List Nat) (i x:Nat):((L.map f).toArray).setIfInBounds i (f x)=((L.set i x).map f).toArray:=by
 simp[List.map_set]
section
variable {w:World} {b:Nat} {t:TypeId}
end
theorem one_map {f:Nat→Value} (hf:∀ n,(f n).oneCell'=true) (L:List Nat):((L.map f).toArray).all (·.oneCell')=true:=by
 simp[hf]
end Go.Proofs.YtoaimoemaoinhaaGreatDoor.Sk
namespace Go.Proofs.YtoaimoemaoinhaaGreatDoor.Sk
open Go.RowKit Go.Rt
def Ts (w:World) (g n cap:Nat) (L:List Nat):Prop:=
 L.length=n∧n≤cap∧cap≤maxLen∧∃ cur fr,w.heap[g]? = some (.cells cur 5 fr)∧cur.size=cap∧(∀ j,j<cap→¬(fr.1≤j∧j<fr.2))∧cur.toList.take n=L.map bv
section
variable {w w':World} {g n cap:Nat} {L:List Nat}
theorem Ts.lt (h:Ts w g n cap L):g<w.heap.size:=by
 obtain⟨_,_,_,cur,fr,hb,_⟩:=h;exact(Array.getElem?_eq_some_iff.1 hb).1
theorem Ts.same (h:Ts w g n cap L) (hb:w'.heap[g]? = w.heap[g]?):Ts w' g n cap L:=by
 obtain⟨h1,h2,h3,cur,fr,h4,h5⟩:=h;exact⟨h1,h2,h3,cur,fr,hb.trans h4,h5⟩
theorem Ts.cell (h:Ts w g n cap L) (j:Nat) (hj:j<n):w.cell? ⟨g,j,none⟩=some (bv (L.getD j 0)):=by
 obtain⟨h1,h2,h3,cur,fr,h4,h5,h6,h7⟩:=h;have h8:(cur.toList.take n)[j]? = (L.map bv)[j]?:=by rw[h7]
 rw[List.getElem?_take_of_lt hj,List.getElem?_map] at h8;rw[List.getElem?_eq_getElem (l:=L) (by omega)] at h8;simp only[World.cell?,h4];rw[←Array.getElem?_toList,h8,List.getD_eq_getElem?_getD,List.getElem?_eq_getElem (by omega)];rfl
theorem Ts.range (h:Ts w g n cap L) (o m:Nat) (hm:o+m≤n):w.rangeAt g o (((L.drop o).take m).map bv):=by
 intro j v hv;rw[List.getElem?_map] at hv;cases hj:((L.drop o).take m)[j]? with
 | none=>rw[hj] at hv;cases hv
 | some x=>
  rw[hj] at hv;have hlt:j<m:=by have:=(List.getElem?_eq_some_iff.1 hj).1;rw[List.length_take] at this;omega
  rw[List.getElem?_take_of_lt hlt,List.getElem?_drop] at hj;rw[h.cell (o+j) (by omega),List.getD_eq_getElem?_getD,hj];exact hv
theorem Ts.push {P:Program} {t ty:TypeId} (hu:P.underlying t=some (.slice 5)) (hi:(P.info? 5).map (fun i=>(i.zero,i.size,i.bytes))=some (some (.int .u8 0),1,1))
  (h:Ts w g n cap L) (x b:Nat) {e':TypeId} {fr':Nat×Nat} (hb:w.heap[b]? = some (.cells #[bv x] e' fr')) (hl:n+1≤1000000000000) (cc:Nat) :
  ∃ (g' cap':Nat) (W':World),(Builtin.append_ #[t,t] ty #[.slice (some ⟨g,0,none⟩) n cap,.slice (some ⟨b,0,none⟩) 1 cc]).run P w = .ok (.slice (some ⟨g',0,none⟩) (n+1) cap') W' ∧
   Ts W' g' (n+1) cap' (L ++ [x])∧Only [g] w W'∧(g'=g∨w.heap.size≤g'):=by
 have hts:=h;obtain⟨h1,h2,h3,cur,fr,h4,h5,h6,h7⟩:=h;obtain⟨i,hi0,hz,hz1,hz2⟩:∃ i,P.info? 5=some i∧i.zero=some (.int .u8 0)∧i.size=1∧i.bytes=1:=by
  cases hq:P.info? 5 with
  | none=>rw[hq] at hi;cases hi
  | some i=>rw[hq] at hi;simp only[Option.map_some,Option.some.injEq,Prod.mk.injEq] at hi;exact⟨i,rfl,hi⟩
 have hcb:w.cell? ⟨b,0,none⟩=some (bv x):=by simp[World.cell?,hb]
 have hnews:∀ j u,[bv x][j]? = some u→w.cell? ((⟨b,0,none⟩:Addr).add j)=some u:=by
  intro j u hj;cases j with
  | zero=>simp at hj;subst hj;simpa [Addr.add] using hcb
  | succ j=>simp at hj
 by_cases hroom:n+1≤cap
 ·
  refine⟨g,cap,w.setCell ⟨g,n,none⟩ (bv x),?_,?_,Only.setCell _ _ _ (by simp),.inl rfl⟩
  ·
   have hf:=run_firstCells_some (P:=P) w 1 1 ⟨b,0,none⟩ 1 cc [bv x] (by simp) hnews;have hc:(w.cell? ⟨g,n,none⟩).isSome=true:=by simp[World.cell?,h4];omega
   have hfz:w.frozen? ⟨g,n,none⟩=false:=by
    have:=h6 n (by omega)
    simp only[World.frozen?,h4]
    simpa using this
   have hst:=run_storeCells_cells (P:=P) g n [bv x] 0 w (fun j hj=>by simp at hj;subst hj;simpa using hc) (fun j hj=>by simp at hj;subst hj;simpa using hfz) (fun v hv=>by simp at hv;subst hv;rfl);simp only[Nat.add_zero,World.setCells] at hst;simp[Builtin.append_,run_underlying hu,sizeOf,typeInfo,hi0,hz1,Builtin.lenOf,hroom,hf,Addr.add_lit,hst]
  ·
   refine⟨by simp[h1],hroom,h3,cur.setIfInBounds n (bv x),fr,?_,by simp[h5],h6,?_⟩
   ·
    simp[World.setCell,Array.getElem?_modify,h4]
   ·
    rw[Array.toList_setIfInBounds,List.take_succ_eq_append_getElem (by simp;omega),List.take_set_of_le (Nat.le_refl _),h7,List.getElem_set_self]
    simp
 ·
  have holds:∀ j u,(L.map bv)[j]? = some u→w.cell? ((⟨g,0,none⟩:Addr).add j)=some u:=by
   intro j u hj;have hlt:j<n:=by have:=(List.getElem?_eq_some_iff.1 hj).1;simp at this;omega
   rw[List.getElem?_map,List.getElem?_eq_getElem (by omega)] at hj
   have:=hts.cell j hlt
   rw[List.getD_eq_getElem?_getD,List.getElem?_eq_getElem (by omega)] at this;have e:(⟨g,0,none⟩:Addr).add j=⟨g,j,none⟩:=by unfold Addr.add;split<;>simp_all
   rw[e,this];exact hj
  have hr:=run_append_grow (P:=P) w t ty 5 i (.int .u8 0) hu hi0 hz ⟨g,0,none⟩ n cap (L.map bv) (by rw[hz1];simp[h1]) holds ⟨b,0,none⟩ 1 cc [bv x] (by simp[hz1]) hnews (by omega) (by omega) (growslice_fits (by omega) (by rw[hz2];omega));refine⟨w.heap.size,_,_,hr,?_,⟨rfl,rfl,rfl,by simp,fun k hk _=>Below.heap_alloc w.drew _ k hk⟩,.inr (Nat.le_refl _)⟩;have hge:=grownCap_ge w (n+1) cap 5;refine⟨by simp[h1],hge,grownCap_le_maxLen w (n+1) cap 5 (by unfold maxLen;omega),_,_,heap_alloc_new w.drew _,?_,fun j _=>by simp,?_⟩
  ·
   simp only[Array.size_append,List.size_toArray,size_zeroCells,List.length_map,h1,List.length_singleton];simp[Value.cells];omega
  ·
   simp only[Array.toList_append,List.append_assoc];rw[←List.append_assoc,List.take_append_of_le_length (by simp[h1]),List.take_of_length_le (by simp[h1])]
   simp
end
def bytesN (b:ByteArray):List Nat:=b.data.toList.map UInt8.toNat
theorem bytesN_len (b:ByteArray):(bytesN b).length=b.size:=by simp[bytesN]
theorem ts_conv (w:World) (s:ByteArray) (hs:s.size≤1000000000000):Ts (Lib.bytesWorld w 5 s) w.heap.size s.size (grownCap w s.size 0 5) (bytesN s):=by
 have hge:=grownCap_ge w s.size 0 5;refine⟨bytesN_len s,hge,grownCap_le_maxLen w s.size 0 5 (by unfold maxLen;omega),_,_,Lib.bytesWorld_at_new w 5 s,?_,?_,?_⟩
 ·
  simp[Lib.bytesCells];omega
 ·
  intro j hj h;simp[Lib.bytesCells] at h;omega
 ·
  have e:(s.data.map fun b=>Value.int .u8 b.toNat).toList=(bytesN s).map bv:=by simp[bytesN,Function.comp_def]
  unfold Lib.bytesCells;rw[Array.toList_append,e,List.take_append_of_le_length (by simp[bytesN]),List.take_of_length_le (by simp[bytesN])]
end Go.Proofs.YtoaimoemaoinhaaGreatDoor.Sk
namespace Go.Proofs.YtoaimoemaoinhaaGreatDoor.Sk
open Go.RowKit Go.Rt
theorem info5 : (Tryz.prog.info? 5).map (fun i=>(i.zero,i.size,i.bytes))=some (some (.int .u8 0),1,1):=by kernel_rfl
section
variable {w w':World} {g n cap:Nat} {L:List Nat}
end
end Go.Proofs.YtoaimoemaoinhaaGreatDoor.Sk
namespace Go.Proofs.YtoaimoemaoinhaaGreatDoor.Sk
open Go.RowKit Go.Rt
end Go.Proofs.YtoaimoemaoinhaaGreatDoor.Sk
namespace Go.Proofs.YtoaimoemaoinhaaGreatDoor.Sk
open Go.RowKit
def valF (b:ByteArray):Nat→Nat
 | 0=>0
 | k+1=>256*valF b k+(b.data.getD k 0).toNat
theorem or_next (x c:Nat) (hx:x≤72057594037927935) (hc:c<256):bits .or .u64 ((x:Int)*256) (c:Int)=256*(x:Int)+c:=by
 rw[show (x:Int)*256=((x*256:Nat):Int) by omega,u64_or_nat _ _ (by omega) (by omega)]
 have:=Nat.two_pow_add_eq_or_of_lt (i:=8) (b:=c) (by omega) x
 rw[show x*256=2 ^ 8*x by omega,←this];omega
theorem valF_lt (b:ByteArray) (k:Nat):valF b k<256 ^ k:=by
 induction k with
 | zero=>simp[valF]
 | succ k ih=>
  have:=(b.data.getD k 0).toNat_lt
  simp only[valF,Nat.pow_succ];omega
theorem valF_at (b:ByteArray) (k:Nat) (hk:k<b.size):valF b (k+1)=256*valF b k+b[k].toNat:=by
 have e:b.data.getD k 0=b[k]:=by
  have hd:k<b.data.size:=hk;unfold Array.getD;rw[dif_pos hd];rfl
 rw[valF,e]
set_option maxHeartbeats 400000 in
theorem value_any (b:ByteArray) (hb:b.size≤8) (w:World) :
  Calls Tryz.prog 203 #[.string b] w fun e w'=>e = .returned (.int .u64 (valF b b.size))∧w=w':=by
 go_enter Tryz.func203,Tryz.ntmps203;go_wp2;go_loop [3,7] (fun s i=>∃ k:Nat,k≤b.size∧i = .int .i64 k∧s = .int .u64 (valF b k)) (fun _ i=>b.size-(intOf i).toNat)
 case atStart=>exact⟨0,Nat.zero_le _,rfl,rfl⟩
 case round=>
  obtain⟨k,hk,rfl,rfl⟩:=hrel
  by_cases hlt:k<b.size
  ·
   have HS:=qH (valF_at b k hlt);have hbd:valF b k≤72057594037927935:=by
    have:=valF_lt b k
    have:(256:Nat) ^ k≤256 ^ 7:=Nat.pow_le_pow_right (by omega) (by omega)
    omega
   have hcl:b[k].toNat<256:=b[k].toNat_lt;obtain⟨x,hx⟩:∃ x,x=valF b k:=⟨_,rfl⟩;have HS2:=HS.out;rw[←hx] at hbd HS2 ⊢;have HS3:=qH HS2;clear HS2 HS hx;go_wp2;go_round
   case rel=>exact⟨k+1,by omega,by go_num,by rw[HS3.out];simp[or_next x _ hbd hcl]⟩
   case measure=>simp[intOf];omega
  ·
   obtain rfl:k=b.size:=by omega
   go_wp2;go_ret;exact⟨rfl,rfl⟩
end Go.Proofs.YtoaimoemaoinhaaGreatDoor.Sk
namespace Go.Proofs.YtoaimoemaoinhaaGreatDoor.Sk
open Go.RowKit
theorem cut_none (b:ByteArray) (hb:b.size=0) (w:World) :
  Calls Tryz.prog 202 #[.string b] w fun e w'=>e = .returned (.tuple #[.string ByteArray.empty,.string ByteArray.empty,.bool false])∧w=w':=by
 have hs:(b.toList==(ByteArray.mk #[]).toList)=true:=by
  have:b=ByteArray.mk #[]:=by
   apply ByteArray.ext;exact Array.eq_empty_of_size_eq_zero hb
  subst this;simp
 have hb':((b.size:Int)==0)=true:=by simp[hb]
 go_enter Tryz.func202,Tryz.ntmps202;go_wp2;go_ret3;exact⟨rfl,rfl⟩
theorem cut_short (b:ByteArray) (h0:0<b.size) (h1:b.size<1+b[0].toNat) (w:World) :
  Calls Tryz.prog 202 #[.string b] w fun e w'=>e = .returned (.tuple #[.string ByteArray.empty,.string ByteArray.empty,.bool false])∧w=w':=by
 have hb':((b.size:Int)==0)=false:=by rw[beq_eq_false_iff_ne];omega
 have hcl:b[0].toNat<256:=b[0].toNat_lt;have hlt:(b.size:Int)<1+(b[0].toNat:Int):=by omega
 go_enter Tryz.func202,Tryz.ntmps202;go_wp2;go_ret3;exact⟨rfl,rfl⟩
theorem cut_some (b:ByteArray) (h0:0<b.size) (h1:1+b[0].toNat≤b.size) (hz:b.size≤1000000) (w:World) :
  Calls Tryz.prog 202 #[.string b] w fun e w'=>e = .returned (.tuple #[.string (b.extract 1 (1+b[0].toNat)),.string (b.extract (1+b[0].toNat) b.size),.bool true])∧∃ n,w'=w.drewN n:=by
 have hb':((b.size:Int)==0)=false:=by rw[beq_eq_false_iff_ne];omega
 have hcl:b[0].toNat<256:=b[0].toNat_lt;have hlt:¬(b.size:Int)<1+(b[0].toNat:Int):=by omega
 go_enter Tryz.func202,Tryz.ntmps202;go_wp2;go_quiet (fail);go_wp2;go_ret3;exact⟨rfl,_,rfl⟩
end Go.Proofs.YtoaimoemaoinhaaGreatDoor.Sk
namespace Go.Proofs.YtoaimoemaoinhaaGreatDoor.Sk
open Go.RowKit Go.Rt
end Go.Proofs.YtoaimoemaoinhaaGreatDoor.Sk
namespace Go.Proofs.YtoaimoemaoinhaaGreatDoor.Sk
open Go.RowKit Go.Rt
def preF (s p:ByteArray):Bool:=decide (p.size≤s.size)&&((s.extract 0 p.size).toList==p.toList)
theorem has_long (s p:ByteArray) (h:s.size<p.size) (w:World) :
  Calls Tryz.prog 242 #[.string s,.string p] w fun e w'=>e = .returned (.bool false)∧w=w':=by
 have h1:decide ((p.size:Int)≤s.size)=false:=by simp;omega
 have h3:¬(p.size≤s.size):=by omega
 go_enter Tryz.func242,Tryz.ntmps242;go_wp2;go_ret;exact⟨rfl,rfl⟩
theorem has_short (s p:ByteArray) (h:p.size≤s.size) (w:World) :
  Calls Tryz.prog 242 #[.string s,.string p] w fun e w'=>e = .returned (.bool ((s.extract 0 p.size).toList==p.toList))∧w=w':=by
 have h1:decide ((p.size:Int)≤s.size)=true:=by simp;omega
 go_enter Tryz.func242,Tryz.ntmps242;go_wp2;go_ret;exact⟨rfl,rfl⟩
theorem has_any (s p:ByteArray) (w:World) :
  Calls Tryz.prog 242 #[.string s,.string p] w fun e w'=>e = .returned (.bool (preF s p))∧w=w':=by
 unfold preF
 by_cases h:p.size≤s.size
 ·
  rw[decide_eq_true h,Bool.true_and];exact has_short s p h w
 ·
  rw[decide_eq_false h,Bool.false_and];exact has_long s p (by omega) w
theorem cutp_no (s p:ByteArray) (h:preF s p=false) (w:World) :
  Calls Tryz.prog 222 #[.string s,.string p] w fun e w'=>e = .returned (.tuple #[.string s,.bool false])∧w=w':=by
 have C:=has_any s p w;rw[h] at C;have HC:=qH C;clear C h;go_enter Tryz.func222,Tryz.ntmps222;go_wp2_with (go_at_call 242;refine HC.out.mono ?_;rintro e w' ⟨rfl,rfl⟩);go_ret2;exact⟨rfl,rfl⟩
theorem cutp_yes (s p:ByteArray) (h:preF s p=true) (w:World) :
  Calls Tryz.prog 222 #[.string s,.string p] w fun e w'=>e = .returned (.tuple #[.string (s.extract p.size s.size),.bool true])∧w=w':=by
 have C:=has_any s p w;rw[h] at C;have HC:=qH C;have hl:p.size≤s.size:=by
  unfold preF at h;rw[Bool.and_eq_true] at h;exact of_decide_eq_true h.1
 clear C h;go_enter Tryz.func222,Tryz.ntmps222;go_wp2_with (go_at_call 242;refine HC.out.mono ?_;rintro e w' ⟨rfl,rfl⟩);go_ret2;exact⟨rfl,rfl⟩
end Go.Proofs.YtoaimoemaoinhaaGreatDoor.Sk
namespace Go.Proofs.YtoaimoemaoinhaaGreatDoor.Sk
open Go.RowKit
attribute [local go_sem ↓] Go.wp_at_zero Go.wp_at_succ
def wordF (p:List Nat) (k:Nat):Nat:=((p.getD (4*k) 0*256+p.getD (4*k+1) 0)*256+p.getD (4*k+2) 0)*256+p.getD (4*k+3) 0
def lowF (x:Nat):Nat:=rotr 7 x ^^^ rotr 18 x ^^^ x / 8
def highF (x:Nat):Nat:=rotr 17 x ^^^ rotr 19 x ^^^ x / 1024
def nextF (w:List Nat) (k:Nat):Nat:=(w.getD (k-16) 0+lowF (w.getD (k-15) 0)+w.getD (k-7) 0+highF (w.getD (k-2) 0)) % 4294967296
def schedL (p:List Nat):Nat→List Nat
 | 0=>[]
 | k+1=>schedL p k ++ [if k<16 then wordF p k else nextF (schedL p k) k]
theorem schedL_len (p:List Nat) (k:Nat):(schedL p k).length=k:=by induction k with
 | zero=>rfl
 | succ k ih=>simp[schedL,ih]
def arrK (p:List Nat) (k:Nat):Array Value:=((schedL p k++List.replicate (64-k) 0).map wv).toArray
theorem arrK_set (p:List Nat) (k:Nat) (hk:k<64):(arrK p k).setIfInBounds k (wv (if k<16 then wordF p k else nextF (schedL p k) k))=arrK p (k+1):=by
 unfold arrK;rw[map_set]
 congr 2
 rw[List.set_append_right _ _ (by rw[schedL_len];omega),schedL_len,Nat.sub_self,schedL,List.append_assoc]
 congr 1
 rw[show 64-k=(64-(k+1))+1 by omega,List.replicate_succ];rfl
theorem or_join (x y i:Nat) (hx:x % 2 ^ i=0) (hy:y<2 ^ i) (hx2:x<4294967296) (hy2:y<4294967296):bits .or .u32 (x:Int) (y:Int)=((x+y:Nat):Int):=by
 rw[u32_or_nat _ _ hx2 hy2,nat_join i x y hx hy]
theorem word_bits (a0 a1 a2 a3:Nat) (h0:a0<256) (h1:a1<256) (h2:a2<256) (h3:a3<256) :
  bits .or .u32 (bits .or .u32 (bits .or .u32 ((a0:Int)*16777216) ((a1:Int)*65536)) ((a2:Int)*256)) (a3:Int)=((((a0*256+a1)*256+a2)*256+a3:Nat):Int):=by
 have e1:=or_join (a0*16777216) (a1*65536) 24 (by omega) (by omega) (by omega) (by omega);have e2:=or_join (a0*16777216+a1*65536) (a2*256) 16 (by omega) (by omega) (by omega) (by omega);have e3:=or_join (a0*16777216+a1*65536+a2*256) a3 8 (by omega) (by omega) (by omega) (by omega);rw[Int.natCast_mul,Int.natCast_mul] at e1;rw[Int.natCast_mul] at e2;rw[show (a0:Int)*16777216=(a0:Int)*((16777216:Nat):Int) by omega,show (a1:Int)*65536=(a1:Int)*((65536:Nat):Int) by omega,show (a2:Int)*256=(a2:Int)*((256:Nat):Int) by omega]
 rw[e1,e2,e3,show a0*16777216+a1*65536+a2*256+a3=((a0*256+a1)*256+a2)*256+a3 by omega]
theorem low_lt (x:Nat) (h:x<4294967296):lowF x<4294967296:=
 Nat.xor_lt_two_pow (n:=32) (Nat.xor_lt_two_pow (n:=32) (rotr_lt 7 x h) (rotr_lt 18 x h)) (by omega)
theorem high_lt (x:Nat) (h:x<4294967296):highF x<4294967296:=
 Nat.xor_lt_two_pow (n:=32) (Nat.xor_lt_two_pow (n:=32) (rotr_lt 17 x h) (rotr_lt 19 x h)) (by omega)
theorem low_bits (x:Nat) (h:x<4294967296):bits .xor .u32 (bits .xor .u32 ↑(rotr 7 x) ↑(rotr 18 x)) ((x:Int) / 8)=(lowF x:Int):=by
 rw[u32_xor_nat _ _ (rotr_lt 7 x h) (rotr_lt 18 x h),show (x:Int) / 8=((x / 8:Nat):Int) by omega,
  u32_xor_nat _ _ (Nat.xor_lt_two_pow (n:=32) (rotr_lt 7 x h) (rotr_lt 18 x h)) (by omega)]
 rfl
theorem high_bits (x:Nat) (h:x<4294967296):bits .xor .u32 (bits .xor .u32 ↑(rotr 17 x) ↑(rotr 19 x)) ((x:Int) / 1024)=(highF x:Int):=by
 rw[u32_xor_nat _ _ (rotr_lt 17 x h) (rotr_lt 19 x h),show (x:Int) / 1024=((x / 1024:Nat):Int) by omega,
  u32_xor_nat _ _ (Nat.xor_lt_two_pow (n:=32) (rotr_lt 17 x h) (rotr_lt 19 x h)) (by omega)]
 rfl
theorem i47 {L:List Nat} (h:L.length=64):(Tryz.prog.info? 323).map (·.size)=some ((L.map wv).toArray).size:=by
 have:(Tryz.prog.info? 323).map (·.size)=some 64:=by kernel_rfl
 rw[this];simp[h]
theorem word_lt (p:List Nat) (hb:∀ x∈p,x<256) (k:Nat):wordF p k<4294967296:=by
 have h:∀ j,p.getD j 0<256:=by
  intro j;rw[List.getD_eq_getElem?_getD];cases hj:p[j]? with
  | none=>simp
  | some v=>exact hb v (List.mem_of_getElem? hj)
 have h0:=h (4*k);have h1:=h (4*k+1);have h2:=h (4*k+2);have h3:=h (4*k+3);unfold wordF;omega
theorem sched_lt (p:List Nat) (hb:∀ x∈p,x<256) (k j:Nat):(schedL p k).getD j 0<4294967296:=by
 have h:∀ x∈schedL p k,x<4294967296:=by
  induction k with
  | zero=>intro x hx;simp[schedL] at hx
  | succ k ih=>
   intro x hx;simp only[schedL,List.mem_append,List.mem_singleton] at hx;rcases hx with hx|hx
   ·
    exact ih x hx
   ·
    rw[hx];split
    ·
     exact word_lt p hb k
    ·
     unfold nextF;omega
 rw[List.getD_eq_getElem?_getD];cases hj:(schedL p k)[j]? with
 | none=>simp
 | some v=>exact h v (List.mem_of_getElem? hj)
set_option maxHeartbeats 1000000 in
theorem schedule_any (p:List Nat) (hp:p.length=64) (hb:∀ x∈p,x<256) (w:World) :
  Calls Tryz.prog 265 #[.agg (p.map bv).toArray] w fun e w'=>e = .returned (.agg ((schedL p 64).map wv).toArray)∧Below w.heap.size w w':=by
 go_enter Tryz.func265,Tryz.ntmps265;go_wp2;go_loopw [9] (fun s9 wr=>∃ k:Nat,k≤16∧s9 = .int .i64 k∧Blk wr w.heap.size 303 (p.map bv).toArray∧Blk wr (w.heap.size+1) 323 (arrK p k)∧Below w.heap.size w wr) (fun s _=>16-(intOf s).toNat)
 case atStart=>
  refine⟨0,by omega,rfl,(Blk.new w 303 _).alloc _,?_,((Below.refl _ _).alloc (Nat.le_refl _) _).alloc (by simp) _⟩
  have:=Blk.new (w.alloc (.cells (p.map bv).toArray 303)) 323 (arrK p 0)
  rw[World.size_alloc] at this;exact this
 case round=>
  obtain⟨k,hk,rfl,b1,b2,bl⟩:=hrel
  by_cases hlt:k<16
  ·
   have i0:=b1.cell (4*k);have i1:=b1.cell (4*k+1);have i2:=b1.cell (4*k+2);have i3:=b1.cell (4*k+3);rw[map_get p _ (by omega)] at i0 i1 i2 i3;have h0:p[4*k]<256:=hb _ (List.getElem_mem _);have h1:p[4*k+1]<256:=hb _ (List.getElem_mem _);have h2:p[4*k+2]<256:=hb _ (List.getElem_mem _);have h3:p[4*k+3]<256:=hb _ (List.getElem_mem _);have gd:∀ j,(hj:j<p.length)→p.getD j 0=p[j]:=fun j hj=>by rw[List.getD_eq_getElem?_getD,List.getElem?_eq_getElem hj];rfl
   have HW:Hid (wordF p k=((p[4*k]*256+p[4*k+1])*256+p[4*k+2])*256+p[4*k+3]):=by
    refine qH ?_;unfold wordF;rw[gd _ (by omega),gd _ (by omega),gd _ (by omega),gd _ (by omega)]
   generalize p[4*k]=a0 at *;generalize p[4*k+1]=a1 at *;generalize p[4*k+2]=a2 at *;generalize p[4*k+3]=a3 at *;have f2:=b2.frozen k;have c2:wr.cell? ⟨w.heap.size+1,k,none⟩=some (wv 0):=by
    refine(b2.cell k).trans ?_;unfold arrK;rw[map_get _ _ (by simp[schedL_len];omega),List.getElem_append_right (by rw[schedL_len];exact Nat.le_refl _)]
    simp
   clear gd;have HB1:=qH b1;have HB2:=qH b2;have HBL:=qH bl;clear b1 b2 bl;have k0:(0:Int)≤(k:Int):=by omega
   have k1:(k:Int)<64:=by omega
   have j0:(0:Int)≤4*(k:Int):=by omega
   have j1:4*(k:Int)+3<64:=by omega
   have j2:4*(k:Int)+2<64:=by omega
   have j3:4*(k:Int)+1<64:=by omega
   have j4:4*(k:Int)<64:=by omega
   have j5:0≤4*(k:Int)+1:=by omega
   have j6:0≤4*(k:Int)+2:=by omega
   have j7:0≤4*(k:Int)+3:=by omega
   have q0:IntKind.i64.wrap (4*(k:Int))=4*(k:Int):=IntWalk.i64_in _ (by omega);have q1:IntKind.i64.wrap (4*(k:Int)+1)=4*(k:Int)+1:=IntWalk.i64_in _ (by omega);have q2:IntKind.i64.wrap (4*(k:Int)+2)=4*(k:Int)+2:=IntWalk.i64_in _ (by omega);have q3:IntKind.i64.wrap (4*(k:Int)+3)=4*(k:Int)+3:=IntWalk.i64_in _ (by omega);have t0:(4*(k:Int)).toNat=4*k:=by omega
   have t1:(4*(k:Int)+1).toNat=4*k+1:=by omega
   have t2:(4*(k:Int)+2).toNat=4*k+2:=by omega
   have t3:(4*(k:Int)+3).toNat=4*k+3:=by omega
   go_wp2;go_region_held3 (fun w'=>w'.cell? ⟨w.heap.size,4*k,none⟩=some (bv a0)∧w'.cell? ⟨w.heap.size,4*k+1,none⟩=some (bv a1)∧w'.cell? ⟨w.heap.size,4*k+2,none⟩=some (bv a2)∧w'.cell? ⟨w.heap.size,4*k+3,none⟩=some (bv a3)) (go_keep) (fail);go_wp2;go_roundw
   case rel=>
    refine⟨k+1,by omega,by go_num,(HB1.out.far (by simp) _).drew,?_,(HBL.out.setCell (by simp) _).drew⟩;rw[word_bits a0 a1 a2 a3 h0 h1 h2 h3]
    have:=(HB2.out.set_ k (wv (((a0*256+a1)*256+a2)*256+a3))).drew
    rw[←HW.out] at this;rw[←HW.out];have e:=arrK_set p k (by omega);rw[if_pos hlt] at e;rw[e] at this;exact this
   case measure=>simp[intOf];omega
  ·
   obtain rfl:k=16:=by omega
   rw[show ((16:Nat):Int)=16 from rfl];go_wp2;go_loopw [4] (fun s4 wr=>∃ k:Nat,16≤k∧k≤64∧s4 = .int .i64 k∧Blk wr (w.heap.size+1) 323 (arrK p k)∧Below w.heap.size w wr) (fun s _=>64-(intOf s).toNat)
   case atStart=>exact⟨16,by omega,by omega,rfl,b2,bl⟩
   case round=>
    obtain⟨k,hk1,hk2,rfl,b3,bl3⟩:=hrel;clear b1 b2 bl
    by_cases hlt:k<64
    ·
     have gt:∀ j,j<k→wr.cell? ⟨w.heap.size+1,j,none⟩=some (wv ((schedL p k).getD j 0)):=by
      intro j hj;refine(b3.cell j).trans ?_;unfold arrK;rw[map_get _ _ (by simp[schedL_len];omega),List.getElem_append_left (by rw[schedL_len];exact hj)];rw[List.getD_eq_getElem?_getD,List.getElem?_eq_getElem (by rw[schedL_len];exact hj)];rfl
     have c2:wr.cell? ⟨w.heap.size+1,k,none⟩=some (wv 0):=by
      refine(b3.cell k).trans ?_;unfold arrK;rw[map_get _ _ (by simp[schedL_len];omega),List.getElem_append_right (by rw[schedL_len];exact Nat.le_refl _)]
      simp
     have g16:=gt (k-16) (by omega);have g15:=gt (k-15) (by omega);have g7:=gt (k-7) (by omega);have g2:=gt (k-2) (by omega);have f2:=b3.frozen k;have HN:Hid (nextF (schedL p k) k=_):=qH (by unfold nextF;rfl);have l15:=sched_lt p hb k (k-15);have l2:=sched_lt p hb k (k-2);generalize (schedL p k).getD (k-16) 0=x16 at *;generalize (schedL p k).getD (k-15) 0=x15 at *;generalize (schedL p k).getD (k-7) 0=x7 at *
     generalize (schedL p k).getD (k-2) 0=x2 at *;have HB3:=qH b3;have HBL3:=qH bl3;clear gt b3 bl3;have k0:(0:Int)≤(k:Int):=by omega
     have k1:(k:Int)<64:=by omega
     have m1:(16:Int)≤(k:Int):=by omega
     have m2:(15:Int)≤(k:Int):=by omega
     have m3:(7:Int)≤(k:Int):=by omega
     have m4:(2:Int)≤(k:Int):=by omega
     have m5:(k:Int)-16<64:=by omega
     have m6:(k:Int)-15<64:=by omega
     have m7:(k:Int)-7<64:=by omega
     have m8:(k:Int)-2<64:=by omega
     have q1:IntKind.i64.wrap ((k:Int)-16)=(k:Int)-16:=IntWalk.i64_in _ (by omega);have q2:IntKind.i64.wrap ((k:Int)-15)=(k:Int)-15:=IntWalk.i64_in _ (by omega);have q3:IntKind.i64.wrap ((k:Int)-7)=(k:Int)-7:=IntWalk.i64_in _ (by omega);have q4:IntKind.i64.wrap ((k:Int)-2)=(k:Int)-2:=IntWalk.i64_in _ (by omega);have t1:((k:Int)-16).toNat=k-16:=by omega
     have t2:((k:Int)-15).toNat=k-15:=by omega
     have t3:((k:Int)-7).toNat=k-7:=by omega
     have t4:((k:Int)-2).toNat=k-2:=by omega
     go_wp2;go_region_held3 (fun w'=>w'.cell? ⟨w.heap.size+1,k-15,none⟩=some (wv x15)∧w'.cell? ⟨w.heap.size+1,k-2,none⟩=some (wv x2)) (go_keep) (fail);go_wp2_with fail;refine(rot_at 7 (-7) x15 _ (by decide) l15 (by omega) (by omega)).mono ?_;rintro e w' ⟨rfl,rfl⟩;go_wp2_with fail;refine(rot_at 18 (-18) x15 _ (by decide) l15 (by omega) (by omega)).mono ?_;rintro e w' ⟨rfl,rfl⟩;go_wp2_with fail;refine(rot_at 17 (-17) x2 _ (by decide) l2 (by omega) (by omega)).mono ?_
     rintro e w' ⟨rfl,rfl⟩;go_wp2_with fail;refine(rot_at 19 (-19) x2 _ (by decide) l2 (by omega) (by omega)).mono ?_;rintro e w' ⟨rfl,rfl⟩;go_wp2_with fail;obtain⟨lo,hlo⟩:∃ lo:Nat,bits .xor .u32 (bits .xor .u32 ↑(rotr 7 x15) ↑(rotr 18 x15)) ((x15:Int) / 8)=(lo:Int)∧lo=lowF x15∧lo<4294967296:=⟨_,low_bits x15 l15,rfl,low_lt x15 l15⟩;obtain⟨hi,hhi⟩:∃ hi:Nat,bits .xor .u32 (bits .xor .u32 ↑(rotr 17 x2) ↑(rotr 19 x2)) ((x2:Int) / 1024)=(hi:Int)∧hi=highF x2∧hi<4294967296:=⟨_,high_bits x2 l2,rfl,high_lt x2 l2⟩
     rw[hlo.1,hhi.1];have HLO:=qH hlo.2.1;have HHI:=qH hhi.2.1;have b1:=hlo.2.2;have b2:=hhi.2.2;clear hlo hhi;have n16:∀ (W:World) (v:Value),(W.setCell ⟨w.heap.size+1,k,none⟩ v).cell? ⟨w.heap.size+1,k-16,none⟩=W.cell? ⟨w.heap.size+1,k-16,none⟩:=fun W v=>World.cell?_setCell_other _ _ _ _ (by intro e;injection e;omega)
     have n7:∀ (W:World) (v:Value),(W.setCell ⟨w.heap.size+1,k,none⟩ v).cell? ⟨w.heap.size+1,k-7,none⟩=W.cell? ⟨w.heap.size+1,k-7,none⟩:=fun W v=>World.cell?_setCell_other _ _ _ _ (by intro e;injection e;omega)
     go_region_held3 (fun w'=>w'.cell? ⟨w.heap.size+1,k-16,none⟩=some (wv x16)∧w'.cell? ⟨w.heap.size+1,k-7,none⟩=some (wv x7)) (go_keep) (fail);go_wp2;go_roundw
     case rel=>
      have hv:((((x16:Int)+(lo:Int)) % 4294967296+(x7:Int)) % 4294967296+(hi:Int)) % 4294967296=((nextF (schedL p k) k:Nat):Int):=by
       rw[HN.out,←HLO.out,←HHI.out];omega
      rw[hv];have this:=(HB3.out.set_ k (wv (nextF (schedL p k) k))).drew.drew;have e:=arrK_set p k (by omega);rw[if_neg (by omega)] at e;rw[e] at this;exact⟨k+1,by omega,by omega,by go_num,this,(HBL3.out.setCell (by simp) _).drew.drew⟩
     case measure=>simp[intOf];omega
    ·
     obtain rfl:k=64:=by omega
     have HB3:=qH b3;have HBL:=qH bl3;clear b3 bl3;go_wp2_with (first
      | (refine wpList_load_blk rfl 323 _ rfl (w.heap.size+1) rfl _ 323 _ HB3.out Tryz.underlying323 rfl (i47 (by simp[schedL_len])) ?_)
      | (refine wpList_store_blk rfl 323 _ _ rfl rfl (w.heap.size+1) _ _ 323 rfl rfl HB3.out rfl (i47 (by simp[schedL_len])) (one_map (fun _=>rfl) _) ?_;intro w4 b4 o4))
     refine bodyPost_ret (results_blk Tryz.results265 _ _ (w.heap.size+1) _ _ rfl b4 Tryz.underlying323 rfl (i47 (by simp[schedL_len]))) rfl ?_;refine⟨?_,HBL.out.trans (o4.below (by simp) HBL.out.size)⟩;simp[arrK]
end Go.Proofs.YtoaimoemaoinhaaGreatDoor.Sk
