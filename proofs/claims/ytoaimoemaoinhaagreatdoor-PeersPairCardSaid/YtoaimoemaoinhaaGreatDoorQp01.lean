/- PeersX: a part of the proof. No condition beyond the premises of each theorem. -/
import Derived.RangeFuncNested
import Derived.RangeFuncBound
import Derived.RangeFuncCalls
import Derived.RangeFuncLeaves
import Derived.RangeFuncBox
import Derived.Deep.Draws
import Derived.Laws.OwnMore
import Derived.OwnWalkIn
import Derived.Deep.RegionLaw
import Derived.Lib.Hide
import Derived.Maps.AppendAt
import Derived.Test.YtoaimoemaoinhaaGreatDoorProg
import Derived.Test.YtoaimoemaoinhaaGreatDoorChecked
import Derived.WalkKit
import Derived.WalkSpells
import Derived.WalkLawsBesides
import Derived.RegionTactic
import Derived.Deep.QuietTactic
import Derived.BigQuiet
import Derived.Outline
import Derived.IntWalk
import Derived.Below
import Derived.Deep.MidRow
import Derived.Laws.AppendOwn
import Derived.Laws.MakeOwn
import Derived.Test.YtoaimoemaoinhaaGreatDoorQp00
set_option maxRecDepth 100000
namespace Go.Rt
open Go Go.RowKit
structure Only (bs:List Nat) (w w':World):Prop where
 os:w'.os=w.os
 tape:w'.tape=w.tape
 output:w'.output=w.output
 size:w.heap.size≤w'.heap.size
 block:∀ k,k<w.heap.size→k∉bs→w'.heap[k]? = w.heap[k]?
theorem Only.refl (bs:List Nat) (w:World):Only bs w w:=⟨rfl,rfl,rfl,Nat.le_refl _,fun _ _ _=>rfl⟩
theorem Only.trans {bs:List Nat} {a b c:World} (h:Only bs a b) (k:Only bs b c):Only bs a c:=
 ⟨k.os.trans h.os,k.tape.trans h.tape,k.output.trans h.output,Nat.le_trans h.size k.size,fun i hi hn=>(k.block i (by have:=h.size;omega) hn).trans (h.block i hi hn)⟩
theorem Only.drew (bs:List Nat) (w:World):Only bs w w.drew:=⟨rfl,rfl,rfl,Nat.le_refl _,fun _ _ _=>rfl⟩
theorem Only.drewN (bs:List Nat) (w:World) (n:Nat):Only bs w (w.drewN n):=⟨rfl,rfl,rfl,Nat.le_refl _,fun _ _ _=>rfl⟩
theorem Only.alloc (bs:List Nat) (w:World) (o:Obj):Only bs w (w.alloc o):=⟨rfl,rfl,rfl,by simp,fun k hk _=>Below.heap_alloc _ _ _ hk⟩
theorem Only.setCell {bs:List Nat} (w:World) (p:Addr) (v:Value) (hp:p.block∈bs):Only bs w (w.setCell p v):=
 ⟨rfl,rfl,rfl,by simp[World.setCell],fun k _ hn=>Below.heap_setCell _ _ _ _ (fun e=>hn (by rw[e];exact hp))⟩
theorem Only.putObj {bs:List Nat} (w:World) (b:Nat) (o:Obj) (hp:b∈bs):Only bs w (w.putObj b o):=
 ⟨rfl,rfl,rfl,by simp,fun k _ hn=>World.putObj_heap_other (fun e=>hn (by rw[e];exact hp))⟩
theorem Only.grown {bs:List Nat} {w w':World} {row:Option Nat} (h:w.grownBy w' row) (hr:∀ r,row=some r→r∈bs∨w.heap.size≤r):Only bs w w':=
 ⟨h.os,h.tape,h.output,h.size,fun k hk hn=>h.block k hk (fun e=>(hr k e.symm).elim hn (fun q=>by omega))⟩
theorem Only.of_below {bs:List Nat} {w w':World} (h:Below w.heap.size w w'):Only bs w w':=⟨h.os,h.tape,h.output,h.size,fun k hk _=>h.block k hk⟩
theorem Only.below {bs:List Nat} {w w':World} (h:Only bs w w') {n:Nat} (hb:∀ b∈bs,n≤b) (hn:n≤w.heap.size):Below n w w':=
 ⟨h.os,h.tape,h.output,h.size,fun k hk=>h.block k (by omega) (fun hm=>by have:=hb k hm;omega)⟩
theorem Only.mono {bs cs:List Nat} {w w':World} (h:Only bs w w') (hs:∀ b∈bs,b∈cs∨w.heap.size≤b):Only cs w w':=
 ⟨h.os,h.tape,h.output,h.size,fun k hk hn=>h.block k hk (fun hm=>(hs k hm).elim hn (fun q=>by omega))⟩
def Abides (J:Nat→List Nat→World→Prop):Prop:=
 ∀ k T A T' B,J k T A→Only T A B→(∀ r∈T',r∈T∨A.heap.size≤r)→(∀ r∈T',r<B.heap.size)→J k T' B
structure KeepsT (T:List Nat) (W W':World):Prop where
 size:W.heap.size≤W'.heap.size
 same:∀ r∈T,W'.heap[r]? = W.heap[r]?
theorem KeepsT.refl (T:List Nat) (W:World):KeepsT T W W:=⟨Nat.le_refl _,fun _ _=>rfl⟩
theorem KeepsT.trans {T:List Nat} {A B C:World} (h:KeepsT T A B) (k:KeepsT T B C):KeepsT T A C:=⟨Nat.le_trans h.size k.size,fun r hr=>(k.same r hr).trans (h.same r hr)⟩
theorem KeepsT.of_only {T bs:List Nat} {A B:World} (h:Only bs A B) (hd:∀ r∈T,r∉bs) (hT:∀ r∈T,r<A.heap.size):KeepsT T A B:=⟨h.size,fun r hr=>h.block r (hT r hr) (hd r hr)⟩
def SeqRuns {α:Type} (F:Fence) (n:Nat) (P:Program) (g:Nat) (lb:Array Value) (encs:α→Array Value) (xs:List α) (T0:List Nat) (Pre:World→Prop):Prop:=
 ∀ (l:Nat) (J Jx:Nat→List Nat→World→Prop) (W:World),Pre W→(∀ r∈T0,r<W.heap.size)→Abides J→Abides Jx →
  (∀ (k:Nat) (hk:k<xs.length) (T:List Nat) (W1:World),J k T W1→YieldAt F (n-1) P l (encs xs[k]) W1 fun e W'=>
   (e = .returned (.bool true)∧J (k+1) T W'∧KeepsT T W1 W')∨(e = .returned (.bool false)∧Jx (k+1) T W')) →
  J 0 T0 W →
  CallsIn F n P g (#[.func (.yield l) #[] #[]]++lb) W fun e W'=>(∃ v,e = .returned v)∧((∃ T,J xs.length T W')∨(∃ k T,k≤xs.length∧Jx k T W'))
def ownPostT (I:Nat→List Nat→World→Prop) (Ix:Code→Nat→List Nat→World→Prop) (k:Nat) (T:List Nat) (W:World):Exit→Act→World→Prop
 | .normal,_,W'=>KeepsT T W W'∧I k T W'
 | .ret,_,W'=>KeepsT T W W'∧Ix .ret k T W'
 | .exit id,_,W'=>KeepsT T W W'∧Ix (.exit id) k T W'
 | .goto t,_,W'=>KeepsT T W W'∧Ix (.goto t) k T W'
 | .panic _,_,_=>False
 | .outgrown,_,_=>False
variable {F:Fence} {n:Nat} {P:Program}
theorem wpIn_rangeFunc_T {α:Type} {g:Operand} {ps:Array Tmp} {assign body:Code} {Q:Exit→Act→World→Prop} {a:Act} {w:World}
  (hro:F.round=none) (h1:1≤n) {gf:Nat} {lb:Array Value} (hg:a.eval g = .func (.func gf) #[] lb) (hFg:F.fn gf) (eg:∀ args w,(callFunc gf args).run P w = .ok (.enter gf args) w)
  {encs:α→Array Value} {xs:List α} {T0:List Nat} {Pre:World→Prop} (hseq:SeqRuns F (n-1) P gf lb encs xs T0 Pre)
  (hpre:∀ W,Below w.heap.size w W→Pre W) (hT0:∀ r∈T0,r<w.heap.size) (hps:∀ x,(encs x).size=ps.size)
  (I:Nat→List Nat→World→Prop) (Ix:Code→Nat→List Nat→World→Prop) (hI:Abides I) (hIx:∀ c,Abides (Ix c)) (h0:I 0 T0 w) (a₁:α→Act)
  (hassign:∀ (l:Nat) (x:α) (W:World) (K:Act→World→Prop),K (a₁ x) W →
   assign.wpIn (F.inRound l) (n-1-1) P (Exit.then K (fun _ _ _=>False)) { tmps:=(ps.zip (encs x)).foldl (fun t (p,v)=>t.setIfInBounds p v) a.tmps,defers:=[] } W)
  (hbody:∀ (l:Nat) (k:Nat) (hk:k<xs.length) (T:List Nat) (W:World),I k T W→(∀ r∈T,r<W.heap.size)→body.wpIn (F.inRound l) (n-1-1) P (ownPostT I Ix (k+1) T W) (a₁ xs[k]) W)
  (hdone:∀ (D:Nat) (T:List Nat) (W:World),D∈T→(∀ r∈T,r<W.heap.size)→I xs.length T W→W.heap[D]? = some (.deferred (some []))→Q .normal { a with defers:={ target:=.collected D,args:=#[] } :: a.defers } W)
  (hstop:∀ (D:Nat) (T:List Nat) (c:Code) (k:Nat) (W:World),D∈T→(∀ r∈T,r<W.heap.size)→k≤xs.length→Ix c k T W→W.heap[D]? = some (.deferred (some []))→c.wpIn F n P Q { a with defers:={ target:=.collected D,args:=#[] } :: a.defers } W) :
  (Code.rangeFunc g ps assign body).wpIn F n P Q a w:=by
 refine wpIn_rangeFunc ?_;intro fn hfn;rw[hro];obtain⟨rec,hrec⟩:∃ rec:LoopState→Option Code→Loop,rec=fun st pe=>{ state:=st,pending:=pe,fn,tmps:=a.tmps,params:=ps,assign,body,defers:=w.heap.size }:=⟨_,rfl⟩
 obtain⟨W1,hW1⟩:∃ W1,(w.alloc (.deferred (some []))).alloc (.loop (rec .ready none))=W1:=⟨_,rfl⟩;have hL1:W1.heap[w.heap.size+1]? = some (.loop (rec .ready none)):=by
  rw[←hW1];have:=World.alloc_heap_new (w.alloc (.deferred (some []))) (.loop (rec .ready none));rwa [World.size_alloc] at this
 have hK1:W1.heap[w.heap.size]? = some (.deferred (some [])):=by
  rw[←hW1];exact(Below.heap_alloc _ _ _ (by simp)).trans (World.alloc_heap_new w _)
 have hb1:Below w.heap.size w W1:=by
  rw[←hW1];exact((Below.refl _ w).alloc (Nat.le_refl _) _).alloc (by simp) _
 have hz1:W1.heap.size=w.heap.size+2:=by rw[←hW1];simp
 have hI1:I 0 (w.heap.size::(w.heap.size+1)::T0) W1:=by
  refine hI 0 T0 w _ W1 h0 (Only.of_below hb1) ?_ ?_
  ·
   intro r hr;simp only[List.mem_cons] at hr;rcases hr with rfl|rfl|hr
   ·
    exact .inr (Nat.le_refl _)
   ·
    exact .inr (by omega)
   ·
    exact .inl hr
  ·
   intro r hr;simp only[List.mem_cons] at hr;rcases hr with rfl|rfl|hr
   ·
    omega
   ·
    omega
   ·
    have:=hT0 r hr;omega
 refine⟨w.heap.size+1,[{ target:=.collected w.heap.size,args:=#[] }],W1,{ target:=.fn (.func gf) lb,args:=#[.func (.yield (w.heap.size+1)) #[] #[]] },W1,gf,
  #[.func (.yield (w.heap.size+1)) #[] #[]]++lb,W1,?_,?_,?_,?_,fun _=>h1,?_⟩
 ·
  rw[←hW1,hrec];exact run_enterLoop_outer _ _ _ _ _
 ·
  simp only[resolve,hg];simp[go_sem]
 ·
  intro f' hf';simp[Target.leads] at hf';subst hf';exact hFg
 ·
  simp[invoke,go_sem,eg]
 ·
  -- the iterator's contract,at the caller's invariant with the facts of book-keeping beside it
  obtain⟨Bk,hBk⟩:∃ Bk:LoopState→Option Code→List Nat→World→Prop,Bk=fun st pe T W=>W.heap[w.heap.size+1]? = some (.loop (rec st pe))∧W.heap[w.heap.size]? = some (.deferred (some []))∧w.heap.size∉T∧(w.heap.size+1)∉T∧(∀ r∈T,r<W.heap.size):=⟨_,rfl⟩
  have hBa:∀ (st:LoopState) (pe:Option Code) (T:List Nat) (A:World) (T':List Nat) (B:World),Bk st pe T A→Only T A B→(∀ r∈T',r∈T∨A.heap.size≤r)→(∀ r∈T',r<B.heap.size)→Bk st pe T' B:=by
   intro st pe T A T' B hs ho hT hlt;rw[hBk] at hs ⊢;obtain⟨q1,q2,q3,q4,q5⟩:=hs;have l1:=(Array.getElem?_eq_some_iff.1 q1).1;have l2:=(Array.getElem?_eq_some_iff.1 q2).1;exact⟨(ho.block _ l1 q4).trans q1,(ho.block _ l2 q3).trans q2,fun hm=>(hT _ hm).elim q3 (fun _=>by omega),fun hm=>(hT _ hm).elim q4 (fun _=>by omega),hlt⟩
  have hIa:∀ {J:Nat→List Nat→World→Prop},Abides J→∀ (k:Nat) (T:List Nat) (A:World) (T':List Nat) (B:World),J k (w.heap.size::(w.heap.size+1)::T) A→w.heap.size+2≤A.heap.size→Only T A B→(∀ r∈T',r∈T∨A.heap.size≤r)→(∀ r∈T',r<B.heap.size)→J k (w.heap.size::(w.heap.size+1)::T') B:=by
   intro J hJ k T A T' B hj hsz ho hT hlt;refine hJ k _ A _ B hj (ho.mono (fun b hb=>.inl (by simp[hb]))) ?_ ?_
   ·
    intro r hr;simp only[List.mem_cons] at hr ⊢;rcases hr with rfl|rfl|hr
    ·
     exact .inl (.inl rfl)
    ·
     exact .inl (.inr (.inl rfl))
    ·
     exact(hT r hr).elim (fun h=>.inl (.inr (.inr h))) .inr
   ·
    intro r hr
    have:=ho.size
    simp only[List.mem_cons] at hr;rcases hr with rfl|rfl|hr
    ·
     omega
    ·
     omega
    ·
     exact hlt r hr
  have hput:∀ {J:Nat→List Nat→World→Prop},Abides J→∀ (k:Nat) (T:List Nat) (A:World) (o:Obj),J k (w.heap.size::(w.heap.size+1)::T) A→w.heap.size+2≤A.heap.size→(∀ r∈T,r<A.heap.size)→J k (w.heap.size::(w.heap.size+1)::T) (A.putObj (w.heap.size+1) o):=by
   intro J hJ k T A o hj hsz hlt;refine hJ k _ A _ _ hj (Only.putObj _ _ _ (by simp)) (fun r hr=>.inl hr) ?_;intro r hr;simp only[List.mem_cons] at hr
   have:(A.putObj (w.heap.size+1) o).heap.size=A.heap.size:=by simp
   rcases hr with rfl|rfl|hr
   ·
    omega
   ·
    omega
   ·
    have:=hlt r hr;omega
  refine(hseq (w.heap.size+1)
   (fun k T W=>I k (w.heap.size::(w.heap.size+1)::T) W∧Bk .ready none T W)
   (fun k T W=>∃ c,Ix c k (w.heap.size::(w.heap.size+1)::T) W∧Bk .done (some c) T W)
   W1 (hpre _ hb1) (fun r hr=>by have:=hT0 r hr;omega)
   (fun k T A T' B hs ho hT hlt=>?_) (fun k T A T' B hs ho hT hlt=>?_) ?_ ⟨hI1,?_⟩).mono ?_
  ·
   have hs2:=hs.2;rw[hBk] at hs2
   have:=(Array.getElem?_eq_some_iff.1 hs2.1).1
   exact⟨hIa hI k T A T' B hs.1 (by omega) ho hT hlt,hBa _ _ _ _ _ _ hs.2 ho hT hlt⟩
  ·
   obtain⟨c,hc,hb⟩:=hs;have hs2:=hb;rw[hBk] at hs2
   have:=(Array.getElem?_eq_some_iff.1 hs2.1).1
   exact⟨c,hIa (hIx c) k T A T' B hc (by omega) ho hT hlt,hBa _ _ _ _ _ _ hb ho hT hlt⟩
  ·
   -- one round
   rintro k hk T W ⟨hi,hb⟩;rw[hBk] at hb;obtain⟨hl,hd,hn1,hn2,hlt⟩:=hb;have hsz:w.heap.size+1<W.heap.size:=(Array.getElem?_eq_some_iff.1 hl).1;have hy:=run_yield (P:=P) (args:=encs xs[k]) hl (by rw[hrec];exact hps _);rw[hrec] at hy;refine⟨fn,_,assign,body,hy,roundIn_of_wpIn hfn (hassign _ xs[k] W _ ⟨_,run_beginRound hl (by rw[hrec]),?_⟩)⟩;have hl2:(W.putObj (w.heap.size+1) (.loop { rec .ready none with state:=.busy })).heap[w.heap.size+1]? = some (.loop { rec .ready none with state:=.busy }):=World.putObj_heap_same hsz
   have hd2:(W.putObj (w.heap.size+1) (.loop { rec .ready none with state:=.busy })).heap[w.heap.size]? = some (.deferred (some [])):=(World.putObj_heap_other (by omega)).trans hd;have hs2:(W.putObj (w.heap.size+1) (.loop { rec .ready none with state:=.busy })).heap.size=W.heap.size:=by simp
   refine wpIn_mono (hbody _ k hk (w.heap.size::(w.heap.size+1)::T) _ (hput hI k T W _ hi (by omega) hlt) ?_) ?_
   ·
    intro r hr;simp only[List.mem_cons] at hr;rw[World.putObj_size];rcases hr with rfl|rfl|hr
    ·
     omega
    ·
     omega
    ·
     have:=hlt r hr;omega
   have fin:∀ (jump:Option Code) (W3:World),KeepsT (w.heap.size::(w.heap.size+1)::T) (W.putObj (w.heap.size+1) (.loop { rec .ready none with state:=.busy })) W3 →
     (Instr.endRound (w.heap.size+1) jump).run P W3 = .ok (.bool jump.isNone) (W3.putObj (w.heap.size+1) (.loop (rec (if jump.isNone then .ready else .done) jump)))∧w.heap.size+2≤W3.heap.size∧(∀ r∈T,r<W3.heap.size) ∧
     Bk (if jump.isNone then .ready else .done) jump T (W3.putObj (w.heap.size+1) (.loop (rec (if jump.isNone then .ready else .done) jump))) ∧
     KeepsT T W (W3.putObj (w.heap.size+1) (.loop (rec (if jump.isNone then .ready else .done) jump))):=fun jump W3 hk3=>by
    have hl3:=(hk3.same _ (by simp)).trans hl2;have hd3:=(hk3.same w.heap.size (by simp)).trans hd2;have hz3:=hk3.size;rw[hs2] at hz3;have hsz3:(W3.putObj (w.heap.size+1) (.loop (rec (if jump.isNone then .ready else .done) jump))).heap.size=W3.heap.size:=by simp
    have:=run_endRound (P:=P) jump hl3
    refine⟨by rw[hrec] at this ⊢;exact this,by omega,fun r hr=>by have:=hlt r hr;omega,?_,?_⟩
    ·
     rw[hBk];exact⟨World.putObj_heap_same (Array.getElem?_eq_some_iff.1 hl3).1,(World.putObj_heap_other (by omega)).trans hd3,hn1,hn2,fun r hr=>by have:=hlt r hr;omega⟩
    ·
     refine⟨by omega,fun r hr=>?_⟩;have hne:r≠w.heap.size+1:=fun e=>hn2 (e▸hr)
     exact(World.putObj_heap_other hne).trans ((hk3.same r (by simp[hr])).trans (World.putObj_heap_other hne))
   rintro e a3 W3 hp;cases e with
   | normal=>
    obtain⟨hk3,hi3⟩:=hp;obtain⟨hr,hz3,hl3,hb4,hk4⟩:=fin none W3 hk3;exact⟨_,_,hr,.inl ⟨rfl,⟨hput hI _ _ _ _ hi3 hz3 hl3,hb4⟩,hk4⟩⟩
   | ret=>
    obtain⟨hk3,hi3⟩:=hp;obtain⟨hr,hz3,hl3,hb4,hk4⟩:=fin (some .ret) W3 hk3;exact⟨_,_,hr,.inr ⟨rfl,.ret,hput (hIx _) _ _ _ _ hi3 hz3 hl3,hb4⟩⟩
   | exit id=>
    obtain⟨hk3,hi3⟩:=hp;obtain⟨hr,hz3,hl3,hb4,hk4⟩:=fin (some (.exit id)) W3 hk3;exact⟨_,_,hr,.inr ⟨rfl,.exit id,hput (hIx _) _ _ _ _ hi3 hz3 hl3,hb4⟩⟩
   | goto t=>
    obtain⟨hk3,hi3⟩:=hp;obtain⟨hr,hz3,hl3,hb4,hk4⟩:=fin (some (.goto t)) W3 hk3;exact⟨_,_,hr,.inr ⟨rfl,.goto t,hput (hIx _) _ _ _ _ hi3 hz3 hl3,hb4⟩⟩
   | panic ch=>exact hp.elim
   | outgrown=>exact hp.elim
  ·
   rw[hBk];exact⟨hL1,hK1,fun hm=>by have:=hT0 _ hm;omega,fun hm=>by have:=hT0 _ hm;omega,fun r hr=>by have:=hT0 r hr;omega⟩
  ·
   -- behind the iterator
   rintro e W2 ⟨⟨v,rfl⟩,(⟨T,hi,hb⟩|⟨k,T,hk,c,hi,hb⟩)⟩
   ·
    rw[hBk] at hb;obtain⟨hl,hd,hn1,hn2,hlt⟩:=hb;have hsz:w.heap.size+1<W2.heap.size:=(Array.getElem?_eq_some_iff.1 hl).1;refine⟨none,_,by have:=run_endLoop (P:=P) hl (by rw[hrec];simp);rw[hrec] at this;exact this,hdone w.heap.size (w.heap.size::(w.heap.size+1)::T) _ (by simp) ?_ (hput hI _ _ _ _ hi (by omega) hlt) ((World.putObj_heap_other (by omega)).trans hd)⟩;intro r hr;simp only[List.mem_cons] at hr
    rcases hr with rfl|rfl|hr
    ·
     simp;omega
    ·
     simp;omega
    ·
     have:=hlt r hr;simp;omega
   ·
    rw[hBk] at hb;obtain⟨hl,hd,hn1,hn2,hlt⟩:=hb;have hsz:w.heap.size+1<W2.heap.size:=(Array.getElem?_eq_some_iff.1 hl).1;refine⟨some c,_,by have:=run_endLoop (P:=P) hl (by rw[hrec];simp);rw[hrec] at this;exact this,hstop w.heap.size (w.heap.size::(w.heap.size+1)::T) c k _ (by simp) ?_ hk (hput (hIx c) _ _ _ _ hi (by omega) hlt) ((World.putObj_heap_other (by omega)).trans hd)⟩;intro r hr;simp only[List.mem_cons] at hr
    rcases hr with rfl|rfl|hr
    ·
     simp;omega
    ·
     simp;omega
    ·
     have:=hlt r hr;simp;omega
end Go.Rt
namespace Go.Rw
open Go Go.RowKit Go.Rt
variable {α:Type}
section
variable {c:α→List Value} {m:Nat}
theorem flat_len (hc:∀ a,(c a).length=m) (L:List α):(L.flatMap c).length=L.length*m:=by
 induction L with
 | nil=>simp
 | cons b r ih=>simp only[List.flatMap_cons,List.length_append,ih,hc,List.length_cons,Nat.succ_mul];omega
theorem flat_at (hc:∀ a,(c a).length=m) (L:List α) (i j:Nat) (hi:i<L.length) (hj:j<m):(L.flatMap c)[i*m+j]? = (c L[i])[j]?:=by
 induction L generalizing i with
 | nil=>simp at hi
 | cons b r ih=>
  cases i with
  | zero=>simp only[List.flatMap_cons];rw[List.getElem?_append_left (by rw[hc];omega)];simp
  | succ k=>
   simp only[List.flatMap_cons];have e:(k+1)*m+j-(c b).length=k*m+j:=by rw[hc,Nat.succ_mul];omega
   rw[List.getElem?_append_right (by rw[hc,Nat.succ_mul];omega),e];exact ih k (by simpa using hi)
theorem flat_set (hc:∀ a,(c a).length=m) (L:List α) (i j:Nat) (hi:i<L.length) (hj:j<m) (u:Value) (a:α) (ha:(c L[i]).set j u=c a):(L.flatMap c).set (i*m+j) u=(L.set i a).flatMap c:=by
 induction L generalizing i with
 | nil=>simp at hi
 | cons b r ih=>
  cases i with
  | zero=>
   simp only[List.flatMap_cons,List.set_cons_zero];rw[List.set_append_left _ _ (by rw[hc];omega)]
   simp at ha
   simp[ha]
  | succ k=>
   simp only[List.flatMap_cons,List.set_cons_succ];have e:(k+1)*m+j-(c b).length=k*m+j:=by rw[hc,Nat.succ_mul];omega
   rw[List.set_append_right _ _ (by rw[hc,Nat.succ_mul];omega),e,ih k (by simpa using hi) (by simpa using ha)]
end
theorem add_none (b o j:Nat):(⟨b,o,none⟩:Addr).add j=⟨b,o+j,none⟩:=by
 unfold Addr.add;split<;>simp_all
theorem cell_at {w:World} {b:Nat} {cs:Array Value} {t:TypeId} {fr:Nat×Nat} (h:w.heap[b]? = some (.cells cs t fr)) (j:Nat):w.cell? ⟨b,j,none⟩=cs[j]?:=by simp[World.cell?,h]
theorem append_where {P:Program} {w:World} {base:Nat} {t ty e:TypeId} {i:TypeInfo} {z:Value} (ht:P.underlying t=some (.slice e)) (hi:P.info? e=some i) (hz:i.zero=some z)
  (v:Value) (n:Nat) (xs:List Value) (hown:w.ownsRow base e i.size v n xs)
  (a:Addr) (m c:Nat) (hm:0<m) (news:List Value) (hl:news.length=m*i.size) (hnews:∀ j u,news[j]? = some u→w.cell? (a.add j)=some u) (h1:∀ u∈news,u.oneCell'=true)
  (h63:n+m≤maxLen) (hbytes:(n+m)*i.bytes≤140737488355328) {v':Value} {w':World} (hr':(Builtin.append_ #[t,t] ty #[v,.slice (some a) m c]).run P w = .ok v' w') :
  v'.ownBlock=v.ownBlock∨v'.ownBlock=some w.heap.size:=by
 have hsmall:n+m≤9223372036854775807:=by simp only[maxLen] at h63;omega
 rcases hown.2 with ⟨rfl,rfl⟩|⟨g,cap,cur,rfl,hbg,hg,hnc,hcm,hcs,htake⟩
 ·
  have hr:=run_append_nil (P:=P) w t ty e i z ht hi hz a m c news hl hnews (by omega) (by omega) (by have hb:=hbytes;simp only[Nat.zero_add] at hb;omega);rw[hr] at hr';cases hr';exact .inr rfl
 ·
  by_cases hroom:n+m≤cap
  ·
   have hfit:n*i.size+news.length≤cur.size:=by rw[hl,hcs,←Nat.add_mul];exact Nat.mul_le_mul_right _ hroom
   have hr:=run_append_room (P:=P) w t ty e i ht hi g n cap cur hg a m c news hl hnews h1 hroom hfit;rw[hr] at hr';cases hr';exact .inl rfl
  ·
   have holds:∀ j u,xs[j]? = some u→w.cell? ((⟨g,0,none⟩:Addr).add j)=some u:=hown.cells (g:=g) rfl;have hr:=run_append_grow (P:=P) w t ty e i z ht hi hz ⟨g,0,none⟩ n cap xs hown.1 holds a m c news hl hnews (by omega) (by omega) (growslice_fits (by omega) hbytes);rw[hr] at hr';cases hr';exact .inr rfl
def Sl (w:World) (base:Nat) (e:TypeId) (m:Nat) (c:α→List Value) (v:Value) (L:List α):Prop:=w.ownsRow base e m v L.length (L.flatMap c)
def SlAt (w:World) (m:Nat) (c:α→List Value) (v:Value) (L:List α):Prop:=
 (L = []∧∃ sa cap,v = .slice sa 0 cap)∨∃ b o cap,v = .slice (some ⟨b,o,none⟩) L.length cap∧L.length≤9223372036854775807∧b<w.heap.size∧∀ i j,(hi:i<L.length)→j<m→w.cell? ⟨b,o+i*m+j,none⟩=(c L[i])[j]?
def Off (v:Value) (bs:List Nat):Prop:=∀ g,v.ownBlock=some g→g∉bs
section
variable {w w':World} {base e m:Nat} {c:α→List Value} {v:Value} {L:List α}
theorem Sl.nil (w:World) (base e m:Nat) (c:α→List Value):Sl w base e m c (.slice none 0 0) []:=World.ownsRow_nil _ _ _ _
theorem Sl.form (h:Sl w base e m c v L):(v = .slice none 0 0∧L = [])∨∃ g cap,v = .slice (some ⟨g,0,none⟩) L.length cap∧base≤g∧g<w.heap.size∧L.length≤cap∧cap≤maxLen∧∃ cur,w.heap[g]? = some (.cells cur e (0,0))∧cur.size=cap*m:=by
 rcases h.2 with ⟨h1,h2⟩|⟨g,cap,cur,h1,h2,h3,h4,h5,h6,_⟩
 ·
  exact .inl ⟨h1,List.eq_nil_of_length_eq_zero h2⟩
 ·
  exact .inr ⟨g,cap,h1,h2,(Array.getElem?_eq_some_iff.1 h3).1,h4,h5,cur,h3,h6⟩
theorem Sl.cell {g n cap:Nat} (h:Sl w base e m c (.slice (some ⟨g,0,none⟩) n cap) L) (hc:∀ a,(c a).length=m) (i j:Nat) (hi:i<L.length) (hj:j<m):w.cell? ⟨g,i*m+j,none⟩=(c L[i])[j]?:=by
 obtain rfl:n=L.length:=by
  rcases h.form with ⟨h1,_⟩|⟨g',cap',h1,_⟩
  ·
   cases h1
  ·
   cases h1;rfl
 have hlt:i*m+j<L.length*m:=by
  have:(i+1)*m≤L.length*m:=Nat.mul_le_mul_right _ hi
  rw[Nat.succ_mul] at this;omega
 rw[World.ownsRow.cellAt h _ hlt,flat_at hc L i j hi hj]
theorem Sl.frozen {g n cap:Nat} (h:Sl w base e m c (.slice (some ⟨g,0,none⟩) n cap) L) (j:Nat):w.frozen? ⟨g,j,none⟩=false:=by
 obtain rfl:n=L.length:=by
  rcases h.form with ⟨h1,_⟩|⟨g',cap',h1,_⟩
  ·
   cases h1
  ·
   cases h1;rfl
 exact World.ownsRow.frozenAt h j
theorem Sl.lt (h:Sl w base e m c v L):∀ g,v.ownBlock=some g→base≤g∧g<w.heap.size:=fun g hg=>World.ownsRow.lt h g hg
theorem Sl.same (h:Sl w base e m c v L) (hs:w.heap.size≤w'.heap.size) (hb:∀ g,v.ownBlock=some g→w'.heap[g]? = w.heap[g]?):Sl w' base e m c v L:=by
 have hs':=hs;refine⟨h.1,?_⟩;rcases h.2 with ⟨h1,h2⟩|⟨g,cap,cur,h1,h2,h3,h4⟩
 ·
  exact .inl ⟨h1,h2⟩
 ·
  exact .inr ⟨g,cap,cur,h1,h2,(hb g (by rw[h1];rfl)).trans h3,h4⟩
theorem Sl.only {bs:List Nat} (h:Sl w base e m c v L) (ho:Only bs w w') (hd:Off v bs):Sl w' base e m c v L:=
 h.same ho.size (fun g hg=>ho.block g (h.lt g hg).2 (hd g hg))
theorem Sl.below {n:Nat} (h:Sl w base e m c v L) (ho:Below n w w') (hn:∀ g,v.ownBlock=some g→g<n):Sl w' base e m c v L:=
 h.same ho.size (fun g hg=>ho.block g (hn g hg))
theorem Sl.mono {base':Nat} (h:Sl w base e m c v L) (hb:base'≤base):Sl w base' e m c v L:=by
 refine⟨h.1,?_⟩;rcases h.2 with ⟨h1,h2⟩|⟨g,cap,cur,h1,h2,h3⟩
 ·
  exact .inl ⟨h1,h2⟩
 ·
  exact .inr ⟨g,cap,cur,h1,by omega,h3⟩
theorem Sl.at (h:Sl w base e m c v L) (hc:∀ a,(c a).length=m):SlAt w m c v L:=by
 rcases h.form with ⟨rfl,rfl⟩|⟨g,cap,rfl,_,h2,h3,h4,_⟩
 ·
  exact .inl ⟨rfl,_,_,rfl⟩
 ·
  exact .inr ⟨g,0,cap,rfl,by unfold maxLen at h4;omega,h2,fun i j hi hj=>by rw[Nat.zero_add];exact h.cell hc i j hi hj⟩
theorem Sl.lit (w:World) (L:List α) (hc:∀ a,(c a).length=m) (hb:base≤w.heap.size) (hm:L.length≤maxLen):Sl (w.alloc (.cells (L.flatMap c).toArray e)) base e m c (.slice (some ⟨w.heap.size,0,none⟩) L.length L.length) L:=by
 have:=World.ownsRow_lit (base:=base) (e:=e) (size:=m) w (L.flatMap c).toArray L.length hb hm (by simpa using flat_len hc L)
 unfold Sl
 simpa using this
theorem Sl.store {g cap:Nat} (h:Sl w base e m c (.slice (some ⟨g,0,none⟩) L.length cap) L) (hc:∀ a,(c a).length=m) (i j:Nat) (hi:i<L.length) (hj:j<m) (u:Value) (a:α) (ha:(c L[i]).set j u=c a) :
  Sl (w.setCell ⟨g,i*m+j,none⟩ u) base e m c (.slice (some ⟨g,0,none⟩) L.length cap) (L.set i a):=by
 have:=(World.ownsRow.stored h (i*m+j) u).1
 rw[flat_set hc L i j hi hj u a ha] at this;unfold Sl
 simpa using this
theorem Sl.push {P:Program} {t ty:TypeId} {z:Value} {bytes b:Nat} {e':TypeId} {fr:Nat×Nat} (h:Sl w base e m c v L) (hu:P.underlying t=some (.slice e)) (hi:(P.info? e).map (fun i=>(i.zero,i.size,i.bytes))=some (some z,m,bytes))
  (hz:z.cells.size=m) (hm:0<m) (hc:∀ a,(c a).length=m) (h1:∀ a,∀ u∈c a,u.oneCell'=true) (a:α) (hb:w.heap[b]? = some (.cells (c a).toArray e' fr))
  (hl:L.length+1≤1000000000000) (hby:(L.length+1)*bytes≤140737488355328) (hbase:base≤w.heap.size) (cc:Nat) :
  ∃ (g cap:Nat) (W2:World),(Builtin.append_ #[t,t] ty #[v,.slice (some ⟨b,0,none⟩) 1 cc]).run P w = .ok (.slice (some ⟨g,0,none⟩) (L.length+1) cap) W2∧Sl W2 base e m c (.slice (some ⟨g,0,none⟩) (L.length+1) cap) (L ++ [a])∧w.grownBy W2 v.ownBlock∧(v.ownBlock=some g∨w.heap.size≤g):=by
 obtain⟨i0,hi0,hz0,hz1,hz2⟩:=info_parts hi;obtain⟨v',W2,hrun,hown,hgrow,_⟩:=run_append_own (P:=P) w base t ty e i0 z m bytes hu hi0 hz0 hz1 hz2 hz hm v L.length (L.flatMap c) h ⟨b,0,none⟩ 1 cc (c a) (by rw[hc];omega)
  (fun j u hj=>by rw[add_none,cell_at hb];simpa using hj) (h1 a) (by unfold maxLen;omega) hby hbase
 have hown':Sl W2 base e m c v' (L ++ [a]):=by
  unfold Sl;rw[List.flatMap_append]
  simpa using hown
 rcases hown'.form with ⟨_,h0⟩|⟨g,cap,rfl,_,hg2,_,_,cur,hcur,_⟩
 ·
  simp at h0
 ·
  simp only[List.length_append,List.length_cons,List.length_nil,Nat.zero_add] at hrun hown';refine⟨g,cap,W2,hrun,hown',hgrow,?_⟩;subst hz1 hz2
  have:=append_where hu hi0 hz0 v L.length (L.flatMap c) h ⟨b,0,none⟩ 1 cc (by omega) (c a) (by rw[hc];omega)
   (fun j u hj=>by rw[add_none,cell_at hb];simpa using hj) (h1 a) (by unfold maxLen;omega) hby hrun
  rcases this with q|q
  ·
   exact .inl q.symm
  ·
   refine .inr ?_;simp[Value.ownBlock] at q;omega
end
theorem SlAt.len {w:World} {m:Nat} {α:Type} {c:α→List Value} {v:Value} {L:List α} (h:SlAt w m c v L):L.length≤9223372036854775807∧∃ sa cap,v = .slice sa L.length cap:=by
 rcases h with ⟨rfl,sa,cap,rfl⟩|⟨b,o,cap,rfl,hl,_⟩
 ·
  exact⟨by simp,_,_,rfl⟩
 ·
  exact⟨hl,_,_,rfl⟩
theorem SlAt.get {w:World} {m:Nat} {α:Type} {c:α→List Value} {sa:Option Addr} {n cap:Nat} {L:List α} (h:SlAt w m c (.slice sa n cap) L) (hne:0<L.length):∃ b o,sa=some ⟨b,o,none⟩∧b<w.heap.size∧∀ i j,(hi:i<L.length)→j<m→w.cell? ⟨b,o+i*m+j,none⟩=(c L[i])[j]?:=by
 rcases h with ⟨rfl,_⟩|⟨b,o,cap',e,hl,hb,hc⟩
 ·
  simp at hne
 ·
  simp at e
  exact⟨b,o,e.1,hb,hc⟩
theorem wpList_append_run {P:Program} {w w':World} {ops:Array Oper} {rest:List Oper} {o:Oper} {a:Act} {Q:Exit→Act→World→Prop} {v src v':Value}
  (hg:o.guard=none) (s x:Operand) (t t2:TypeId) (hop:o.op=Op.call { callee:=Callee.builtin Builtin.append,args:=#[s,x],argTypes:=#[t,t2] })
  (hs:a.eval s=v) (hx:a.eval x=src) (hrun:(Builtin.append_ #[t,t2] o.type #[v,src]).run P w = .ok v' w') (hK:wpList P ops Q rest (a.put o.dst v') w') :
  wpList P ops Q (o::rest) a w:=by
 refine wpList_plain hg fun K hK'=>?_
 unfold Oper.wp;simp[execOp,hop,resolve,invoke,builtin,hs,hx,hrun,Result.andThen];exact hK' _ _ hK
theorem wpListIn_append_run {F:Fence} {n:Nat} {P:Program} {w w':World} {ops:Array Oper} {rest:List Oper} {o:Oper} {a:Act} {Q:Exit→Act→World→Prop} {v src v':Value}
  (hg:o.guard=none) (s x:Operand) (t t2:TypeId) (hop:o.op=Op.call { callee:=Callee.builtin Builtin.append,args:=#[s,x],argTypes:=#[t,t2] })
  (hs:a.eval s=v) (hx:a.eval x=src) (hrun:(Builtin.append_ #[t,t2] o.type #[v,src]).run P w = .ok v' w') (hK:wpListIn F n P ops Q rest (a.put o.dst v') w') :
  wpListIn F n P ops Q (o::rest) a w:=by
 refine wpListIn_plain hg fun K hK'=>?_
 unfold Oper.wpIn;refine⟨?_,?_⟩
 ·
  simp[Oper.about,hop,resolve,Target.leads,Sem.run_pure]
 ·
  rw[Oper.semAt_plain F _ _ (by rw[hop];intro c hc';cases hc')];simp[execOp,hop,resolve,invoke,builtin,hs,hx,hrun,Result.andThen];exact hK' _ _ hK
theorem step_append_run {P:Program} {ops:Array Oper} {o:Oper} {a:Act} {w w':World} {K:Act→World→Prop} {Q:Exit→Act→World→Prop} {E:Prop} {v src v':Value}
  (hg:o.guard=none) (s x:Operand) (t t2:TypeId) (hop:o.op=Op.call { callee:=Callee.builtin Builtin.append,args:=#[s,x],argTypes:=#[t,t2] })
  (hs:a.eval s=v) (hx:a.eval x=src) (hrun:(Builtin.append_ #[t,t2] o.type #[v,src]).run P w = .ok v' w') (hK:K (a.put o.dst v') w') :
  if Region.wanted o (yielded ops a.tmps)=true then Oper.wp P o a w K Q else E:=by
 have hw:Region.wanted o (yielded ops a.tmps)=true:=by simp[Region.wanted,hg]
 rw[if_pos hw];unfold Oper.wp;simp[execOp,hop,resolve,invoke,builtin,hs,hx,hrun,Result.andThen];exact hK
end Go.Rw
namespace Go.Proofs.YtoaimoemaoinhaaGreatDoor
open Go.RowKit Go.Rt
def Blk (w:World) (g:Nat) (t:TypeId) (cs:Array Value):Prop:=w.heap[g]? = some (.cells cs t (0,0))
section
variable {w w':World} {g:Nat} {t:TypeId} {cs:Array Value}
theorem Blk.lt (h:Blk w g t cs):g<w.heap.size:=(Array.getElem?_eq_some_iff.1 h).1
theorem Blk.cell (h:Blk w g t cs) (i:Nat):w.cell? ⟨g,i,none⟩=cs[i]?:=by unfold Blk at h;simp[World.cell?,h]
theorem Blk.frozen (h:Blk w g t cs) (i:Nat):w.frozen? ⟨g,i,none⟩=false:=by unfold Blk at h;simp[World.frozen?,h]
theorem Blk.new (w:World) (t:TypeId) (cs:Array Value):Blk (w.alloc (.cells cs t)) w.heap.size t cs:=World.alloc_heap_new w _
theorem Blk.drew (h:Blk w g t cs):Blk w.drew g t cs:=h
theorem Blk.drewN (h:Blk w g t cs) (n:Nat):Blk (w.drewN n) g t cs:=h
theorem Blk.alloc (h:Blk w g t cs) (o:Obj):Blk (w.alloc o) g t cs:=(Below.heap_alloc w o g h.lt).trans h
theorem Blk.set_ (h:Blk w g t cs) (i:Nat) (u:Value):Blk (w.setCell ⟨g,i,none⟩ u) g t (cs.setIfInBounds i u):=by
 unfold Blk at h ⊢;simp[World.setCell,Array.getElem?_modify,h]
theorem Blk.far (h:Blk w g t cs) {p:Addr} (hp:g≠p.block) (u:Value):Blk (w.setCell p u) g t cs:=(Below.heap_setCell w p u g hp).trans h
theorem Blk.below {B:Nat} (h:Blk w g t cs) (hb:Below B w w') (hg:g<B):Blk w' g t cs:=(hb.block g hg).trans h
theorem Blk.ne_ {g':Nat} {t':TypeId} {cs':Array Value} (h:Blk w g t cs) (h':Blk w g' t' cs') (hne:t≠t'):g≠g':=by
 rintro rfl;unfold Blk at h h';rw[h] at h';injection h' with h'
 injection h' with _ ht
 exact hne ht
end
section
variable {w:World} {b:Nat} {t:TypeId}
theorem Blk.range {cs:Array Value} (h:Blk w b t cs):w.rangeAt b 0 cs.toList:=fun j v hv=>by
 rw[Nat.zero_add,h.cell];simpa using hv
theorem Blk.there {cs:Array Value} (h:Blk w b t cs):w.there b 0 cs.size:=fun j hj=>by
 rw[Nat.zero_add,h.cell,h.frozen];simp[hj]
theorem heap_setCells (b:Nat) (t:TypeId):∀ (L old pre:List Value) (w:World),L.length=old.length→Blk w b t (pre++old).toArray→Blk (w.setCells b pre.length L) b t (pre++L).toArray
 | [],[],pre,w,_,h=>by simpa [World.setCells] using h
 | [],_::_,_,_,h,_=>by simp at h
 | _::_,[],_,_,h,_=>by simp at h
 | v::r,o::old,pre,w,hl,h=>by
  have h1:=h.set_ pre.length v;have e:((pre++o::old).toArray).setIfInBounds pre.length v=((pre ++ [v])++old).toArray:=by
   simp
  rw[e] at h1
  have:=heap_setCells b t r old (pre ++ [v]) _ (by simpa using hl) h1
  simpa [World.setCells] using this
theorem only_setCells (b:Nat):∀ (L:List Value) (o:Nat) (w:World),Only [b] w (w.setCells b o L)
 | [],_,w=>Only.refl _ w
 | v::r,o,w=>(Only.setCell w ⟨b,o,none⟩ v (by simp)).trans (only_setCells b r (o+1) _)
theorem Blk.setCells {cs:Array Value} (h:Blk w b t cs) (L:List Value) (hl:L.length=cs.size):Blk (w.setCells b 0 L) b t L.toArray:=by
 have:=heap_setCells b t L cs.toList [] w (by simpa using hl) (by simpa using h)
 simpa using this
theorem Blk.only {bs:List Nat} {w':World} {cs:Array Value} (h:Blk w b t cs) (ho:Only bs w w') (hb:b∉bs):Blk w' b t cs:=(ho.block b h.lt hb).trans h
end
theorem wpList_load_blk {P:Program} {ops:Array Oper} {rest:List Oper} {op:Oper} {a:Act} {w:World} {Q:Exit→Act→World→Prop} (hgd:op.guard=none) (ty:TypeId) (x:Operand) (ho:op.op = .load ty x)
  (b:Nat) (hx:a.eval x = .pointer (some ⟨b,0,none⟩)) (cs:Array Value) (t:TypeId) (d:TypeDesc) (hc:Blk w b t cs)
  (hu:P.underlying ty=some d) (hd:d.isRow=true) (hi:(P.info? ty).map (·.size)=some cs.size)
  (h:wpList P ops Q rest (a.put op.dst (.agg cs)) w):wpList P ops Q (op::rest) a w:=
 wpList_load_mid hgd ty x ho b 0 hx cs.toList d hc.range hu hd (by simpa using hi) (by simpa using h)
theorem put_none (a:Act) (d:Option Tmp) (hd:d=none) (v:Value):a.put d v=a:=by subst hd;rfl
theorem wpList_store_blk {P:Program} {ops:Array Oper} {rest:List Oper} {op:Oper} {a:Act} {w:World} {Q:Exit→Act→World→Prop} (hgd:op.guard=none) (ty:TypeId) (x y:Operand) (ho:op.op = .store ty x y) (hdst:op.dst=none)
  (b:Nat) (cells cs:Array Value) (t:TypeId) (hx:a.eval x = .pointer (some ⟨b,0,none⟩)) (hy:a.eval y = .agg cells)
  (hc:Blk w b t cs) (hs:cells.size=cs.size) (hi:(P.info? ty).map (·.size)=some cells.size) (h1:cells.all (·.oneCell')=true)
  (h:∀ w',Blk w' b t cells→Only [b] w w'→wpList P ops Q rest a w'):wpList P ops Q (op::rest) a w:=
 wpList_store_mid hgd ty x y ho b 0 cells hx hy (by rw[hs];exact hc.there) hi h1 (by rw[put_none _ _ hdst];exact h _ (by simpa using hc.setCells cells.toList (by simpa using hs)) (only_setCells b _ 0 w))
theorem results_blk {P:Program} {fn:Func} {a:Tmp} {ty t:TypeId} (h:fn.results = #[.cell a ty]) (tmps:Array Value) (w:World) (b:Nat) (cs:Array Value) (d:TypeDesc) (hx:tmps.getD a undef = .pointer (some ⟨b,0,none⟩))
  (hc:Blk w b t cs) (hu:P.underlying ty=some d) (hd:d.isRow=true) (hi:(P.info? ty).map (·.size)=some cs.size):(results fn tmps).run P w = .ok (.agg cs) w:=by
 have:=run_loadVar_mid (P:=P) w b 0 ty cs.toList d hc.range hu hd (by simpa using hi)
 rw[Array.getD_eq_getD_getElem?] at hx;simp only[Array.toArray_toList] at this;simp[results,h,hx,asAddr,this]
theorem run_storeVar_fld {P:Program} (w:World) (b i:Nat) (ty t:TypeId) (v:Value) (cs:Array Value) (hc:Blk w b t cs) (hi:i<cs.size) (hu:(P.info? ty).map (·.size)=some 1) (h1:v.oneCell'=true) :
  (storeVar ty ⟨b,i,none⟩ v).run P w = .ok () (w.setCell ⟨b,i,none⟩ v):=by
 have:=run_storeCells_cells (P:=P) b i [v] 0 w (fun j hj=>by simp at hj;subst hj;simp[hc.cell,hi]) (fun j hj=>by simp at hj;subst hj;simp[hc.frozen]) (fun x hx=>by simp at hx;subst hx;exact h1)
 have he:v.cells = #[v]:=by cases v<;>first|rfl|cases h1
 cases hq:P.info? ty with
 | none=>simp[hq] at hu
 | some k=>
  have hs:k.size=1:=by simpa [hq] using hu
  simp only[Nat.add_zero,World.setCells] at this;simp[storeVar,sizeOf,typeInfo,hq,he,hs,this]
theorem wpList_store_fld {P:Program} {ops:Array Oper} {rest:List Oper} {op:Oper} {a:Act} {w:World} {Q:Exit→Act→World→Prop} (hgd:op.guard=none) (ty:TypeId) (x y:Operand) (ho:op.op = .store ty x y) (hdst:op.dst=none)
  (b i:Nat) (cs:Array Value) (t:TypeId) (v:Value) (hx:a.eval x = .pointer (some ⟨b,i,none⟩)) (hy:a.eval y=v)
  (hc:Blk w b t cs) (hi:i<cs.size) (hu:(P.info? ty).map (·.size)=some 1) (h1:v.oneCell'=true)
  (h:∀ w',w'=w.setCell ⟨b,i,none⟩ v→wpList P ops Q rest a w'):wpList P ops Q (op::rest) a w:=by
 refine wpList_plain hgd fun _ hK=>?_
 unfold Oper.wp execOp;simp only[ho,hx,hy,Instr.storeAt,Instr.sureAddr,Sem.run_bind,Sem.run_pure,Result.andThen_ok,run_storeVar_fld w b i ty t v cs hc hi hu h1];refine hK _ _ ?_;rw[put_none _ _ hdst];exact h _ rfl
end Go.Proofs.YtoaimoemaoinhaaGreatDoor
namespace Go.Proofs.YtoaimoemaoinhaaGreatDoor
open Go.RowKit Go.Rt Go.Rw
structure Fl where
 k:Int
 n:Int
 g:Int
 nm:ByteArray
 fn:ByteArray
 ar:Int
 bs:ByteArray
 bt:Int
inductive Tm where
 | mk (f:Fl) (l:List Tm)
def Tm.f : Tm→Fl | .mk f _=>f
def Tm.l : Tm→List Tm | .mk _ l=>l
theorem Tm.ind {P:Tm→Prop} (h:∀ f l,(∀ t∈l,P t)→P (.mk f l)) (t:Tm):P t:=
 Tm.rec (motive_1:=P) (motive_2:=fun l=>∀ t∈l,P t) (fun f l ih=>h f l ih) (fun t ht=>by cases ht)
  (fun t r ht hr=>by
   intro u hu;rcases List.mem_cons.1 hu with rfl|q
   ·
    exact ht
   ·
    exact hr u q) t
def low (c:Nat):Bool:=decide (97≤c)&&decide (c≤122)
def oth (c:Nat):Bool:=(decide (65≤c)&&decide (c≤90))||(decide (48≤c)&&decide (c≤57))||c==95||c==64
def atB (s:ByteArray) (i:Nat):Nat:=(s.data.getD i 0).toNat
def okAt (s:ByteArray) (i:Nat):Bool:=low (atB s i)||(decide (0<i)&&oth (atB s i))
def nameF (s:ByteArray):Bool:=decide (0<s.size)&&decide (s.size≤32)&&(List.range s.size).all (okAt s)
def inB (n a b:Int):Bool:=decide (a≤n)&&decide (n≤b)
def noB : ByteArray:=⟨#[]⟩
def padB (bs:ByteArray) (bt:Int):Bool:=decide (atB bs (bs.size-1) % 2 ^ (8-bt % 8).toNat=0)
def bitsB (bs:ByteArray) (bt:Int):Bool:=inB bt 0 16384&&(decide ((bs.size:Int)=(bt+7) / 8)&&(decide (bt % 8=0)||padB bs bt))
def okF (f:Fl) (l:List Tm):Bool:=
 if f.k=1 then true
 else if f.k=2 then nameF f.nm
 else if f.k=3 then inB f.n 1 2147483647&&(inB f.g 1 2147483647&&nameF f.nm)
 else if f.k=4 then inB f.n 0 999&&(inB f.g 1 2147483647&&(nameF f.nm&&(inB f.ar 0 16&&decide (l.length≤200))))
 else if f.k=5 then nameF f.nm&&(nameF f.fn&&inB f.ar 0 16)
 else if f.k=6 then inB f.n 1 2147483647&&(inB f.g 1 2147483647&&nameF f.nm)
 else if f.k=7 then decide (l.length≤255)
 else if f.k=8 then true
 else if f.k=9 then decide (2≤l.length)&&(match l.getLast? with|some t=>decide (t.f.k≠9)|none=>false)
 else if f.k=10 then bitsB f.bs f.bt
 else false
def bareF (f:Fl):Fl:=
 if f.k=1 then { f with n:=0 }
 else if f.k=2 then { f with nm:=noB }
 else if f.k=3 then { f with n:=0,g:=0,nm:=noB }
 else if f.k=4 then { f with n:=0,g:=0,nm:=noB,ar:=0 }
 else if f.k=5 then { f with nm:=noB,fn:=noB,ar:=0 }
 else if f.k=6 then { f with n:=0,g:=0,nm:=noB }
 else if f.k=10 then { f with bs:=noB,bt:=0 }
 else f
def usesL (k:Int):Bool:=decide (k=4)||decide (k=7)||decide (k=9)
def zeroF (f:Fl):Bool:=decide (f.n=0)&&(decide (f.g=0)&&(decide (f.nm.size=0)&&(decide (f.fn.size=0)&&(decide (f.ar=0)&&(decide (f.bs.size=0)&&decide (f.bt=0))))))
def ownB (f:Fl) (l:List Tm):Bool:=okF f l&&(zeroF (bareF f)&&(usesL f.k||l.isEmpty))
mutual
def formed : Tm→Bool
 | .mk f l=>ownB f l&&formedL l
def formedL : List Tm→Bool
 | []=>true
 | t::r=>formed t&&formedL r
end
def sizeO (f:Fl) (len:Nat):Nat:=if f.k=9 then len-1 else if f.k=10 then 1+(f.bt.toNat+63) / 64 else 1
mutual
def sizeT : Tm→Nat
 | .mk f l=>sizeO f l.length+sizeL l
def sizeL : List Tm→Nat
 | []=>0
 | t::r=>sizeT t+sizeL r
end
mutual
def bulk : Tm→Nat
 | .mk _ l=>300+l.length+bulkL l
def bulkL : List Tm→Nat
 | []=>0
 | t::r=>bulk t+bulkL r
end
def validB (t:Tm):Bool:=formed t&&decide (sizeT t≤2000)
theorem formedL_mem : ∀ l,formedL l=true→∀ t∈l,formed t=true
 | [],_,t,ht=>by cases ht
 | u::r,h,t,ht=>by
  rw[formedL,Bool.and_eq_true] at h;rcases List.mem_cons.1 ht with rfl|q
  ·
   exact h.1
  ·
   exact formedL_mem r h.2 t q
theorem sizeO_le (f:Fl) (l:List Tm) (h:okF f l=true):sizeO f l.length≤300+l.length:=by
 unfold sizeO;split
 ·
  omega
 ·
  split
  ·
   rename_i h9 h10;unfold okF at h;simp only[h10,show ¬(10:Int)=1 by omega,show ¬(10:Int)=2 by omega,show ¬(10:Int)=3 by omega,show ¬(10:Int)=4 by omega,show ¬(10:Int)=5 by omega,show ¬(10:Int)=6 by omega,show ¬(10:Int)=7 by omega,show ¬(10:Int)=8 by omega,show ¬(10:Int)=9 by omega,if_false,if_true] at h;unfold bitsB inB at h;simp only[Bool.and_eq_true,decide_eq_true_eq] at h;omega
  ·
   omega
mutual
theorem size_bulk : ∀ t,formed t=true→sizeT t≤bulk t
 | .mk f l,h=>by
  rw[formed,Bool.and_eq_true] at h;unfold ownB at h;rw[Bool.and_eq_true] at h
  have:=sizeO_le f l h.1.1
  have:=sizeL_bulk l h.2
  rw[sizeT,bulk];omega
theorem sizeL_bulk : ∀ l,formedL l=true→sizeL l≤bulkL l
 | [],_=>by rw[sizeL,bulkL];exact Nat.le_refl _
 | t::r,h=>by
  rw[formedL,Bool.and_eq_true] at h
  have:=size_bulk t h.1
  have:=sizeL_bulk r h.2
  rw[sizeL,bulkL];omega
end
/-! ### In memory -/
structure Ft where
 f:Fl
 v:Value
def ftC (x:Ft):List Value:=[.int .i64 x.f.k,.int .i64 x.f.n,.int .i64 x.f.g,.string x.f.nm,.string x.f.fn,.int .i64 x.f.ar,x.v,.string x.f.bs,.int .i64 x.f.bt]
def ftV (x:Ft):Value:=.agg #[.int .i64 x.f.k,.int .i64 x.f.n,.int .i64 x.f.g,.string x.f.nm,.string x.f.fn,.int .i64 x.f.ar,x.v,.string x.f.bs,.int .i64 x.f.bt]
def InS (S:Nat→Prop) (v:Value):Prop:=∀ b o n cap,v = .slice (some ⟨b,o,none⟩) n cap→0<n→S b
mutual
def TmAt (S:Nat→Prop) (w:World):Tm→Ft→Prop
 | .mk f l,x=>x.f=f∧∃ Fs,SlAt w 9 ftC x.v Fs∧InS S x.v∧TmsAt S w l Fs
def TmsAt (S:Nat→Prop) (w:World):List Tm→List Ft→Prop
 | [],Fs=>Fs = []
 | t::r,Fs=>∃ x q,Fs=x::q∧TmAt S w t x∧TmsAt S w r q
end
def ItsAt (S:Nat→Prop) (w:World) (l:List Tm) (v:Value):Prop:=∃ Fs,SlAt w 9 ftC v Fs∧InS S v∧TmsAt S w l Fs
theorem TmAt.its {S:Nat→Prop} {w:World} {t:Tm} {x:Ft} (h:TmAt S w t x):x.f=t.f∧ItsAt S w t.l x.v:=by
 cases t;unfold TmAt at h;exact h
theorem TmAt.of {S:Nat→Prop} {w:World} {t:Tm} {x:Ft} (h:x.f=t.f) (h2:ItsAt S w t.l x.v):TmAt S w t x:=by
 cases t;unfold TmAt;exact⟨h,h2⟩
theorem TmsAt.length {S:Nat→Prop} {w:World} : ∀ {l:List Tm} {Fs:List Ft},TmsAt S w l Fs→Fs.length=l.length
 | [],Fs,h=>by unfold TmsAt at h;rw[h];rfl
 | t::r,Fs,h=>by
  unfold TmsAt at h;obtain⟨x,q,rfl,_,h2⟩:=h;simp[h2.length]
theorem TmsAt.get {S:Nat→Prop} {w:World} : ∀ {l:List Tm} {Fs:List Ft},TmsAt S w l Fs→∀ i (h1:i<l.length) (h2:i<Fs.length),TmAt S w l[i] Fs[i]
 | [],Fs,h,i,h1,_=>by simp at h1
 | t::r,Fs,h,i,h1,h2=>by
  unfold TmsAt at h;obtain⟨x,q,rfl,hx,hq⟩:=h;cases i with
  | zero=>exact hx
  | succ i=>exact hq.get i (by simpa using h1) (by simpa using h2)
theorem TmsAt.snoc {S:Nat→Prop} {w:World} {t:Tm} {x:Ft} : ∀ {l:List Tm} {Fs:List Ft},TmsAt S w l Fs→TmAt S w t x→TmsAt S w (l ++ [t]) (Fs ++ [x])
 | [],Fs,h,hx=>by
  unfold TmsAt at h;subst h;unfold TmsAt;exact⟨x,[],rfl,hx,by unfold TmsAt;rfl⟩
 | u::r,Fs,h,hx=>by
  unfold TmsAt at h;obtain⟨y,q,rfl,hy,hq⟩:=h;rw[List.cons_append];unfold TmsAt;exact⟨y,q ++ [x],rfl,hy,hq.snoc hx⟩
theorem slat_lt {w:World} {v:Value} {Fs:List Ft} (h:SlAt w 9 ftC v Fs):InS (fun b=>b<w.heap.size) v:=by
 intro b o n cap e hn;rcases h with ⟨_,sa,c,rfl⟩|⟨b',o',cap',rfl,_,hb,_⟩
 ·
  cases e;omega
 ·
  cases e;exact hb
theorem slat_same {w w':World} {v:Value} {Fs:List Ft} (h:SlAt w 9 ftC v Fs) (hs:w.heap.size≤w'.heap.size) (hb:∀ b o n cap,v = .slice (some ⟨b,o,none⟩) n cap→0<n→w'.heap[b]? = w.heap[b]?):SlAt w' 9 ftC v Fs:=by
 rcases h with h|⟨b,o,cap,rfl,h1,h2,h3⟩
 ·
  exact .inl h
 ·
  by_cases h0:Fs = []
  ·
   subst h0;exact .inl ⟨rfl,_,_,rfl⟩
  ·
   have:=hb b o _ cap rfl (List.length_pos_iff.2 h0)
   refine .inr ⟨b,o,cap,rfl,h1,by omega,fun i j hi hj=>?_⟩;rw[←h3 i j hi hj];simp only[World.cell?,this]
mutual
theorem TmAt.map {S S':Nat→Prop} {w w':World} (hs:w.heap.size≤w'.heap.size) (hb:∀ b,S b→b<w.heap.size→w'.heap[b]? = w.heap[b]?) (hS:∀ b,S b→b<w.heap.size→S' b):∀ {t:Tm} {x:Ft},TmAt S w t x→TmAt S' w' t x
 | .mk f l,x,h=>by
  unfold TmAt at h ⊢;obtain⟨e,Fs,h1,h2,h3⟩:=h;have hl:=slat_lt h1;exact⟨e,Fs,slat_same h1 hs (fun b o n cap q hn=>hb b (h2 b o n cap q hn) (hl b o n cap q hn)),fun b o n cap q hn=>hS b (h2 b o n cap q hn) (hl b o n cap q hn),TmsAt.map hs hb hS h3⟩
theorem TmsAt.map {S S':Nat→Prop} {w w':World} (hs:w.heap.size≤w'.heap.size) (hb:∀ b,S b→b<w.heap.size→w'.heap[b]? = w.heap[b]?) (hS:∀ b,S b→b<w.heap.size→S' b):∀ {l:List Tm} {Fs:List Ft},TmsAt S w l Fs→TmsAt S' w' l Fs
 | [],Fs,h=>by unfold TmsAt at h ⊢;exact h
 | t::r,Fs,h=>by
  unfold TmsAt at h ⊢;obtain⟨x,q,rfl,hx,hq⟩:=h;exact⟨x,q,rfl,TmAt.map hs hb hS hx,TmsAt.map hs hb hS hq⟩
end
theorem ItsAt.map {S S':Nat→Prop} {w w':World} (hs:w.heap.size≤w'.heap.size) (hb:∀ b,S b→b<w.heap.size→w'.heap[b]? = w.heap[b]?) (hS:∀ b,S b→b<w.heap.size→S' b) {l:List Tm} {v:Value} (h:ItsAt S w l v):ItsAt S' w' l v:=by
 obtain⟨Fs,h1,h2,h3⟩:=h;have hl:=slat_lt h1;exact⟨Fs,slat_same h1 hs (fun b o n cap q hn=>hb b (h2 b o n cap q hn) (hl b o n cap q hn)),fun b o n cap q hn=>hS b (h2 b o n cap q hn) (hl b o n cap q hn),TmsAt.map hs hb hS h3⟩
section
variable {S S':Nat→Prop} {w w':World} {t:Tm} {x:Ft} {l:List Tm} {v:Value}
theorem TmAt.below {n:Nat} (h:TmAt S w t x) (hb:Below n w w') (hn:∀ b,S b→b<w.heap.size→b<n):TmAt S w' t x:=h.map hb.size (fun b hs hl=>hb.block b (hn b hs hl)) (fun _ hs _=>hs)
theorem ItsAt.below {n:Nat} (h:ItsAt S w l v) (hb:Below n w w') (hn:∀ b,S b→b<w.heap.size→b<n):ItsAt S w' l v:=h.map hb.size (fun b hs hl=>hb.block b (hn b hs hl)) (fun _ hs _=>hs)
theorem TmAt.only {bs:List Nat} (h:TmAt S w t x) (ho:Only bs w w') (hn:∀ b,S b→b<w.heap.size→b∉bs):TmAt S w' t x:=h.map ho.size (fun b hs hl=>ho.block b hl (hn b hs hl)) (fun _ hs _=>hs)
theorem ItsAt.only {bs:List Nat} (h:ItsAt S w l v) (ho:Only bs w w') (hn:∀ b,S b→b<w.heap.size→b∉bs):ItsAt S w' l v:=h.map ho.size (fun b hs hl=>ho.block b hl (hn b hs hl)) (fun _ hs _=>hs)
theorem TmAt.mono (h:TmAt S w t x) (hS:∀ b,S b→b<w.heap.size→S' b):TmAt S' w t x:=h.map (Nat.le_refl _) (fun _ _ _=>rfl) hS
theorem ItsAt.mono (h:ItsAt S w l v) (hS:∀ b,S b→b<w.heap.size→S' b):ItsAt S' w l v:=h.map (Nat.le_refl _) (fun _ _ _=>rfl) hS
theorem ItsAt.nil (sa:Option Addr) (cap:Nat):ItsAt S w [] (.slice sa 0 cap):=⟨[],.inl ⟨rfl,sa,cap,rfl⟩,fun b o n c e hn=>by cases e;omega,by unfold TmsAt;rfl⟩
theorem ItsAt.form (h:ItsAt S w l v):l.length≤9223372036854775807∧∃ sa cap,v = .slice sa l.length cap:=by
 obtain⟨Fs,h1,_,h3⟩:=h
 have:=h1.len
 rw[h3.length] at this;exact this
theorem ItsAt.get {sa:Option Addr} {n cap:Nat} (h:ItsAt S w l (.slice sa n cap)) (hne:0<l.length):∃ b o,sa=some ⟨b,o,none⟩∧b<w.heap.size∧S b ∧
  ∀ i (hi:i<l.length),∃ x,TmAt S w l[i] x∧∀ j,j<9→w.cell? ⟨b,o+i*9+j,none⟩=(ftC x)[j]?:=by
 obtain⟨Fs,h1,h2,h3⟩:=h;have hlen:=h3.length;obtain⟨b,o,rfl,hb,hc⟩:=h1.get (by omega);obtain⟨_,sa',cap',e⟩:=h1.len;cases e;refine⟨b,o,rfl,hb,h2 b o _ _ rfl (by omega),fun i hi=>⟨Fs[i]'(by omega),h3.get i hi (by omega),fun j hj=>hc i j (by omega) hj⟩⟩
end
end Go.Proofs.YtoaimoemaoinhaaGreatDoor
