/- PeersX: a part of the proof. No condition beyond the premises of each theorem. -/
import Derived.Test.YtoaimoemaoinhaaGreatDoorQp17
import Derived.Test.YtoaimoemaoinhaaGreatDoorQp00
set_option maxRecDepth 100000
namespace Go.Proofs.YtoaimoemaoinhaaGreatDoor
open Go.RowKit Go.Rt Go.Rw
def TmR (s:ByteArray) (rb p:Nat) (P:Pr Tm) (w:World) (e:Ending) (w':World):Prop:=
 Only [rb] w w'∧match P with
 | none=>e = .panicked refusal
 | some a=>∃ x,e = .returned (ftV x)∧TmAt (fun c=>w.heap.size≤c) w' a.1 x∧Rd s rb a.2.2 a.2.1 w'∧p≤a.2.1∧a.2.1≤2000
def ItR (s:ByteArray) (rb p:Nat) (P:Pr (List Tm)) (w:World) (e:Ending) (w':World):Prop:=
 Only [rb] w w'∧match P with
 | none=>e = .panicked refusal
 | some a=>∃ v,e = .returned v∧ItsAt (fun c=>w.heap.size≤c) w' a.1 v∧Rd s rb a.2.2 a.2.1 w'∧p≤a.2.1∧a.2.1≤2000
def TmC (T:Nat→List UInt8→Pr Tm) (s:ByteArray) (rb d:Nat):Prop:=∀ (p:Nat) (r:List UInt8) (W:World),Rd s rb r p W→2000≤p+d→p≤2000→Calls Tryz.prog 123 #[.pointer (some ⟨rb,0,none⟩)] W (TmR s rb p (T p r) W)
theorem infoT : (Tryz.prog.info? 48).map (fun i=>(i.zero,i.size,i.bytes))=some (some (.agg zT),9,112):=by kernel_rfl
theorem TmsAt.map2 {S S':Nat→Prop} {w w':World} {l:List Tm} {Fs:List Ft} (h:TmsAt S w l Fs) (hs:w.heap.size≤w'.heap.size) (hb:∀ b,S b→b<w.heap.size→w'.heap[b]? = w.heap[b]?) (hS:∀ b,S b→b<w.heap.size→S' b):TmsAt S' w' l Fs:=TmsAt.map hs hb hS h
theorem ftC_one (x:Ft) (hv:x.v.oneCell'=true):∀ u∈ftC x,u.oneCell'=true:=by
 unfold ftC;intro u hu;simp only[List.mem_cons,List.not_mem_nil,or_false] at hu;rcases hu with rfl|rfl|rfl|rfl|rfl|rfl|rfl|rfl|rfl<;>first|rfl|exact hv
theorem sl_push_term {W:World} {B:Nat} {v:Value} {Fs:List Ft} (h:Sl W B 48 9 ftC v Fs) (x:Ft) (hx:x.v.oneCell'=true) (b:Nat) (hb:Blk W b 48 (ftC x).toArray) (hl:Fs.length+1≤1000000) (hbase:B≤W.heap.size) :
  ∃ g cap W2,(Builtin.append_ #[46,46] 46 #[v,.slice (some ⟨b,0,none⟩) 1 1]).run Tryz.prog W = .ok (.slice (some ⟨g,0,none⟩) (Fs.length+1) cap) W2∧Sl W2 B 48 9 ftC (.slice (some ⟨g,0,none⟩) (Fs.length+1) cap) (Fs ++ [x])∧W.grownBy W2 v.ownBlock∧(v.ownBlock=some g∨g=W.heap.size):=by
 obtain⟨i0,hi0,hz0,hz1,hz2⟩:=info_parts infoT;obtain⟨v',W2,hrun,hown,hgrow,_,hwh⟩:=run_append_own_at (P:=Tryz.prog) W B 46 46 48 i0 _ 9 112 Tryz.underlying46 hi0 hz0 hz1 hz2 (by rfl) (by decide) v Fs.length (Fs.flatMap ftC) h ⟨b,0,none⟩ 1 1 (ftC x) rfl
  (fun j u hj=>by rw[add_none,Nat.zero_add,hb.cell j];simpa using hj) (ftC_one x hx) (by unfold maxLen;omega) (by omega) hbase
 have hs:Sl W2 B 48 9 ftC v' (Fs ++ [x]):=by
  unfold Sl;rw[List.flatMap_append,List.length_append]
  simpa using hown
 rcases hs.form with ⟨_,h0⟩|⟨g,cap,hv,_⟩
 ·
  simp at h0
 ·
  rw[List.length_append] at hv;subst hv;refine⟨g,cap,W2,hrun,hs,hgrow,?_⟩;rcases hwh with q|q
  ·
   exact .inl (by rw[←q];rfl)
  ·
   exact .inr (by simpa [Value.ownBlock] using q)
theorem Rd.same {s:ByteArray} {rb:Nat} {r:List UInt8} {p:Nat} {w w':World} (h:Rd s rb r p w) (hb:w'.heap[rb]? = w.heap[rb]?):Rd s rb r p w':=by
 obtain⟨at',h1,h2,h3⟩:=h;exact⟨at',h1,h2,by unfold Blk at h3 ⊢;rw[hb];exact h3⟩
set_option maxHeartbeats 2000000 in
theorem items_any {T:Nat→List UInt8→Pr Tm} {s:ByteArray} {rb d p:Nat} {r:List UInt8} {w:World} (hT:TmC T s rb d) (h:Rd s rb r p w) (hd:2000≤p+d) (hp:p≤2000) (n:Nat) (hn:n≤8589934592) :
  Calls Tryz.prog 159 #[.pointer (some ⟨rb,0,none⟩),.int .i64 n] w (ItR s rb p (itemsQ T n p r) w):=by
 have R0:=qH h;have HT:=qH hT;have HRW:Hid (rb<w.heap.size):=qH h.lt;obtain⟨P,hP⟩:∃ P,P=itemsQ T n p r:=⟨_,rfl⟩;rw[←hP];unfold itemsQ at hP;clear h hT
 by_cases hle:n≤2000
 ·
  rw[if_pos hle] at hP;have HP0:Hid (P=(itemsP T n p r).map (fun a=>([]++a.1,a.2))):=qH (by rw[hP];cases itemsP T n p r<;>simp);clear hP;have d1:decide (n≤2000)=true:=decide_eq_true hle;have d1i:decide ((n:Int)≤2000)=true:=decide_eq_true (by omega);go_enter Tryz.func159,Tryz.ntmps159;go_wp2_with fail;refine(demand_any _ true _).mono ?_;rintro e w0 ⟨rfl,rfl⟩;go_wp2_with fail;go_loopw [1,5] (fun i v wr=>∃ (m q:Nat) (rr:List UInt8) (ts:List Tm) (vv:Value) (Fs:List Ft),m+ts.length=n∧i = .int .i64 m∧vv=v∧Hid (P=(itemsP T m q rr).map (fun a=>(ts++a.1,a.2)))∧Hid (Rd s rb rr q wr)∧(p≤q∧q≤2000)∧Hid (Only [rb] w wr) ∧
   Hid (Sl wr w.heap.size 48 9 ftC vv Fs)∧Hid (TmsAt (fun c=>w.heap.size≤c∧vv.ownBlock≠some c) wr ts Fs)) (fun i _ _=>(intOf i).toNat)
  case atStart=>exact⟨n,p,r,[],.slice none 0 0,[],by simp,rfl,rfl,HP0,R0,⟨Nat.le_refl _,hp⟩,qH (Only.refl _ _),qH (Sl.nil _ _ _ _ _),qH (by unfold TmsAt;rfl)⟩
  case round=>
   obtain⟨m,q,rr,ts,vv,Fs,hml,rfl,rfl,HP,HR,hpq,HO,HSL,HTS⟩:=hrel;clear HP0 R0;have HLF:=qH HTS.out.length;have hvform:∃ sa cap,vv = .slice sa ts.length cap:=by
    rcases HSL.out.form with ⟨h1,h2⟩|⟨g,cap,h1,_⟩
    ·
     exact⟨_,_,by rw[h1,←HLF.out,h2];rfl⟩
    ·
     exact⟨_,_,by rw[h1,HLF.out]⟩
   obtain⟨sa,cap,rfl⟩:=hvform
   by_cases hm0:0<m
   ·
    obtain⟨j,rfl⟩:∃ j,m=j+1:=⟨m-1,by omega⟩;have C:=HT.out q rr wr HR.out (by omega) hpq.2;cases hq:T q rr with
    | none=>
     rw[hq] at C;have HC:=qH C;obtain rfl:P=none:=by
      rw[HP.out];unfold itemsP;rw[hq];rfl
     clear C hq HP;go_wp2_with fail;refine HC.out.mono ?_;rintro e vx ⟨ox,rfl⟩;have OX:=qH (HO.out.trans ox);clear ox;go_wp2_with fail;exact⟨rfl,OX.out,rfl⟩
    | some a=>
     obtain⟨t,q1,rr1⟩:=a;rw[hq] at C;have HC:=qH C;have HP1:Hid (P=(itemsP T j q1 rr1).map (fun a=>((ts ++ [t])++a.1,a.2))):=qH (by
      rw[HP.out];rw[itemsP,hq];dsimp only;cases itemsP T j q1 rr1 with
      | none=>rfl
      | some b=>simp)
     clear C hq HP;go_wp2_with fail;refine HC.out.mono ?_;rintro e w1 ⟨ox,x,rfl,tx,rx,hq1,hq2⟩;dsimp only at hq1 hq2 tx rx;obtain⟨_,sx,cx,vx⟩:=tx.its.2.form;obtain⟨xf,xv⟩:=x;dsimp only at vx;subst vx;unfold ftV;have HRX:=qH rx;have HOX:=qH (HO.out.trans ox);have hrb:rb<wr.heap.size:=HR.out.lt;have hB:=HO.out.size;have hRW:=HRW.out;have hlt0:∀ g0,(Value.slice sa ts.length cap).ownBlock=some g0→w.heap.size≤g0∧g0<wr.heap.size:=fun g0 hg0=>HSL.out.lt g0 hg0
     have SL1:Sl w1 w.heap.size 48 9 ftC (.slice sa ts.length cap) Fs:=HSL.out.only ox (fun g hg hm=>by
      have h1:=(hlt0 g hg).1
      simp at hm
      omega)
     have TS1:TmsAt (fun c=>w.heap.size≤c∧(Value.slice sa ts.length cap).ownBlock≠some c) w1 ts Fs:=HTS.out.map2 ox.size (fun b hb hl=>ox.block b hl (by simp;omega)) (fun _ h _=>h);have SL2:=SL1.only (bs:=[]) (Only.alloc [] w1 (.cells #[.int .i64 xf.k,.int .i64 xf.n,.int .i64 xf.g,.string xf.nm,.string xf.fn,.int .i64 xf.ar,.slice sx t.l.length cx,.string xf.bs,.int .i64 xf.bt] 48)) (fun g hg hm=>by cases hm)
     have BK:Blk (w1.alloc (.cells #[.int .i64 xf.k,.int .i64 xf.n,.int .i64 xf.g,.string xf.nm,.string xf.fn,.int .i64 xf.ar,.slice sx t.l.length cx,.string xf.bs,.int .i64 xf.bt] 48)) w1.heap.size 48 (ftC ⟨xf,.slice sx t.l.length cx⟩).toArray:=Blk.new w1 48 _;have hwsz:w.heap.size≤(w1.alloc (.cells #[.int .i64 xf.k,.int .i64 xf.n,.int .i64 xf.g,.string xf.nm,.string xf.fn,.int .i64 xf.ar,.slice sx t.l.length cx,.string xf.bs,.int .i64 xf.bt] 48)).heap.size:=by have:=ox.size;simp;omega
     obtain⟨g,cap2,W2,hrun,sl2,hgrow,hwh⟩:=sl_push_term SL2 ⟨xf,.slice sx t.l.length cx⟩ rfl w1.heap.size BK (by have:=HLF.out;omega) hwsz;have hal:∀ b,b<w1.heap.size→(w1.alloc (.cells #[.int .i64 xf.k,.int .i64 xf.n,.int .i64 xf.g,.string xf.nm,.string xf.fn,.int .i64 xf.ar,.slice sx t.l.length cx,.string xf.bs,.int .i64 xf.bt] 48)).heap[b]? = w1.heap[b]?:=fun b hb=>Below.heap_alloc _ _ _ hb
     have hasz:(w1.alloc (.cells #[.int .i64 xf.k,.int .i64 xf.n,.int .i64 xf.g,.string xf.nm,.string xf.fn,.int .i64 xf.ar,.slice sx t.l.length cx,.string xf.bs,.int .i64 xf.bt] 48)).heap.size=w1.heap.size+1:=by simp
     have hkeep:∀ b,b<w1.heap.size→(Value.slice sa ts.length cap).ownBlock≠some b→W2.heap[b]? = w1.heap[b]?:=fun b hb hne=>(hgrow.block b (by omega) (fun e=>hne e.symm)).trans (hal b hb)
     have hszW:w1.heap.size≤W2.heap.size:=by have:=hgrow.size;omega
     have hgne:∀ b,b<w1.heap.size→(Value.slice sa ts.length cap).ownBlock≠some b→g≠b:=fun b hb hne e=>by
      rcases hwh with q|q
      ·
       exact hne (by rw[q,e])
      ·
       omega
     have HTS2:Hid (TmsAt (fun c=>w.heap.size≤c∧(Value.slice (some ⟨g,0,none⟩) (Fs.length+1) cap2).ownBlock≠some c) W2 (ts ++ [t]) (Fs ++ [⟨xf,.slice sx t.l.length cx⟩])):=qH (by
      refine TmsAt.snoc (TS1.map2 hszW (fun b hb hl=>hkeep b hl hb.2) (fun b hb hl=>⟨hb.1,?_⟩)) (tx.map hszW (fun b hb hl=>hkeep b hl ?_) (fun b hb hl=>⟨by omega,?_⟩))
      ·
       intro e;exact hgne b hl hb.2 (by simpa [Value.ownBlock] using e)
      ·
       intro e
       have:=(hlt0 b e).2
       omega
      ·
       intro e;exact hgne b hl (fun e=>by have:=(hlt0 b e).2;omega) (by simpa [Value.ownBlock] using e))
     have HSL2:=qH sl2;have HO2:Hid (Only [rb] w W2):=qH ⟨hgrow.os.trans HOX.out.os,hgrow.tape.trans HOX.out.tape,hgrow.output.trans HOX.out.output,Nat.le_trans HOX.out.size hszW,fun k hk hn=>by
      have h1:=HOX.out.size;refine(hkeep k (by omega) (fun e=>?_)).trans (HOX.out.block k hk hn)
      have:=(hlt0 k e).1
      omega⟩
     have HR2:Hid (Rd s rb rr1 q1 W2):=qH (HRX.out.same (hkeep rb HRX.out.lt (fun e=>by have:=(hlt0 rb e).1;omega)));have HRN:=qH hrun;have hq12:p≤q1∧q1≤2000:=⟨by omega,hq2⟩;clear ox tx rx SL1 TS1 SL2 BK hwsz sl2 hgrow hwh hal hasz hkeep hszW hgne hrun HRX HOX HSL HTS HO HR HC hlt0;go_wp2_with (at_builtin;refine wpList_append_run rfl _ _ 46 46 rfl rfl rfl HRN.out ?_);go_wp2_with fail;go_roundw
     case rel=>exact⟨j,q1,rr1,ts ++ [t],_,Fs ++ [⟨xf,.slice sx t.l.length cx⟩],by rw[List.length_append];simp;omega,by go_num,rfl,HP1,HR2,hq12,HO2,HSL2,HTS2⟩
     case measure=>simp[intOf]
   ·
    obtain rfl:m=0:=by omega
    obtain rfl:P=some (ts,q,rr):=by
     rw[HP.out];simp[itemsP]
    clear HP;have HIT:Hid (ItsAt (fun c=>w.heap.size≤c) wr ts (.slice sa ts.length cap)):=qH (by
     refine⟨Fs,HSL.out.at (fun _=>rfl),fun b o n' c' e hn'=>?_,HTS.out.map2 (Nat.le_refl _) (fun _ _ _=>rfl) (fun _ h _=>h.1)⟩;cases e;exact(HSL.out.lt b rfl).1)
    go_wp2_with fail;go_ret;exact⟨HO.out,_,rfl,HIT.out,HR.out,hpq.1,hpq.2⟩
 ·
  rw[if_neg hle] at hP;subst hP;have d1:decide (n≤2000)=false:=decide_eq_false hle;have d1i:decide ((n:Int)≤2000)=false:=decide_eq_false (by omega);go_enter Tryz.func159,Tryz.ntmps159;go_wp2_with fail;refine(demand_any _ false _).mono ?_;rintro e w0 ⟨rfl,rfl⟩;go_wp2_with fail;exact⟨rfl,Only.refl _ _,rfl⟩
theorem numP_len {r r1:List UInt8} {k n:Nat} (h:numP r k=some (n,r1)):r.length=r1.length+k:=by
 unfold numP takeL at h;split at h
 ·
  rw[Option.map_some,Option.some.injEq,Prod.mk.injEq] at h;rw[←h.2,List.length_drop];omega
 ·
  cases h
theorem only_set_new {bs:List Nat} {w W:World} {g:Nat} (h:Only bs w W) (hg:w.heap.size≤g) (i:Nat) (v:Value):Only bs w (W.setCell ⟨g,i,none⟩ v):=
 ⟨h.os,h.tape,h.output,by simpa [World.setCell] using h.size,fun k hk hn=>(Below.heap_setCell _ _ _ _ (by show k≠g;omega)).trans (h.block k hk hn)⟩
theorem only_new {bs:List Nat} {w W W':World} {g:Nat} (h:Only bs w W) (o:Only [g] W W') (hg:w.heap.size≤g):Only bs w W':=
 ⟨o.os.trans h.os,o.tape.trans h.tape,o.output.trans h.output,Nat.le_trans h.size o.size,fun k hk hn=>(o.block k (Nat.lt_of_lt_of_le hk h.size) (by simp;omega)).trans (h.block k hk hn)⟩
theorem Rd.only' {s:ByteArray} {rb g:Nat} {r:List UInt8} {p:Nat} {w w':World} (h:Rd s rb r p w) (o:Only [g] w w') (hg:rb≠g):Rd s rb r p w':=h.same (o.block rb h.lt (by simpa using hg))
set_option maxHeartbeats 2000000 in
theorem fun_any {T:Nat→List UInt8→Pr Tm} {s:ByteArray} {rb d p tag:Nat} {r0 rt:List UInt8} {w:World} (hT:TmC T s rb d) (h:Rd s rb r0 p w) (hd:2000≤p+d) (hp:p≤2000) (hs:s.size≤200000) (htag:numP r0 1=some (tag,rt)) :
  Calls Tryz.prog 162 #[.pointer (some ⟨rb,0,none⟩)] w (TmR s rb p (funP T p tag rt) w):=by
 have HT:=qH hT;have NRB:Hid (rb<w.heap.size):=qH h.lt;have O0:=qH (Only.alloc [rb] w (.cells zT 48));have R0:=qH (h.below ((Below.refl _ _).alloc (Nat.le_refl _) (.cells zT 48)));have X0:=qH (Blk.new w 48 zT);have HE:=qH htag;obtain⟨P,hP⟩:∃ P,P=funP T p tag rt:=⟨_,rfl⟩;rw[←hP];have HP0:=qH hP;clear h hP hT htag;go_enter Tryz.func162,Tryz.ntmps162;go_upto_region 1 with fail
 generalize w.alloc (.cells zT 48)=v0 at O0 R0 X0 ⊢;have HC:=qH (byte_any R0.out hs);rw[HE.out] at HC;go_wp2_with fail;refine HC.out.mono ?_;rintro e v1 ⟨ox,rfl,rx⟩;have O1:=qH (O0.out.trans ox);have R1:=qH rx;have X1:=qH (X0.out.only ox (by have:=NRB.out;simp;omega));clear ox rx HC R0 X0;dsimp only
 by_cases ht:tag=113
 ·
  subst ht;have HP:Hid (P=p113 p rt):=qH (by rw[HP0.out];rfl);clear HP0 HE;obtain⟨r1,hr1⟩:∃ r1,r1=rt:=⟨_,rfl⟩;rw[←hr1] at HP R1;clear hr1;cases hq:nameP r1 with
  | none=>
   have HC:=qH (rname_any R1.out hs);rw[hq] at HC;have E1:=qH hq;clear hq;obtain rfl:P=none:=by
     rw[HP.out];unfold p113;rw[E1.out]
   clear HP;go_wp2_with fail;refine HC.out.mono ?_;rintro e vx ⟨ox,rfl⟩;have OX:=qH (O1.out.trans ox);clear ox;go_wp2_with fail;exact⟨rfl,OX.out,rfl⟩
  | some q=>
   obtain⟨a1,r2⟩:=q;have HC:=qH (rname_any R1.out hs);rw[hq] at HC;have E1:=qH hq;clear hq;go_wp2_with fail;refine HC.out.mono ?_;rintro e v2 ⟨ox,rfl,rx⟩;have O2:=qH (O1.out.trans ox);have R2:=qH rx;have X2:=qH (X1.out.only ox (by have:=NRB.out;simp;omega));clear ox rx HC;clear R1 X1;have T3:=qH (Blk.new v2 48 #[.int .i64 5,.int .i64 0,.int .i64 0,.string ⟨a1.toArray⟩,.string ⟨#[]⟩,.int .i64 0,.slice none 0 0,.string ⟨#[]⟩,.int .i64 0])
   have HG:Hid (w.heap.size<v2.heap.size):=qH X2.out.lt;have O3:=qH (O2.out.trans (Only.alloc [rb] v2 (.cells #[.int .i64 5,.int .i64 0,.int .i64 0,.string ⟨a1.toArray⟩,.string ⟨#[]⟩,.int .i64 0,.slice none 0 0,.string ⟨#[]⟩,.int .i64 0] 48)));have R3:=qH (R2.out.below ((Below.refl _ _).alloc (Nat.le_refl _) (.cells #[.int .i64 5,.int .i64 0,.int .i64 0,.string ⟨a1.toArray⟩,.string ⟨#[]⟩,.int .i64 0,.slice none 0 0,.string ⟨#[]⟩,.int .i64 0] 48)))
   have X3:=qH (X2.out.alloc (.cells #[.int .i64 5,.int .i64 0,.int .i64 0,.string ⟨a1.toArray⟩,.string ⟨#[]⟩,.int .i64 0,.slice none 0 0,.string ⟨#[]⟩,.int .i64 0] 48));clear R2 X2;go_upto_region 4 with fail
   generalize (v2.alloc (.cells #[.int .i64 5,.int .i64 0,.int .i64 0,.string ⟨a1.toArray⟩,.string ⟨#[]⟩,.int .i64 0,.slice none 0 0,.string ⟨#[]⟩,.int .i64 0] 48))=v3 at T3 O3 R3 X3 ⊢;generalize v2.heap.size=gT at T3 HG ⊢;cases hq:nameP r2 with
   | none=>
    have HC:=qH (rname_any R3.out hs);rw[hq] at HC;have E3:=qH hq;clear hq;obtain rfl:P=none:=by
      rw[HP.out];unfold p113;rw[E1.out]
      try dsimp only
      rw[E3.out]
    clear HP;go_wp2_with fail;refine HC.out.mono ?_;rintro e vx ⟨ox,rfl⟩;have OX:=qH (O3.out.trans ox);clear ox;go_wp2_with fail;exact⟨rfl,OX.out,rfl⟩
   | some q=>
    obtain⟨a3,r3⟩:=q;have HC:=qH (rname_any R3.out hs);rw[hq] at HC;have E3:=qH hq;clear hq;go_wp2_with fail;refine HC.out.mono ?_;rintro e v4 ⟨ox,rfl,rx⟩;have O4:=qH (O3.out.trans ox);have R4:=qH rx;have X4:=qH (X3.out.only ox (by have:=NRB.out;simp;omega));have T4:=qH (T3.out.only ox (by have:=NRB.out;have:=HG.out;simp;omega));clear ox rx HC;clear R3 X3 T3;go_wp2_with (refine wpList_store_fld rfl 9 _ _ rfl rfl gT 4 _ 48 (.string ⟨a3.toArray⟩) rfl rfl T4.out (Nat.le_of_ble_eq_true rfl) (by kernel_rfl) rfl ?_)
    intro v5 ev;have T5:=qH (show Blk v5 gT 48 #[.int .i64 5,.int .i64 0,.int .i64 0,.string ⟨a1.toArray⟩,.string ⟨a3.toArray⟩,.int .i64 0,.slice none 0 0,.string ⟨#[]⟩,.int .i64 0] by rw[ev];exact T4.out.set_ 4 _);have X5:=qH (X4.out.only (bs:=[gT]) (show Only [gT] v4 v5 by rw[ev];exact Only.setCell _ ⟨gT,4,none⟩ _ (by simp)) (by have:=HG.out;simp;omega));have R5:=qH (R4.out.same (show v5.heap[rb]? = v4.heap[rb]? by rw[ev];exact Below.heap_setCell _ _ _ _ (by have:=NRB.out;have:=HG.out;show rb≠gT;omega)))
    have O5:=qH (show Only [rb] w v5 by rw[ev];exact only_set_new O4.out (by have:=HG.out;omega) _ _);clear ev;clear R4 X4 T4;cases hq:numP r3 1 with
    | none=>
     have HC:=qH (byte_any R5.out hs);rw[hq] at HC;have E5:=qH hq;clear hq;obtain rfl:P=none:=by
       rw[HP.out];unfold p113;rw[E1.out]
       try dsimp only
       rw[E3.out]
       try dsimp only
       rw[E5.out]
     clear HP;go_wp2_with fail;refine HC.out.mono ?_;rintro e vx ⟨ox,rfl⟩;have OX:=qH (O5.out.trans ox);clear ox;go_wp2_with fail;exact⟨rfl,OX.out,rfl⟩
    | some q=>
     obtain⟨n5,r4⟩:=q;have hn5:=numP_lt hq;have HE5:=qH (numP_len hq);have HC:=qH (byte_any R5.out hs);rw[hq] at HC;have E5:=qH hq;clear hq;go_wp2_with fail;refine HC.out.mono ?_;rintro e v6 ⟨ox,rfl,rx⟩;have O6:=qH (O5.out.trans ox);have R6:=qH rx;have X6:=qH (X5.out.only ox (by have:=NRB.out;simp;omega));have T6:=qH (T5.out.only ox (by have:=NRB.out;have:=HG.out;simp;omega));clear ox rx HC;clear R5 X5 T5
     by_cases hc:n5=97
     ·
      have K6:=qH hc;have d1:((n5:Int)==97)=true:=by rw[hc];rfl
      clear hc;go_wp2_with fail;refine(demand_any _ true _).mono ?_;rintro e vy ⟨rfl,rfl⟩;cases hq:numP r4 1 with
      | none=>
       have HC:=qH (byte_any R6.out hs);rw[hq] at HC;have E6:=qH hq;clear hq;obtain rfl:P=none:=by
         rw[HP.out];unfold p113;rw[E1.out]
         try dsimp only
         rw[E3.out]
         try dsimp only
         rw[E5.out]
         try dsimp only
         rw[if_pos K6.out];rw[E6.out]
       clear HP;go_wp2_with fail;refine HC.out.mono ?_;rintro e vx ⟨ox,rfl⟩;have OX:=qH (O6.out.trans ox);clear ox;go_wp2_with fail;exact⟨rfl,OX.out,rfl⟩
      | some q=>
       obtain⟨n6,r5⟩:=q;have hn6:=numP_lt hq;have HE6:=qH (numP_len hq);have HC:=qH (byte_any R6.out hs);rw[hq] at HC;have E6:=qH hq;clear hq;go_wp2_with fail;refine HC.out.mono ?_;rintro e v7 ⟨ox,rfl,rx⟩;have O7:=qH (O6.out.trans ox);have R7:=qH rx;have X7:=qH (X6.out.only ox (by have:=NRB.out;simp;omega));have T7:=qH (T6.out.only ox (by have:=NRB.out;have:=HG.out;simp;omega));clear ox rx HC;clear R6 X6 T6
       go_wp2_with (refine wpList_store_fld rfl 3 _ _ rfl rfl gT 5 _ 48 (.int .i64 (n6:Int)) rfl rfl T7.out (Nat.le_of_ble_eq_true rfl) (by kernel_rfl) rfl ?_);intro v8 ev;have T8:=qH (show Blk v8 gT 48 #[.int .i64 5,.int .i64 0,.int .i64 0,.string ⟨a1.toArray⟩,.string ⟨a3.toArray⟩,.int .i64 (n6:Int),.slice none 0 0,.string ⟨#[]⟩,.int .i64 0] by rw[ev];exact T7.out.set_ 5 _);have X8:=qH (X7.out.only (bs:=[gT]) (show Only [gT] v7 v8 by rw[ev];exact Only.setCell _ ⟨gT,5,none⟩ _ (by simp)) (by have:=HG.out;simp;omega))
       have R8:=qH (R7.out.same (show v8.heap[rb]? = v7.heap[rb]? by rw[ev];exact Below.heap_setCell _ _ _ _ (by have:=NRB.out;have:=HG.out;show rb≠gT;omega)));have O8:=qH (show Only [rb] w v8 by rw[ev];exact only_set_new O7.out (by have:=HG.out;omega) _ _);clear ev;clear R7 X7 T7;obtain rfl:P=some (.mk ⟨5,0,0,bA a1,bA a3,n6,noB,0⟩ [],p,r5):=by
         rw[HP.out];unfold p113;rw[E1.out]
         try dsimp only
         rw[E3.out]
         try dsimp only
         rw[E5.out]
         try dsimp only
         rw[if_pos K6.out];rw[E6.out]
         try dsimp only
         try rfl
       clear HP;go_wp2_with (first
        | (refine wpList_load_blk rfl 48 _ rfl gT rfl _ 48 _ T8.out Tryz.underlying48 rfl info25 ?_)
        | (refine wpList_store_blk rfl 48 _ _ rfl rfl w.heap.size #[.int .i64 5,.int .i64 0,.int .i64 0,.string ⟨a1.toArray⟩,.string ⟨a3.toArray⟩,.int .i64 (n6:Int),.slice none 0 0,.string ⟨#[]⟩,.int .i64 0] _ 48 rfl rfl X8.out rfl info25 (by simp[Value.oneCell']) ?_;intro vF bF oF))
       have RF:=R8.out.only' oF (by have:=NRB.out;omega);have OF:=only_new O8.out oF (Nat.le_refl _);go_wp2_with fail;refine bodyPost_ret (results_blk rfl _ _ w.heap.size _ _ rfl bF Tryz.underlying48 rfl info25) rfl ⟨OF,⟨⟨5,0,0,bA a1,bA a3,n6,noB,0⟩,.slice none 0 0⟩,rfl,TmAt.of rfl (ItsAt.nil none 0),RF,(by show p≤p;omega),(by show p≤2000;omega)⟩
     ·
      have K6:=qH hc;obtain rfl:P=none:=by
        rw[HP.out];unfold p113;rw[E1.out]
        try dsimp only
        rw[E3.out]
        try dsimp only
        rw[E5.out]
        try dsimp only
        rw[if_neg K6.out]
      clear HP;have d1:((n5:Int)==97)=false:=by rw[beq_eq_false_iff_ne];omega
      clear hc;go_wp2_with fail;refine(demand_any _ false _).mono ?_;rintro e vy ⟨rfl,rfl⟩;go_wp2_with fail;exact⟨rfl,O6.out,rfl⟩
 ·
  have dt:((tag:Int)==113)=false:=by rw[beq_eq_false_iff_ne];omega
  by_cases ht2:tag=112
  ·
   subst ht2;have HP:Hid (P=p112 T p rt):=qH (by rw[HP0.out];rfl);clear HP0 HE ht;obtain⟨r1,hr1⟩:∃ r1,r1=rt:=⟨_,rfl⟩;rw[←hr1] at HP R1;clear hr1;cases hq:numP r1 1 with
   | none=>
    have HC:=qH (byte_any R1.out hs);rw[hq] at HC;have E1:=qH hq;clear hq;obtain rfl:P=none:=by
      rw[HP.out];unfold p112;rw[E1.out]
    clear HP;go_wp2_with fail;refine HC.out.mono ?_;rintro e vx ⟨ox,rfl⟩;have OX:=qH (O1.out.trans ox);clear ox;go_wp2_with fail;exact⟨rfl,OX.out,rfl⟩
   | some q=>
    obtain⟨n1,r2⟩:=q;have hn1:=numP_lt hq;have HE1:=qH (numP_len hq);have HC:=qH (byte_any R1.out hs);rw[hq] at HC;have E1:=qH hq;clear hq;go_wp2_with fail;refine HC.out.mono ?_;rintro e v2 ⟨ox,rfl,rx⟩;have O2:=qH (O1.out.trans ox);have R2:=qH rx;have X2:=qH (X1.out.only ox (by have:=NRB.out;simp;omega));clear ox rx HC;clear R1 X1;have T3:=qH (Blk.new v2 48 #[.int .i64 4,.int .i64 0,.int .i64 0,.string ⟨#[]⟩,.string ⟨#[]⟩,.int .i64 (n1:Int),.slice none 0 0,.string ⟨#[]⟩,.int .i64 0])
    have HG:Hid (w.heap.size<v2.heap.size):=qH X2.out.lt;have O3:=qH (O2.out.trans (Only.alloc [rb] v2 (.cells #[.int .i64 4,.int .i64 0,.int .i64 0,.string ⟨#[]⟩,.string ⟨#[]⟩,.int .i64 (n1:Int),.slice none 0 0,.string ⟨#[]⟩,.int .i64 0] 48)));have R3:=qH (R2.out.below ((Below.refl _ _).alloc (Nat.le_refl _) (.cells #[.int .i64 4,.int .i64 0,.int .i64 0,.string ⟨#[]⟩,.string ⟨#[]⟩,.int .i64 (n1:Int),.slice none 0 0,.string ⟨#[]⟩,.int .i64 0] 48)))
    have X3:=qH (X2.out.alloc (.cells #[.int .i64 4,.int .i64 0,.int .i64 0,.string ⟨#[]⟩,.string ⟨#[]⟩,.int .i64 (n1:Int),.slice none 0 0,.string ⟨#[]⟩,.int .i64 0] 48));clear R2 X2;go_upto_region 10 with fail
    generalize (v2.alloc (.cells #[.int .i64 4,.int .i64 0,.int .i64 0,.string ⟨#[]⟩,.string ⟨#[]⟩,.int .i64 (n1:Int),.slice none 0 0,.string ⟨#[]⟩,.int .i64 0] 48))=v3 at T3 O3 R3 X3 ⊢;generalize v2.heap.size=gT at T3 HG ⊢;cases hq:numP r2 2 with
    | none=>
     have HC:=qH (number_any R3.out 2 (by omega) (by omega) hs);rw[hq] at HC;have E3:=qH hq;clear hq;obtain rfl:P=none:=by
       rw[HP.out];unfold p112;rw[E1.out]
       try dsimp only
       rw[E3.out]
     clear HP;go_wp2_with fail;refine HC.out.mono ?_;rintro e vx ⟨ox,rfl⟩;have OX:=qH (O3.out.trans ox);clear ox;go_wp2_with fail;exact⟨rfl,OX.out,rfl⟩
    | some q=>
     obtain⟨n3,r3⟩:=q;have hn3:=numP_lt hq;have HE3:=qH (numP_len hq);have HC:=qH (number_any R3.out 2 (by omega) (by omega) hs);rw[hq] at HC;have E3:=qH hq;clear hq;go_wp2_with fail;refine HC.out.mono ?_;rintro e v4 ⟨ox,rfl,rx⟩;have O4:=qH (O3.out.trans ox);have R4:=qH rx;have X4:=qH (X3.out.only ox (by have:=NRB.out;simp;omega));have T4:=qH (T3.out.only ox (by have:=NRB.out;have:=HG.out;simp;omega))
     clear ox rx HC;clear R3 X3 T3;go_wp2_with (refine wpList_store_fld rfl 2 _ _ rfl rfl gT 1 _ 48 (.int .i64 (n3:Int)) rfl rfl T4.out (Nat.le_of_ble_eq_true rfl) (by kernel_rfl) rfl ?_);intro v5 ev;have T5:=qH (show Blk v5 gT 48 #[.int .i64 4,.int .i64 (n3:Int),.int .i64 0,.string ⟨#[]⟩,.string ⟨#[]⟩,.int .i64 (n1:Int),.slice none 0 0,.string ⟨#[]⟩,.int .i64 0] by rw[ev];exact T4.out.set_ 1 _);have X5:=qH (X4.out.only (bs:=[gT]) (show Only [gT] v4 v5 by rw[ev];exact Only.setCell _ ⟨gT,1,none⟩ _ (by simp)) (by have:=HG.out;simp;omega))
     have R5:=qH (R4.out.same (show v5.heap[rb]? = v4.heap[rb]? by rw[ev];exact Below.heap_setCell _ _ _ _ (by have:=NRB.out;have:=HG.out;show rb≠gT;omega)));have O5:=qH (show Only [rb] w v5 by rw[ev];exact only_set_new O4.out (by have:=HG.out;omega) _ _);clear ev;clear R4 X4 T4;cases hq:numP r3 1 with
     | none=>
      have HC:=qH (byte_any R5.out hs);rw[hq] at HC;have E5:=qH hq;clear hq;obtain rfl:P=none:=by
        rw[HP.out];unfold p112;rw[E1.out]
        try dsimp only
        rw[E3.out]
        try dsimp only
        rw[E5.out]
      clear HP;go_wp2_with fail;refine HC.out.mono ?_;rintro e vx ⟨ox,rfl⟩;have OX:=qH (O5.out.trans ox);clear ox;go_wp2_with fail;exact⟨rfl,OX.out,rfl⟩
     | some q=>
      obtain⟨n5,r4⟩:=q;have hn5:=numP_lt hq;have HE5:=qH (numP_len hq);have HC:=qH (byte_any R5.out hs);rw[hq] at HC;have E5:=qH hq;clear hq;go_wp2_with fail;refine HC.out.mono ?_;rintro e v6 ⟨ox,rfl,rx⟩;have O6:=qH (O5.out.trans ox);have R6:=qH rx;have X6:=qH (X5.out.only ox (by have:=NRB.out;simp;omega));have T6:=qH (T5.out.only ox (by have:=NRB.out;have:=HG.out;simp;omega));clear ox rx HC;clear R5 X5 T5
      cases hq:nameP r4 with
      | none=>
       have HC:=qH (rname_any R6.out hs);rw[hq] at HC;have E6:=qH hq;clear hq;obtain rfl:P=none:=by
         rw[HP.out];unfold p112;rw[E1.out]
         try dsimp only
         rw[E3.out]
         try dsimp only
         rw[E5.out]
         try dsimp only
         rw[E6.out]
       clear HP;go_wp2_with fail;refine HC.out.mono ?_;rintro e vx ⟨ox,rfl⟩;have OX:=qH (O6.out.trans ox);clear ox;go_wp2_with fail;exact⟨rfl,OX.out,rfl⟩
      | some q=>
       obtain⟨a6,r5⟩:=q;have HC:=qH (rname_any R6.out hs);rw[hq] at HC;have E6:=qH hq;clear hq;go_wp2_with fail;refine HC.out.mono ?_;rintro e v7 ⟨ox,rfl,rx⟩;have O7:=qH (O6.out.trans ox);have R7:=qH rx;have X7:=qH (X6.out.only ox (by have:=NRB.out;simp;omega));have T7:=qH (T6.out.only ox (by have:=NRB.out;have:=HG.out;simp;omega));clear ox rx HC;clear R6 X6 T6;go_wp2_with (refine wpList_store_fld rfl 9 _ _ rfl rfl gT 3 _ 48 (.string ⟨a6.toArray⟩) rfl rfl T7.out (Nat.le_of_ble_eq_true rfl) (by kernel_rfl) rfl ?_)
       intro v8 ev;have T8:=qH (show Blk v8 gT 48 #[.int .i64 4,.int .i64 (n3:Int),.int .i64 0,.string ⟨a6.toArray⟩,.string ⟨#[]⟩,.int .i64 (n1:Int),.slice none 0 0,.string ⟨#[]⟩,.int .i64 0] by rw[ev];exact T7.out.set_ 3 _);have X8:=qH (X7.out.only (bs:=[gT]) (show Only [gT] v7 v8 by rw[ev];exact Only.setCell _ ⟨gT,3,none⟩ _ (by simp)) (by have:=HG.out;simp;omega));have R8:=qH (R7.out.same (show v8.heap[rb]? = v7.heap[rb]? by rw[ev];exact Below.heap_setCell _ _ _ _ (by have:=NRB.out;have:=HG.out;show rb≠gT;omega)))
       have O8:=qH (show Only [rb] w v8 by rw[ev];exact only_set_new O7.out (by have:=HG.out;omega) _ _);clear ev;clear R7 X7 T7;cases hq:numP r5 4 with
       | none=>
        have HC:=qH (number_any R8.out 4 (by omega) (by omega) hs);rw[hq] at HC;have E8:=qH hq;clear hq;obtain rfl:P=none:=by
          rw[HP.out];unfold p112;rw[E1.out]
          try dsimp only
          rw[E3.out]
          try dsimp only
          rw[E5.out]
          try dsimp only
          rw[E6.out]
          try dsimp only
          rw[E8.out]
        clear HP;go_wp2_with fail;refine HC.out.mono ?_;rintro e vx ⟨ox,rfl⟩;have OX:=qH (O8.out.trans ox);clear ox;go_wp2_with fail;exact⟨rfl,OX.out,rfl⟩
       | some q=>
        obtain⟨n8,r6⟩:=q;have hn8:=numP_lt hq;have HE8:=qH (numP_len hq);have HC:=qH (number_any R8.out 4 (by omega) (by omega) hs);rw[hq] at HC;have E8:=qH hq;clear hq;go_wp2_with fail;refine HC.out.mono ?_;rintro e v9 ⟨ox,rfl,rx⟩;have O9:=qH (O8.out.trans ox);have R9:=qH rx;have X9:=qH (X8.out.only ox (by have:=NRB.out;simp;omega));have T9:=qH (T8.out.only ox (by have:=NRB.out;have:=HG.out;simp;omega))
        clear ox rx HC;clear R8 X8 T8;go_wp2_with (refine wpList_store_fld rfl 2 _ _ rfl rfl gT 2 _ 48 (.int .i64 (n8:Int)) rfl rfl T9.out (Nat.le_of_ble_eq_true rfl) (by kernel_rfl) rfl ?_);intro v10 ev;have T10:=qH (show Blk v10 gT 48 #[.int .i64 4,.int .i64 (n3:Int),.int .i64 (n8:Int),.string ⟨a6.toArray⟩,.string ⟨#[]⟩,.int .i64 (n1:Int),.slice none 0 0,.string ⟨#[]⟩,.int .i64 0] by rw[ev];exact T9.out.set_ 2 _)
        have X10:=qH (X9.out.only (bs:=[gT]) (show Only [gT] v9 v10 by rw[ev];exact Only.setCell _ ⟨gT,2,none⟩ _ (by simp)) (by have:=HG.out;simp;omega));have R10:=qH (R9.out.same (show v10.heap[rb]? = v9.heap[rb]? by rw[ev];exact Below.heap_setCell _ _ _ _ (by have:=NRB.out;have:=HG.out;show rb≠gT;omega)));have O10:=qH (show Only [rb] w v10 by rw[ev];exact only_set_new O9.out (by have:=HG.out;omega) _ _)
        clear ev;clear R9 X9 T9;cases hq:itemsQ T (n5) p r6 with
        | none=>
         have HC:=qH (items_any HT.out R10.out (by omega) (by omega) (n5) (by omega));rw[hq] at HC;have E10:=qH hq;clear hq;obtain rfl:P=none:=by
           rw[HP.out];unfold p112;rw[E1.out]
           try dsimp only
           rw[E3.out]
           try dsimp only
           rw[E5.out]
           try dsimp only
           rw[E6.out]
           try dsimp only
           rw[E8.out]
           try dsimp only
           rw[E10.out]
         clear HP;go_wp2_with fail;refine HC.out.mono ?_;rintro e vx ⟨ox,rfl⟩;have OX:=qH (O10.out.trans ox);clear ox;go_wp2_with fail;exact⟨rfl,OX.out,rfl⟩
        | some q=>
         obtain⟨ts,p2,r7⟩:=q;have HC:=qH (items_any HT.out R10.out (by omega) (by omega) (n5) (by omega));rw[hq] at HC;have E10:=qH hq;clear hq;go_wp2_with fail;refine HC.out.mono ?_;rintro e v11 ⟨ox,vi,rfl,it,rx,hp1,hp2⟩;dsimp only at it rx hp1 hp2;have HPP:=qH hp1;have HP2K:=qH hp2;obtain⟨_,si,ci,rfl⟩:=it.form;have O11:=qH (O10.out.trans ox);have R11:=qH rx;have IT11:=qH it;obtain⟨li,hli⟩:∃ li,li=ts.length:=⟨_,rfl⟩
         have HLI:=qH hli;rw[←hli];rw[←hli] at IT11;have HBS:Hid (w.heap.size<v10.heap.size∧gT<v10.heap.size):=qH (⟨X10.out.lt,T10.out.lt⟩);have X11:=qH (X10.out.only ox (by have:=NRB.out;simp;omega));have T11:=qH (T10.out.only ox (by have:=NRB.out;have:=HG.out;simp;omega));clear ox rx it hli HC hp1 hp2;clear R10 X10 T10;go_wp2_with (refine wpList_store_fld rfl 46 _ _ rfl rfl gT 6 _ 48 (.slice si li ci) rfl rfl T11.out (Nat.le_of_ble_eq_true rfl) (by kernel_rfl) rfl ?_)
         intro v12 ev;have T12:=qH (show Blk v12 gT 48 #[.int .i64 4,.int .i64 (n3:Int),.int .i64 (n8:Int),.string ⟨a6.toArray⟩,.string ⟨#[]⟩,.int .i64 (n1:Int),.slice si li ci,.string ⟨#[]⟩,.int .i64 0] by rw[ev];exact T11.out.set_ 6 _);have X12:=qH (X11.out.only (bs:=[gT]) (show Only [gT] v11 v12 by rw[ev];exact Only.setCell _ ⟨gT,6,none⟩ _ (by simp)) (by have:=HG.out;simp;omega));have R12:=qH (R11.out.same (show v12.heap[rb]? = v11.heap[rb]? by rw[ev];exact Below.heap_setCell _ _ _ _ (by have:=NRB.out;have:=HG.out;show rb≠gT;omega)))
         have O12:=qH (show Only [rb] w v12 by rw[ev];exact only_set_new O11.out (by have:=HG.out;omega) _ _);have IT12:=qH (IT11.out.only (bs:=[gT]) (show Only [gT] v11 v12 by rw[ev];exact Only.setCell _ ⟨gT,6,none⟩ _ (by simp)) (fun b hb _=>by have:=HBS.out;simp;omega));clear IT11;clear ev;clear R11 X11 T11;obtain rfl:P=some (.mk ⟨4,n3,n8,bA a6,noB,n1,noB,0⟩ ts,p2,r7):=by
           rw[HP.out];unfold p112;rw[E1.out]
           try dsimp only
           rw[E3.out]
           try dsimp only
           rw[E5.out]
           try dsimp only
           rw[E6.out]
           try dsimp only
           rw[E8.out]
           try dsimp only
           rw[E10.out]
           try rfl
         clear HP;go_wp2_with (first
          | (refine wpList_load_blk rfl 48 _ rfl gT rfl _ 48 _ T12.out Tryz.underlying48 rfl info25 ?_)
          | (refine wpList_store_blk rfl 48 _ _ rfl rfl w.heap.size #[.int .i64 4,.int .i64 (n3:Int),.int .i64 (n8:Int),.string ⟨a6.toArray⟩,.string ⟨#[]⟩,.int .i64 (n1:Int),.slice si li ci,.string ⟨#[]⟩,.int .i64 0] _ 48 rfl rfl X12.out rfl info25 (by simp[Value.oneCell']) ?_;intro vF bF oF))
         have RF:=R12.out.only' oF (by have:=NRB.out;omega);have OF:=only_new O12.out oF (Nat.le_refl _);have IF:=IT12.out.only oF (fun b hb _=>by have:=HBS.out;simp;omega);go_wp2_with fail;refine bodyPost_ret (results_blk rfl _ _ w.heap.size _ _ rfl bF Tryz.underlying48 rfl info25) rfl ⟨OF,⟨⟨4,n3,n8,bA a6,noB,n1,noB,0⟩,.slice si li ci⟩,rfl,TmAt.of rfl (IF.mono (S':=fun c=>w.heap.size≤c) (fun b hb _=>by have:=HBS.out;omega)),RF,(by have:=HPP.out;show p≤p2;omega),(by have:=HP2K.out;show p2≤2000;omega)⟩
  ·
   obtain rfl:P=none:=by rw[HP0.out];unfold funP;rw[if_neg ht,if_neg ht2]
   have dt2:((tag:Int)==112)=false:=by rw[beq_eq_false_iff_ne];omega
   clear HP0 HE ht ht2;go_wp2_with fail;exact⟨rfl,O1.out,rfl⟩
end Go.Proofs.YtoaimoemaoinhaaGreatDoor
