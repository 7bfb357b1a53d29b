/- PeersX: a part of the proof. No condition beyond the premises of each theorem. -/
import Derived.Test.YtoaimoemaoinhaaGreatDoorQp03
import Derived.Deep.CutBlock
import Derived.Deep.RegionHeld3
import Derived.Deep.DeepCutAuto
import Derived.Test.YtoaimoemaoinhaaGreatDoorQp00
set_option maxRecDepth 100000
namespace Go.Proofs.YtoaimoemaoinhaaGreatDoor
open Go.RowKit Go.Rt Go.Rw
set_option maxHeartbeats 4000000 in
theorem alike_any (S S2:Nat→Prop) (l m:List Tm) (v v2:Value) (w:World) (h1:ItsAt S w l v) (h2:ItsAt S2 w m v2)
  (ih:∀ t∈l,∀ (u:Tm) (x y:Ft) (W:World),TmAt S W t x→TmAt S2 W u y→Calls Tryz.prog 134 #[ftV x,ftV y] W fun e w'=>e = .returned (.bool (eqT t u))∧Below W.heap.size W w') :
  Calls Tryz.prog 179 #[v,v2,.func (.func 134) #[] #[]] w fun e w'=>e = .returned (.bool (eqL l m))∧Below w.heap.size w w':=by
 obtain⟨hm1,sa,cap,rfl⟩:=h1.form;obtain⟨hm2,sa2,cap2,rfl⟩:=h2.form;obtain⟨r,hr⟩:∃ r,r=eqL l m:=⟨_,rfl⟩;rw[←hr]
 by_cases hlen:l.length=m.length
 ·
  have RN:Hid (∀ k (a:k<l.length) (b:k<m.length),eqT l[k] m[k]=false→r=false):=qH (fun k a b h=>by rw[hr];exact eqL_get hlen k a b h);have RY:Hid ((∀ k (a:k<l.length) (b:k<m.length),eqT l[k] m[k]=true)→r=true):=qH (fun h=>by rw[hr];exact eqL_all hlen h);have IH:=qH ih;have H1:=qH h1;have H2:=qH h2;have HL:=qH hlen;clear hr ih h1 h2;rw[←hlen] at H2 ⊢ hm2;clear hlen;obtain⟨N,hN⟩:∃ q,q=l.length:=⟨_,rfl⟩
  have HN:=qH hN;rw[←hN] at H1 H2 hm1 hm2 ⊢;clear hN;go_enter Tryz.func179,Tryz.ntmps179;go_wp2_with fail;go_loopw [16] (fun i wr=>∃ k:Nat,k≤N∧i = .int .i64 k∧Hid (Below w.heap.size w wr)∧Hid (∀ j,j<k→∀ (a:j<l.length) (b:j<m.length),eqT l[j] m[j]=true)) (fun i _=>N-(intOf i).toNat)
  case atStart=>exact⟨0,Nat.zero_le _,rfl,qH (Below.refl _ _),qH (fun j hj=>by omega)⟩
  case round=>
   obtain⟨k,hk,rfl,BW,hall⟩:=hrel
   by_cases hlt:k<N
   ·
    have hlti:(k:Int)<(N:Int):=by omega
    have hkl:k<l.length:=by rw[←HN.out];exact hlt
    have hkm:k<m.length:=by rw[←HL.out];exact hkl
    obtain⟨b,o,rfl,hb,_,hc⟩:=H1.out.get (by omega);obtain⟨b2,o2,rfl,hb2,_,hc2⟩:=H2.out.get (by omega);obtain⟨x,hx,hcx⟩:=hc k hkl;obtain⟨y,hy,hcy⟩:=hc2 k hkm;obtain⟨p0,p1,p2,p3,p4,p5,p6,p7,p8⟩:=cells9 (W:=wr) (b:=b) (p:=o+k*9) (x:=x) (fun j hj=>by rw[←hcx j hj];exact BW.out.cell (p:=⟨b,_,none⟩) hb);obtain⟨q0,q1,q2,q3,q4,q5,q6,q7,q8⟩:=cells9 (W:=wr) (b:=b2) (p:=o2+k*9) (x:=y) (fun j hj=>by rw[←hcy j hj];exact BW.out.cell (p:=⟨b2,_,none⟩) hb2)
    have IK:=qH (fun W=>IH.out l[k] (List.getElem_mem hkl) m[k] x y W);have A1:=qH (hx.below BW.out (fun b _ h=>h));have A2:=qH (hy.below BW.out (fun b _ h=>h));have iv:=hx.its.2;obtain⟨_,si,ci,ev⟩:=iv.form;obtain⟨xf,xv⟩:=x;dsimp only at p0 p1 p2 p3 p4 p5 p6 p7 p8 ev;subst ev;obtain⟨nv,hnv⟩:∃ q,q=l[k].l.length:=⟨_,rfl⟩;rw[←hnv] at p6 IK A1;have X0:=qH (Blk.new wr 48 zT);have hb2w:=Nat.lt_of_lt_of_le hb2 BW.out.size
    have O0:=qH (Only.alloc [wr.heap.size] wr (.cells zT 48));obtain⟨z,hz⟩:∃ q,q=wr.heap.size:=⟨_,rfl⟩;have HZ:=qH hz;have hz2:w.heap.size≤z:=by rw[hz];exact BW.out.size
    rw[←hz] at X0;clear hc hc2 hcx hcy hx hy hnv iv;go_upto_region 6 with (first|(rw[←hz];refine wpList_store_blk rfl 48 _ _ rfl rfl z #[.int .i64 xf.k,.int .i64 xf.n,.int .i64 xf.g,.string xf.nm,.string xf.fn,.int .i64 xf.ar,.slice si nv ci,.string xf.bs,.int .i64 xf.bt] _ 48 rfl rfl X0.out rfl info25 (by simp[Value.oneCell']) ?_;intro v1 b1 o1))
    have B1:=qH (show Below z wr v1 from by
     have:=O0.out
     rw[←HZ.out] at this;exact(this.trans o1).below (by simp) (by rw[HZ.out];exact Nat.le_refl _))
    have B2:=qH (BW.out.trans (B1.out.mono hz2));have A3:=qH (A1.out.below B1.out (fun b _ h=>by rw[HZ.out];exact h)).drew;have A4:=qH (A2.out.below B1.out (fun b _ h=>by rw[HZ.out];exact h)).drew;have BD:=qH B2.out.drew;have c0:=b1.cell 0;have c1:=b1.cell 1;have c2:=b1.cell 2;have c3:=b1.cell 3;have c4:=b1.cell 4;have c5:=b1.cell 5;have c6:=b1.cell 6;have c7:=b1.cell 7;have c8:=b1.cell 8;simp only[List.getElem?_toArray,List.getElem?_cons_zero,List.getElem?_cons_succ] at c0 c1 c2 c3 c4 c5 c6 c7 c8
    have hbz:b2<z:=by rw[HZ.out];exact hb2w
    have d0:=(B1.out.cell (p:=⟨b2,_,none⟩) hbz).trans q0;have d1:=(B1.out.cell (p:=⟨b2,_,none⟩) hbz).trans q1;have d2:=(B1.out.cell (p:=⟨b2,_,none⟩) hbz).trans q2;have d3:=(B1.out.cell (p:=⟨b2,_,none⟩) hbz).trans q3;have d4:=(B1.out.cell (p:=⟨b2,_,none⟩) hbz).trans q4;have d5:=(B1.out.cell (p:=⟨b2,_,none⟩) hbz).trans q5;have d6:=(B1.out.cell (p:=⟨b2,_,none⟩) hbz).trans q6;have d7:=(B1.out.cell (p:=⟨b2,_,none⟩) hbz).trans q7
    have d8:=(B1.out.cell (p:=⟨b2,_,none⟩) hbz).trans q8;clear p0 p1 p2 p3 p4 p5 p6 p7 p8 q0 q1 q2 q3 q4 q5 q6 q7 q8 b1 o1 X0 O0 A1 A2 B1 B2 BW hz hz2 hbz hb2w;go_wp2_with fail;go_still_tail 6,(by kernel_rfl);change wpList _ _ _ _ _ v1.drew;clear c0 c1 c2 c3 c4 c5 c6 c7 c8 d0 d1 d2 d3 d4 d5 d6 d7 d8;obtain⟨q,hq⟩:∃ q,q=eqT l[k] m[k]:=⟨_,rfl⟩;rw[←hq] at IK;generalize v1.drew=w3 at A3 A4 BD ⊢;cases q with
    | false=>
     obtain rfl:=RN.out k hkl hkm hq.symm;clear hq;go_wp2_with fail;refine(IK.out _ A3.out A4.out).mono ?_;rintro e w4 ⟨rfl,b4⟩;have B4:=qH (BD.out.trans (b4.mono BD.out.size));clear b4 A3 A4;go_wp2_with fail;go_ret;exact⟨rfl,B4.out⟩
    | true=>
     have HQ:=qH hq;clear hq;go_wp2_with fail;refine(IK.out _ A3.out A4.out).mono ?_;rintro e w4 ⟨rfl,b4⟩;have B4:=qH (BD.out.trans (b4.mono BD.out.size));clear b4 A3 A4;go_wp2_with fail;go_roundw
     case rel=>exact⟨k+1,by omega,by go_num,B4,qH (fun j hj a b=>by
      rcases Nat.lt_succ_iff_lt_or_eq.1 hj with q|q
      ·
       exact hall.out j q a b
      ·
       subst q;exact HQ.out.symm)⟩
     case measure=>simp[intOf];omega
   ·
    obtain rfl:r=true:=RY.out (fun j a b=>hall.out j (by rw[HN.out] at hlt;omega) a b);have hlti:¬(k:Int)<(N:Int):=by omega
    go_wp2_with fail;go_ret;exact⟨rfl,BW.out⟩
 ·
  obtain rfl:r=false:=by
   rw[hr];cases hh:eqL l m with
   | false=>rfl
   | true=>exact absurd (eqL_len hh) hlen
  have hne:((l.length:Int) != (m.length:Int))=true:=by rw[bne_iff_ne];omega
  clear hr hlen ih h1 h2;go_enter Tryz.func179,Tryz.ntmps179;go_wp2_with fail;go_ret;exact⟨rfl,Below.refl _ _⟩
theorem tsame_any : ∀ (t:Tm) (u:Tm) (S S2:Nat→Prop) (x y:Ft) (w:World),TmAt S w t x→TmAt S2 w u y →
  Calls Tryz.prog 134 #[ftV x,ftV y] w fun e w'=>e = .returned (.bool (eqT t u))∧Below w.heap.size w w':=by
 intro t
 induction t using Tm.ind with
 | h f l ih=>
  intro u S S2 x y w hx hy;obtain⟨g,m⟩:=u;obtain⟨e1,i1⟩:=hx.its;obtain⟨e2,i2⟩:=hy.its;obtain⟨_,sa,cap,v1⟩:=i1.form;obtain⟨_,sa2,cap2,v2⟩:=i2.form;obtain⟨xf,xv⟩:=x;obtain⟨yf,yv⟩:=y;dsimp only at e1 e2 v1 v2 i1 i2;subst e1 e2 v1 v2;rw[eqT];exact same89_flat xf yf sa sa2 _ cap _ cap2 w _ (qH fun W bW=>alike_any S S2 l m _ _ W (i1.below bW (fun _ _ h=>h)) (i2.below bW (fun _ _ h=>h)) (fun t ht u x y W' h1 h2=>ih t ht u S S2 x y W' h1 h2))
structure OfB (w W:World) (bm n:Nat) (xs:Array Value):Prop where
 ms:Ms W bm n
 p:Blk W w.heap.size 275 #[.pointer (some ⟨bm,0,none⟩)]
 x:Blk W (w.heap.size+1) 48 xs
 b:Below w.heap.size w W
theorem OfB.keep {w W W':World} {bm n:Nat} {xs:Array Value} (h:OfB w W bm n xs) (b:Below W.heap.size W W'):OfB w W' bm n xs:=
 ⟨h.ms.below b h.ms.lt,h.p.below b h.p.lt,h.x.below b h.x.lt,h.b.trans (b.mono h.b.size)⟩
theorem cell_keep {W W':World} {p:Addr} {v:Value} (b:Below W.heap.size W W') (h:W.cell? p=some v):W'.cell? p=some v:=(b.cell (World.block_lt_of_cell? W p h)).trans h
def xs9 (k n1 g1:Int) (nm fn:ByteArray) (ar:Int) (sa:Option Addr) (len cap:Nat) (bs:ByteArray) (bt:Int):Array Value:=#[.int .i64 k,.int .i64 n1,.int .i64 g1,.string nm,.string fn,.int .i64 ar,.slice sa len cap,.string bs,.int .i64 bt]
theorem OfB.only {w W W':World} {bm n g:Nat} {xs:Array Value} (h:OfB w W bm n xs) (o:Only [g] W W') (hg:w.heap.size+2≤g) (hb:bm<w.heap.size):OfB w W' bm n xs:=by
 refine⟨h.ms.only o (by simp;omega),h.p.only o (by simp;omega),h.x.only o (by simp;omega),h.b.trans (o.below (by simp;omega) h.b.size)⟩
theorem step_store_blk {P:Program} {ops:Array Oper} {o:Oper} {a:Act} {w:World} {K:Act→World→Prop} {Q:Exit→Act→World→Prop} {E:Prop}
  (hgd:o.guard=none) (ty:TypeId) (x y:Operand) (ho:o.op = .store ty x y) (hdst:o.dst=none)
  (b:Nat) (cells cs:Array Value) (t:TypeId) (hx:a.eval x = .pointer (some ⟨b,0,none⟩)) (hy:a.eval y = .agg cells)
  (hc:Blk w b t cs) (hs:cells.size=cs.size) (hi:(P.info? ty).map (·.size)=some cells.size) (h1:cells.all (·.oneCell')=true)
  (hK:∀ w',Blk w' b t cells→Only [b] w w'→K a w') :
  if Region.wanted o (yielded ops a.tmps)=true then Oper.wp P o a w K Q else E:=by
 have hw:Region.wanted o (yielded ops a.tmps)=true:=by simp[Region.wanted,hgd]
 rw[if_pos hw];exact wp_store_mid ty x y ho b 0 cells hx hy (by rw[hs];exact hc.there) hi h1 (by rw[put_none _ _ hdst];exact hK _ (by simpa using hc.setCells cells.toList (by simpa using hs)) (only_setCells b _ 0 w))
set_option maxHeartbeats 2000000 in
theorem of_core (F:Nat) (eF:∀ args w,(callFunc F args).run Tryz.prog w = .ok (.enter F args) w) (k:Nat) (hk:k<11) (n1 g1:Int) (nm fn:ByteArray) (ar:Int) (bs:ByteArray) (bt:Int) (sa:Option Addr) (len cap:Nat)
  (n1' g1':Int) (nm' fn':ByteArray) (ar':Int) (bs':ByteArray) (bt':Int) (sa':Option Addr) (len' cap':Nat) (ok okl:Bool) (sl:Nat) (bm n:Nat) (w:World)
  (hm:Ms w bm n) (hF:(kcells n)[k]? = some (.func (.func F) #[] #[])) (hb:n+300+len≤4611686018427387904) 
  (hl9:k=9→ok=true→2≤len) (hbt:k=10→ok=true→0≤bt∧bt≤16384)
  (CK:Hid (∀ W,Below w.heap.size w W→Calls Tryz.prog F #[.agg #[.int .i64 k,.int .i64 n1,.int .i64 g1,.string nm,.string fn,.int .i64 ar,.slice sa len cap,.string bs,.int .i64 bt]] W fun e w'=>e = .returned (.tuple #[.agg #[.int .i64 k,.int .i64 n1',.int .i64 g1',.string nm',.string fn',.int .i64 ar',.slice sa' len' cap',.string bs',.int .i64 bt'],.bool ok])∧Below W.heap.size W w'))
  (CC:Hid (∀ (W:World) (n':Nat),Ms W bm n'→n'≤n+300+len→Blk W w.heap.size 275 #[.pointer (some ⟨bm,0,none⟩)]→Only [bm] w W→Calls Tryz.prog 235 #[.slice sa len cap,.func (.func 236) #[] #[.pointer (some ⟨w.heap.size,0,none⟩)]] W fun e w'=>e = .returned (.bool (!okl))∧Only [bm] W w'∧∃ n'',Ms w' bm n''∧(okl=true→n''=n'+sl))) :
  Calls Tryz.prog 207 #[.pointer (some ⟨bm,0,none⟩),.agg #[.int .i64 k,.int .i64 n1,.int .i64 g1,.string nm,.string fn,.int .i64 ar,.slice sa len cap,.string bs,.int .i64 bt]] w
   (OfR bm n ((ok&&(zeroF ⟨0,n1',g1',nm',fn',ar',bs',bt'⟩&&decide (len'=0)))&&okl) (sizeO ⟨k,n1,g1,nm,fn,ar,bs,bt⟩ len+sl) w):=by
 obtain⟨RZ,hRZ⟩:∃ RZ,RZ=(zeroF ⟨0,n1',g1',nm',fn',ar',bs',bt'⟩&&decide (len'=0)):=⟨_,rfl⟩;have CZ:=qH (fun W=>same_zero ⟨0,n1',g1',nm',fn',ar',bs',bt'⟩ sa' len' cap' W rfl);rw[←hRZ] at CZ ⊢;clear hRZ;unfold ftV at CZ;dsimp only at CZ;obtain⟨SZ,hSZ⟩:∃ SZ,SZ=sizeO ⟨k,n1,g1,nm,fn,ar,bs,bt⟩ len:=⟨_,rfl⟩;rw[←hSZ];obtain⟨RA,hRA⟩:∃ RA,RA=((ok&&RZ)&&okl):=⟨_,rfl⟩;rw[←hRA];have dk:decide ((k:Int)<0)=false:=by simp
 have dk2:decide ((k:Int)≥11)=false:=by simp;omega
 have bk:(k:Int)<11:=by omega
 have O0:Hid (OfB w ((w.alloc (.cells #[.pointer (some ⟨bm,0,none⟩)] 275)).alloc (.cells #[.int .i64 k,.int .i64 n1,.int .i64 g1,.string nm,.string fn,.int .i64 ar,.slice sa len cap,.string bs,.int .i64 bt] 48)) bm n (xs9 k n1 g1 nm fn ar sa len cap bs bt)):=
  qH (by
   have:=Blk.new (w.alloc (.cells #[.pointer (some ⟨bm,0,none⟩)] 275)) 48 (xs9 k n1 g1 nm fn ar sa len cap bs bt)
   simp only[World.size_alloc] at this;exact⟨(hm.alloc _).alloc _,(Blk.new w _ _).alloc _,this,((Below.refl _ _).alloc (Nat.le_refl _) _).alloc (by simp) _⟩)
 have HS0:Hid (∀ W,OfB w W bm n (xs9 k n1 g1 nm fn ar sa len cap bs bt)→(W.cell? ⟨w.heap.size,0,none⟩=some (.pointer (some ⟨bm,0,none⟩))∧W.cell? ⟨w.heap.size+1,0,none⟩=some (.int .i64 k)∧W.cell? ⟨w.heap.size+1,1,none⟩=some (.int .i64 n1)∧W.cell? ⟨w.heap.size+1,2,none⟩=some (.int .i64 g1)∧W.cell? ⟨w.heap.size+1,3,none⟩=some (.string nm)∧W.cell? ⟨w.heap.size+1,4,none⟩=some (.string fn)∧W.cell? ⟨w.heap.size+1,5,none⟩=some (.int .i64 ar)∧W.cell? ⟨w.heap.size+1,6,none⟩=some (.slice sa len cap)∧W.cell? ⟨w.heap.size+1,7,none⟩=some (.string bs)∧W.cell? ⟨w.heap.size+1,8,none⟩=some (.int .i64 bt)∧W.cell? ⟨bm,k,none⟩=some (.func (.func F) #[] #[])∧OfB w W bm n (xs9 k n1 g1 nm fn ar sa len cap bs bt))):=
  qH (fun W h=>⟨h.p.cell 0,h.x.cell 0,h.x.cell 1,h.x.cell 2,h.x.cell 3,h.x.cell 4,h.x.cell 5,h.x.cell 6,h.x.cell 7,h.x.cell 8,(h.ms.cell k).trans hF,h⟩)
 have HBM:=qH hm.lt;have H9:=qH hl9;have H10:=qH hbt;clear hm hF hl9 hbt;have hmf:∀ (fn:Fn) (first cap:Array Value) (w:World),(Instr.makeFunc fn first cap).run Tryz.prog w = .ok (.func fn first cap) w:=fun _ _ _ _=>rfl
 go_enter Tryz.func207,Tryz.ntmps207;go_upto_region 3 with fail
 go_cut [5,6] (fun s5 s6 wx=>∃ g,s5 = .pointer (some ⟨g,0,none⟩)∧s6 = .bool ok∧w.heap.size+2≤g∧Blk wx g 48 #[.int .i64 k,.int .i64 n1',.int .i64 g1',.string nm',.string fn',.int .i64 ar',.slice sa' len' cap',.string bs',.int .i64 bt']∧OfB w wx bm n (xs9 k n1 g1 nm fn ar sa len cap bs bt))
 case first=>
  refine wp_region_held_drew (S:=(fun w'=>w'.cell? ⟨w.heap.size,0,none⟩=some (.pointer (some ⟨bm,0,none⟩))∧w'.cell? ⟨w.heap.size+1,0,none⟩=some (.int .i64 k)∧w'.cell? ⟨w.heap.size+1,1,none⟩=some (.int .i64 n1)∧w'.cell? ⟨w.heap.size+1,2,none⟩=some (.int .i64 g1)∧w'.cell? ⟨w.heap.size+1,3,none⟩=some (.string nm)∧w'.cell? ⟨w.heap.size+1,4,none⟩=some (.string fn)∧w'.cell? ⟨w.heap.size+1,5,none⟩=some (.int .i64 ar)∧w'.cell? ⟨w.heap.size+1,6,none⟩=some (.slice sa len cap)∧w'.cell? ⟨w.heap.size+1,7,none⟩=some (.string bs)∧w'.cell? ⟨w.heap.size+1,8,none⟩=some (.int .i64 bt)∧w'.cell? ⟨bm,k,none⟩=some (.func (.func F) #[] #[])∧OfB w w' bm n (xs9 k n1 g1 nm fn ar sa len cap bs bt))) (by kernel_rfl) (HS0.out _ (O0.out.keep (Below.refl _ _).drew)) (fun hS=>?_)
  refine wpAnyH_take (i:=0) (v:=?_) rfl (by kernel_rfl) (by kernel_rfl) (by kernel_rfl) (fun _ _ _ h=>h) (Or.inl ⟨by rfl,?_⟩) (by assumption) ?_;rotate_left
  ·
   intro w hSw;go_simp
   with_reducible rfl
  change wpAnyH _ _ _ _ _ _ _ (Act.put _ (some 16) _) _;simp only[PU];refine wpAnyH_take (i:=1) (v:=?_) rfl (by kernel_rfl) (by kernel_rfl) (by kernel_rfl) (fun _ _ _ h=>h) (Or.inl ⟨by rfl,?_⟩) (by assumption) ?_;rotate_left
  ·
   intro w hSw;go_simp
   with_reducible rfl
  change wpAnyH _ _ _ _ _ _ _ (Act.put _ (some 17) _) _;simp only[PU];refine wpAnyH_take (i:=2) (v:=?_) rfl (by kernel_rfl) (by kernel_rfl) (by kernel_rfl) (fun _ _ _ h=>h) (Or.inl ⟨by rfl,?_⟩) (by assumption) ?_;rotate_left
  ·
   intro w hSw;go_simp
   with_reducible rfl
  change wpAnyH _ _ _ _ _ _ _ (Act.put _ (some 18) _) _;simp only[PU];refine wpAnyH_take (i:=3) (v:=?_) rfl (by kernel_rfl) (by kernel_rfl) (by kernel_rfl) (fun _ _ _ h=>h) (Or.inl ⟨by rfl,?_⟩) (by assumption) ?_;rotate_left
  ·
   intro w hSw;go_simp
   with_reducible rfl
  change wpAnyH _ _ _ _ _ _ _ (Act.put _ (some 19) _) _;simp only[PU];refine wpAnyH_take (i:=4) (v:=?_) rfl (by kernel_rfl) (by kernel_rfl) (by kernel_rfl) (fun _ _ _ h=>h) (Or.inl ⟨by rfl,?_⟩) (by assumption) ?_;rotate_left
  ·
   intro w hSw;go_simp
   with_reducible rfl
  change wpAnyH _ _ _ _ _ _ _ (Act.put _ (some 20) _) _;simp only[PU];refine wpAnyH_take (i:=5) (v:=?_) rfl (by kernel_rfl) (by kernel_rfl) (by kernel_rfl) (fun _ _ _ h=>h) (Or.inl ⟨by rfl,?_⟩) (by assumption) ?_;rotate_left
  ·
   intro w hSw;go_simp
   with_reducible rfl
  change wpAnyH _ _ _ _ _ _ _ (Act.put _ (some 21) _) _;simp only[PU];refine wpAnyH_take (i:=6) (v:=?_) rfl (by kernel_rfl) (by kernel_rfl) (by kernel_rfl) (fun _ _ _ h=>h) (Or.inl ⟨by rfl,?_⟩) (by assumption) ?_;rotate_left
  ·
   intro w hSw;go_simp
   with_reducible rfl
  change wpAnyH _ _ _ _ _ _ _ (Act.put _ (some 22) _) _;simp only[PU];refine wpAnyH_take (i:=7) (v:=?_) rfl (by kernel_rfl) (by kernel_rfl) (by kernel_rfl) (fun _ _ _ h=>h) (Or.inl ⟨by rfl,?_⟩) (by assumption) ?_;rotate_left
  ·
   intro w hSw;go_simp
   with_reducible rfl
  change wpAnyH _ _ _ _ _ _ _ (Act.put _ (some 23) _) _;simp only[PU];refine wpAnyH_ready (rs:=[8,12]) (by kernel_rfl) (by simp) ?_;refine AllReadyH.cons rfl (fun K hK=>?_) (AllReadyH.cons rfl (fun K hK=>?_) AllReadyH.nil)
  ·
   go_simp;refine(CK.out _ (O0.out.keep (Below.refl _ _).drew).b).mono ?_;rintro e w1 ⟨rfl,b1⟩;have O1:=qH ((O0.out.keep (Below.refl _ _).drew).keep b1);clear b1;go_wp2_with fail;refine hK.out _ _ (HS0.out _ O1.out) (fun hS1=>?_);clear hK K
   try simp only[PU]
   refine wpAnyH_take (i:=9) (v:=?_) rfl (by kernel_rfl) (by kernel_rfl) (by kernel_rfl) (fun _ _ _ h=>h) (Or.inl ⟨by rfl,?_⟩) (by assumption) ?_;rotate_left
   ·
    intro w hSw;go_simp
    with_reducible rfl
   change wpAnyH _ _ _ _ _ _ _ (Act.put _ (some 15) _) _;simp only[PU];refine wpAnyH_take (i:=10) (v:=?_) rfl (by kernel_rfl) (by kernel_rfl) (by kernel_rfl) (fun _ _ _ h=>h) (Or.inl ⟨by rfl,?_⟩) (by assumption) ?_;rotate_left
   ·
    intro w hSw;go_simp
    with_reducible rfl
   change wpAnyH _ _ _ _ _ _ _ (Act.put _ (some 25) _) _;simp only[PU];refine wpAnyH_take (i:=11) (v:=?_) rfl (by kernel_rfl) (by kernel_rfl) (by kernel_rfl) (fun _ _ _ h=>h) (Or.inl ⟨by rfl,?_⟩) (by assumption) ?_;rotate_left
   ·
    intro w hSw;go_simp
    with_reducible rfl
   change wpAnyH _ _ _ _ _ _ _ (Act.put _ (some 26) _) _;simp only[PU];refine wpAnyH_ready (rs:=[12]) (by kernel_rfl) (by simp) ?_;refine AllReadyH.cons rfl (fun K hK=>?_) AllReadyH.nil;go_simp;have O2:=qH (O1.out.keep ((Below.refl _ _).alloc (Nat.le_refl _) (.cells zT 48)));refine hK.out _ _ (HS0.out _ O2.out) (fun hS2=>?_);clear hK K
   try simp only[PU]
   refine wpAnyH_ready (rs:=[13]) (by kernel_rfl) (by simp) ?_;refine AllReadyH.cons rfl (fun K hK=>?_) AllReadyH.nil;refine step_store_blk rfl 48 _ _ rfl rfl w1.heap.size #[.int .i64 k,.int .i64 n1',.int .i64 g1',.string nm',.string fn',.int .i64 ar',.slice sa' len' cap',.string bs',.int .i64 bt'] zT 48 rfl rfl (Blk.new _ _ _) rfl (by kernel_rfl) (by simp[Value.oneCell']) ?_;intro w2 bk2 o2;have O3:=qH (O2.out.only o2 O1.out.x.lt HBM.out)
   refine hK.out _ _ (HS0.out _ O3.out) (fun hS3=>?_);clear hK K
   try simp only[PU]
   refine wpAnyH_take (i:=14) (v:=?_) rfl (by kernel_rfl) (by kernel_rfl) (by kernel_rfl) (fun _ _ _ h=>h) (Or.inl ⟨by rfl,?_⟩) (by assumption) ?_;rotate_left
   ·
    intro w hSw;go_simp
    with_reducible rfl
   change wpAnyH _ _ _ _ _ _ _ (Act.put _ (some 6) _) _;simp only[PU];refine wpAnyH_done (by kernel_rfl) ?_ _;go_wp2_with fail;go_meet;exact⟨_,rfl,rfl,O1.out.x.lt,bk2,O3.out⟩
  ·
   go_simp;have OA:=qH (O0.out.keep (Below.refl _ _).drew);have O1:=qH (OA.out.keep ((Below.refl _ _).alloc (Nat.le_refl _) (.cells zT 48)));have bk0:Blk (((w.alloc (.cells #[.pointer (some ⟨bm,0,none⟩)] 275)).alloc (.cells #[.int .i64 k,.int .i64 n1,.int .i64 g1,.string nm,.string fn,.int .i64 ar,.slice sa len cap,.string bs,.int .i64 bt] 48)).drew.alloc (.cells zT 48)) (w.heap.size+1+1) 48 zT:=by
    have q:=Blk.new ((w.alloc (.cells #[.pointer (some ⟨bm,0,none⟩)] 275)).alloc (.cells #[.int .i64 k,.int .i64 n1,.int .i64 g1,.string nm,.string fn,.int .i64 ar,.slice sa len cap,.string bs,.int .i64 bt] 48)).drew 48 zT;simp only[show ((w.alloc (.cells #[.pointer (some ⟨bm,0,none⟩)] 275)).alloc (.cells #[.int .i64 k,.int .i64 n1,.int .i64 g1,.string nm,.string fn,.int .i64 ar,.slice sa len cap,.string bs,.int .i64 bt] 48)).drew.heap.size=w.heap.size+1+1 by simp] at q
    exact q
   refine hK.out _ _ (HS0.out _ O1.out) (fun hS1=>?_);clear hK K
   try simp only[PU]
   refine wpAnyH_ready (rs:=[8]) (by kernel_rfl) (by simp) ?_;refine AllReadyH.cons rfl (fun K hK=>?_) AllReadyH.nil;go_simp;refine(CK.out _ O1.out.b).mono ?_;rintro e w1 ⟨rfl,b1⟩;have O2:=qH (O1.out.keep b1);have BK1:=qH (bk0.below b1 bk0.lt);clear b1 bk0;go_wp2_with fail;refine hK.out _ _ (HS0.out _ O2.out) (fun hS2=>?_);clear hK K
   try simp only[PU]
   refine wpAnyH_take (i:=9) (v:=?_) rfl (by kernel_rfl) (by kernel_rfl) (by kernel_rfl) (fun _ _ _ h=>h) (Or.inl ⟨by rfl,?_⟩) (by assumption) ?_;rotate_left
   ·
    intro w hSw;go_simp
    with_reducible rfl
   change wpAnyH _ _ _ _ _ _ _ (Act.put _ (some 15) _) _;simp only[PU];refine wpAnyH_take (i:=10) (v:=?_) rfl (by kernel_rfl) (by kernel_rfl) (by kernel_rfl) (fun _ _ _ h=>h) (Or.inl ⟨by rfl,?_⟩) (by assumption) ?_;rotate_left
   ·
    intro w hSw;go_simp
    with_reducible rfl
   change wpAnyH _ _ _ _ _ _ _ (Act.put _ (some 25) _) _;simp only[PU];refine wpAnyH_take (i:=11) (v:=?_) rfl (by kernel_rfl) (by kernel_rfl) (by kernel_rfl) (fun _ _ _ h=>h) (Or.inl ⟨by rfl,?_⟩) (by assumption) ?_;rotate_left
   ·
    intro w hSw;go_simp
    with_reducible rfl
   change wpAnyH _ _ _ _ _ _ _ (Act.put _ (some 26) _) _;simp only[PU];refine wpAnyH_ready (rs:=[13]) (by kernel_rfl) (by simp) ?_;refine AllReadyH.cons rfl (fun K hK=>?_) AllReadyH.nil;refine step_store_blk rfl 48 _ _ rfl rfl _ #[.int .i64 k,.int .i64 n1',.int .i64 g1',.string nm',.string fn',.int .i64 ar',.slice sa' len' cap',.string bs',.int .i64 bt'] zT 48 rfl rfl BK1.out rfl (by kernel_rfl) (by simp[Value.oneCell']) ?_
   intro w2 bk2 o2;have O3:=qH (O2.out.only o2 (Nat.le_refl _) HBM.out);refine hK.out _ _ (HS0.out _ O3.out) (fun hS3=>?_);clear hK K
   try simp only[PU]
   refine wpAnyH_take (i:=14) (v:=?_) rfl (by kernel_rfl) (by kernel_rfl) (by kernel_rfl) (fun _ _ _ h=>h) (Or.inl ⟨by rfl,?_⟩) (by assumption) ?_;rotate_left
   ·
    intro w hSw;go_simp
    with_reducible rfl
   change wpAnyH _ _ _ _ _ _ _ (Act.put _ (some 6) _) _;simp only[PU];refine wpAnyH_done (by kernel_rfl) ?_ _;go_wp2_with fail;go_meet;exact⟨_,rfl,rfl,(Nat.le_refl _),bk2,O3.out⟩
 case rest=>
  obtain⟨g,rfl,rfl,hg,bk,oo⟩:=hcut;have GN:=qH hg;clear HS0 O0 CK hg;go_wp2_with (refine wpList_store_fld rfl 3 _ _ rfl rfl g 0 _ 48 (.int .i64 0) rfl rfl bk (Nat.le_of_ble_eq_true rfl) (by kernel_rfl) rfl ?_);intro v ev;have bk2:Blk v g 48 #[.int .i64 0,.int .i64 n1',.int .i64 g1',.string nm',.string fn',.int .i64 ar',.slice sa' len' cap',.string bs',.int .i64 bt']:=by rw[ev];exact bk.set_ 0 _
  have OO:=qH (show OfB w v bm n (xs9 k n1 g1 nm fn ar sa len cap bs bt) by rw[ev];exact oo.only (Only.setCell (bs:=[g]) wc ⟨g,0,none⟩ _ (by simp)) GN.out HBM.out);clear ev oo bk;cases ok with
  | false=>
   obtain rfl:RA=false:=by rw[hRA];simp
   clear hRA bk2;go_wp2_with fail;go_ret;exact⟨rfl,Only.of_below OO.out.b,n,OO.out.ms,fun h=>by cases h⟩
  | true=>
   have c0:v.cell? ⟨g,0,none⟩=some (.int .i64 0):=bk2.cell 0;have c1:v.cell? ⟨g,1,none⟩=some (.int .i64 n1'):=bk2.cell 1;have c2:v.cell? ⟨g,2,none⟩=some (.int .i64 g1'):=bk2.cell 2;have c3:v.cell? ⟨g,3,none⟩=some (.string nm'):=bk2.cell 3;have c4:v.cell? ⟨g,4,none⟩=some (.string fn'):=bk2.cell 4;have c5:v.cell? ⟨g,5,none⟩=some (.int .i64 ar'):=bk2.cell 5;have c6:v.cell? ⟨g,6,none⟩=some (.slice sa' len' cap'):=bk2.cell 6
   have c7:v.cell? ⟨g,7,none⟩=some (.string bs'):=bk2.cell 7;have c8:v.cell? ⟨g,8,none⟩=some (.int .i64 bt'):=bk2.cell 8;clear bk2;go_wp2_with fail;refine(CZ.out _).mono ?_;rintro e v2 ⟨rfl,b2⟩;have O2:=qH (OO.out.keep b2);clear b2 c0 c1 c2 c3 c4 c5 c6 c7 c8 OO;cases RZ with
   | false=>
    obtain rfl:RA=false:=by rw[hRA];simp
    clear hRA;go_wp2_with fail;go_ret;exact⟨rfl,Only.of_below O2.out.b,n,O2.out.ms,fun h=>by cases h⟩
   | true=>
    obtain rfl:okl=RA:=by rw[hRA];simp
    have p0:v2.cell? ⟨w.heap.size,0,none⟩=some (.pointer (some ⟨bm,0,none⟩)):=O2.out.p.cell 0;have x0:v2.cell? ⟨w.heap.size+1,0,none⟩=some (.int .i64 k):=O2.out.x.cell 0;have x6:v2.cell? ⟨w.heap.size+1,6,none⟩=some (.slice sa len cap):=O2.out.x.cell 6;have x8:v2.cell? ⟨w.heap.size+1,8,none⟩=some (.int .i64 bt):=O2.out.x.cell 8;have m11:v2.cell? ⟨bm,11,none⟩=some (.int .i64 n):=O2.out.ms.cell 11;clear hRA CZ
    by_cases k9:k=9
    ·
     subst k9;obtain rfl:SZ=len-1:=by rw[hSZ];rfl
     have l2:=H9.out (by simp) (by simp);clear hSZ;have w1:IntKind.i64.wrap ((len:Int)-1)=(len:Int)-1:=by rw[IntKind.wrap_i64];omega
     have w2:IntKind.i64.wrap ((n:Int)+((len:Int)-1))=((n+(len-1):Nat):Int):=by rw[IntKind.wrap_i64];omega
     go_wp2_with fail;go_still_tail 11,(by kernel_rfl);change wpList _ _ _ _ _ v2.drew;have O3:=qH (O2.out.keep (Below.refl _ _).drew);generalize v2.drew=v3 at O3 ⊢;clear O2 p0 x0 x6 x8 m11;go_wp2_with (refine wpList_store_fld rfl 3 _ _ rfl rfl bm 11 _ 280 (.int .i64 ((n+(len-1):Nat):Int)) rfl rfl O3.out.ms (Nat.le_of_ble_eq_true rfl) (by kernel_rfl) rfl ?_);intro v4 ev;have MS:=qH (show Ms v4 bm (n+(len-1)) by rw[ev];exact O3.out.ms.set_ 11 _)
     have ON:=qH (show Only [bm] w v4 by rw[ev];exact(Only.of_below O3.out.b).trans (Only.setCell v3 ⟨bm,11,none⟩ _ (by simp)));have PP:=qH (show Blk v4 w.heap.size 275 #[.pointer (some ⟨bm,0,none⟩)] by rw[ev];exact O3.out.p.far (by have:=HBM.out;show w.heap.size≠bm;omega) _);have x6:v4.cell? ⟨w.heap.size+1,6,none⟩=some (.slice sa len cap):=by rw[ev];exact(O3.out.x.far (by have:=HBM.out;show w.heap.size+1≠bm;omega) _).cell 6
     clear ev O3;go_wp2_with fail;refine(CC.out v4 _ MS.out (by omega) PP.out ON.out).mono ?_;rintro e v5 ⟨rfl,o5,n5,m5,h5⟩;have O5:=qH (ON.out.trans o5);have M5:=qH m5;have H5:Hid (okl=true→n5=n+((len-1)+sl)):=qH (fun h=>by have:=h5 h;omega);clear o5 m5 h5 MS ON PP CC;cases okl with
     | false=>
      go_wp2_with fail;go_ret;exact⟨rfl,O5.out,n5,M5.out,fun h=>by cases h⟩
     | true=>
      go_wp2_with fail;go_ret;exact⟨rfl,O5.out,n5,M5.out,fun _=>H5.out trivial⟩
    ·
     by_cases k10:k=10
     ·
      subst k10;obtain rfl:SZ=1+(bt.toNat+63) / 64:=by rw[hSZ];rfl
      have l2:=H10.out (by simp) (by simp);obtain⟨b,rfl⟩:=Int.eq_ofNat_of_zero_le l2.1;clear hSZ;have q10:b≤16384:=by omega
      have w1:IntKind.i64.wrap ((b:Int)+63)=(b:Int)+63:=by rw[IntKind.wrap_i64];omega
      have w2:IntKind.i64.wrap (((b:Int)+63) / 64)=((b:Int)+63) / 64:=by rw[IntKind.wrap_i64];omega
      have w22:((b:Int)+63).tdiv 64=((b:Int)+63) / 64:=Int.tdiv_eq_ediv_of_nonneg (by omega);have w3:IntKind.i64.wrap (1+((b:Int)+63) / 64)=1+((b:Int)+63) / 64:=by rw[IntKind.wrap_i64];omega
      have w4:IntKind.i64.wrap ((n:Int)+(1+((b:Int)+63) / 64))=(n:Int)+(1+((b:Int)+63) / 64):=by rw[IntKind.wrap_i64];omega
      go_wp2_with fail;go_still_tail 12,(by kernel_rfl);change wpList _ _ _ _ _ v2.drew;have O3:=qH (O2.out.keep (Below.refl _ _).drew);generalize v2.drew=v3 at O3 ⊢;clear O2 p0 x0 x6 x8 m11;go_wp2_with (refine wpList_store_fld rfl 3 _ _ rfl rfl bm 11 _ 280 (.int .i64 ((n:Int)+(1+((b:Int)+63) / 64))) rfl rfl O3.out.ms (Nat.le_of_ble_eq_true rfl) (by kernel_rfl) rfl ?_);intro v4 ev;have MS:=qH (show Ms v4 bm (n+(1+(((b:Nat):Int).toNat+63) / 64)) by rw[ev];exact O3.out.ms.set_ 11 _)
      have ON:=qH (show Only [bm] w v4 by rw[ev];exact(Only.of_below O3.out.b).trans (Only.setCell v3 ⟨bm,11,none⟩ _ (by simp)));have PP:=qH (show Blk v4 w.heap.size 275 #[.pointer (some ⟨bm,0,none⟩)] by rw[ev];exact O3.out.p.far (by have:=HBM.out;show w.heap.size≠bm;omega) _);have x6:v4.cell? ⟨w.heap.size+1,6,none⟩=some (.slice sa len cap):=by rw[ev];exact(O3.out.x.far (by have:=HBM.out;show w.heap.size+1≠bm;omega) _).cell 6
      clear ev O3;go_wp2_with fail;refine(CC.out v4 _ MS.out (by omega) PP.out ON.out).mono ?_;rintro e v5 ⟨rfl,o5,n5,m5,h5⟩;have O5:=qH (ON.out.trans o5);have M5:=qH m5;have H5:Hid (okl=true→n5=n+((1+(((b:Nat):Int).toNat+63) / 64)+sl)):=qH (fun h=>by have:=h5 h;omega);clear o5 m5 h5 MS ON PP CC;cases okl with
      | false=>
       go_wp2_with fail;go_ret;exact⟨rfl,O5.out,n5,M5.out,fun h=>by cases h⟩
      | true=>
       go_wp2_with fail;go_ret;exact⟨rfl,O5.out,n5,M5.out,fun _=>H5.out trivial⟩
     ·
      obtain rfl:SZ=1:=by rw[hSZ];unfold sizeO;rw[if_neg (by show ¬(k:Int)=9;omega),if_neg (by show ¬(k:Int)=10;omega)]
      have d9:((k:Int)==9)=false:=by simp;omega
      have d10:((k:Int)==10)=false:=by simp;omega
      clear hSZ k9 k10;have w2:IntKind.i64.wrap ((n:Int)+1)=((n+1:Nat):Int):=by rw[IntKind.wrap_i64];omega
      clear p0 x0 x6 x8 m11;have p0:v2.cell? ⟨w.heap.size,0,none⟩=some (.pointer (some ⟨bm,0,none⟩)):=O2.out.p.cell 0;have x0:v2.cell? ⟨w.heap.size+1,0,none⟩=some (.int .i64 k):=O2.out.x.cell 0;have m11:v2.cell? ⟨bm,11,none⟩=some (.int .i64 n):=O2.out.ms.cell 11;go_wp2_with (refine wpList_store_fld rfl 3 _ _ rfl rfl bm 11 _ 280 (.int .i64 ((n+1:Nat):Int)) rfl rfl O2.out.ms (Nat.le_of_ble_eq_true rfl) (by kernel_rfl) rfl ?_)
      intro v4 ev;have MS:=qH (show Ms v4 bm (n+(1)) by rw[ev];exact O2.out.ms.set_ 11 _);have ON:=qH (show Only [bm] w v4 by rw[ev];exact(Only.of_below O2.out.b).trans (Only.setCell v2 ⟨bm,11,none⟩ _ (by simp)));have PP:=qH (show Blk v4 w.heap.size 275 #[.pointer (some ⟨bm,0,none⟩)] by rw[ev];exact O2.out.p.far (by have:=HBM.out;show w.heap.size≠bm;omega) _);have x6:v4.cell? ⟨w.heap.size+1,6,none⟩=some (.slice sa len cap):=by rw[ev];exact(O2.out.x.far (by have:=HBM.out;show w.heap.size+1≠bm;omega) _).cell 6
      clear ev O2;go_wp2_with fail;refine(CC.out v4 _ MS.out (by omega) PP.out ON.out).mono ?_;rintro e v5 ⟨rfl,o5,n5,m5,h5⟩;have O5:=qH (ON.out.trans o5);have M5:=qH m5;have H5:Hid (okl=true→n5=n+((1)+sl)):=qH (fun h=>by have:=h5 h;omega);clear o5 m5 h5 MS ON PP CC;cases okl with
      | false=>
       go_wp2_with fail;go_ret;exact⟨rfl,O5.out,n5,M5.out,fun h=>by cases h⟩
      | true=>
       go_wp2_with fail;go_ret;exact⟨rfl,O5.out,n5,M5.out,fun _=>H5.out trivial⟩
theorem _root_.Go.Rt.Only.cell_ {bs:List Nat} {w w':World} (h:Only bs w w') {p:Addr} (hb:p.block<w.heap.size) (hn:p.block∉bs):w'.cell? p=w.cell? p:=by
 have:=h.block p.block hb hn
 simp only[World.cell?,this]
theorem formedL_take (l:List Tm) (k:Nat) (hk:k<l.length):formedL (l.take (k+1))=(formedL (l.take k)&&formed l[k]):=by
 induction l generalizing k with
 | nil=>simp at hk
 | cons t r ih=>
  cases k with
  | zero=>simp[formedL]
  | succ k=>simp[formedL,ih k (by simpa using hk),Bool.and_assoc]
theorem sizeL_take (l:List Tm) (k:Nat) (hk:k<l.length):sizeL (l.take (k+1))=sizeL (l.take k)+sizeT l[k]:=by
 induction l generalizing k with
 | nil=>simp at hk
 | cons t r ih=>
  cases k with
  | zero=>simp[sizeL]
  | succ k=>simp[sizeL,ih k (by simpa using hk)];omega
theorem formedL_false (l:List Tm) (k:Nat) (hk:k<l.length) (h:formed l[k]=false):formedL l=false:=by
 cases hh:formedL l with
 | false=>rfl
 | true=>rw[formedL_mem l hh l[k] (List.getElem_mem hk)] at h;cases h
theorem bulkL_take (l:List Tm) (k:Nat) (hk:k<l.length):bulkL (l.take k)+bulk l[k]≤bulkL l:=by
 induction l generalizing k with
 | nil=>simp at hk
 | cons t r ih=>
  cases k with
  | zero=>simp[bulkL]
  | succ k=>have:=ih k (by simpa using hk);simp[bulkL];omega
theorem of1_any (bm bx:Nat) (x:Ft) (W:World) (ok:Bool) (R:World→Prop) (hb:Blk W bx 275 #[.pointer (some ⟨bm,0,none⟩)])
  (C:Hid (∀ V,Below W.heap.size W V→Calls Tryz.prog 207 #[.pointer (some ⟨bm,0,none⟩),ftV x] V fun e w'=>e = .returned (.bool ok)∧R w')) :
  Calls Tryz.prog 236 #[ftV x,.pointer (some ⟨bx,0,none⟩)] W fun e w'=>e = .returned (.bool (!ok))∧R w':=by
 unfold ftV at C ⊢;have p0:W.cell? ⟨bx,0,none⟩=some (.pointer (some ⟨bm,0,none⟩)):=hb.cell 0;have hne:bx≠W.heap.size:=by have:=hb.lt;omega
 have p1:∀ o,(W.alloc o).cell? ⟨bx,0,none⟩=some (.pointer (some ⟨bm,0,none⟩)):=fun o=>(hb.alloc o).cell 0
 clear hb;go_enter Tryz.func236,Tryz.ntmps236;go_wp2_with fail;refine(C.out _ ((Below.refl _ _).alloc (Nat.le_refl _) _)).mono ?_;rintro e w1 ⟨rfl,h1⟩;have H1:=qH h1;clear h1;cases ok with
 | false=>
  go_wp2_with fail;go_ret;exact⟨rfl,H1.out⟩
 | true=>
  go_wp2_with fail;go_ret;exact⟨rfl,H1.out⟩
set_option maxHeartbeats 2000000 in
theorem index_any (S:Nat→Prop) (l:List Tm) (v:Value) (bm bx n:Nat) (w:World) (hl:ItsAt S w l v) (hS:∀ b,S b→b≠bm) (hbx:bx≠bm) (hm:Ms w bm n) (hb:Blk w bx 275 #[.pointer (some ⟨bm,0,none⟩)]) (hz:n+bulkL l≤4611686018427387904)
  (ih:∀ t∈l,∀ (x:Ft) (W:World) (m:Nat),TmAt S W t x→Ms W bm m→m+bulk t≤4611686018427387904→Calls Tryz.prog 207 #[.pointer (some ⟨bm,0,none⟩),ftV x] W (OfR bm m (formed t) (sizeT t) W)) :
  Calls Tryz.prog 244 #[v,.func (.func 236) #[] #[.pointer (some ⟨bx,0,none⟩)]] w fun e w'=>∃ j:Int,e = .returned (.int .i64 j)∧decide (j≥0) = !formedL l∧Only [bm] w w'∧∃ n',Ms w' bm n'∧(formedL l=true→n'=n+sizeL l):=by
 obtain⟨hm1,sa,cap,rfl⟩:=hl.form;have H1:=qH hl;have HM:=qH hm;have HB:=qH hb;have IH:=qH ih;have HS:=qH hS;clear ih hl hm hb hS;go_enter Tryz.func244,Tryz.ntmps244;go_wp2_with fail;go_loopw [8] (fun i wr=>∃ k:Nat,k≤l.length∧i = .int .i64 k∧Only [bm] w wr∧formedL (l.take k)=true∧Ms wr bm (n+sizeL (l.take k))) (fun i _=>l.length-(intOf i).toNat)
 case atStart=>exact⟨0,Nat.zero_le _,rfl,Only.refl _ _,rfl,by simpa [sizeL] using HM.out⟩
 case round=>
  obtain⟨k,hk,rfl,bw,hall,mw⟩:=hrel;have BW:=qH bw;have MW:=qH mw;have HA:=qH hall;clear bw mw hall
  by_cases hlt:k<l.length
  ·
   obtain⟨b,o,rfl,hb,hsb,hc⟩:=H1.out.get (by omega);obtain⟨x,hx,hcx⟩:=hc k hlt;have A1:=qH (hx.only BW.out (fun b hb _=>by have:=HS.out b hb;simpa using this));obtain⟨p0,p1,p2,p3,p4,p5,p6,p7,p8⟩:=cells9 (W:=wr) (b:=b) (p:=o+k*9) (x:=x) (fun j hj=>by rw[←hcx j hj];exact BW.out.cell_ (p:=⟨b,_,none⟩) hb (by have:=HS.out b hsb;simpa using this));have hq:n+sizeL (l.take k)+bulk l[k]≤4611686018427387904:=by
    have h1:=sizeL_bulk _ HA.out;have h2:=bulkL_take l k hlt;omega
   have BX:=qH (show Blk wr bx 275 #[.pointer (some ⟨bm,0,none⟩)] from HB.out.only BW.out (by simpa using hbx));have IK:=qH (fun W hb=>of1_any bm bx x W (formed l[k]) (fun w'=>Only [bm] w w'∧∃ n',Ms w' bm n'∧(formed l[k]=true→n'=n+sizeL (l.take (k+1)))) hb);have IC:Hid (∀ W,Below wr.heap.size wr W→Calls Tryz.prog 207 #[.pointer (some ⟨bm,0,none⟩),ftV x] W fun e w'=>e = .returned (.bool (formed l[k]))∧Only [bm] w w'∧∃ n',Ms w' bm n'∧(formed l[k]=true→n'=n+sizeL (l.take (k+1)))):=
    qH (fun W hb=>(IH.out l[k] (List.getElem_mem hlt) x W _ (A1.out.below hb (fun _ _ h=>h)) (MW.out.below hb MW.out.lt) hq).mono (by
     rintro e w' ⟨rfl,o,n',m',e'⟩;exact⟨rfl,(BW.out.trans (Only.of_below hb)).trans o,n',m',fun h=>by rw[sizeL_take l k hlt,e' h];omega⟩))
   clear hc hcx hx hq;obtain⟨F,hF⟩:∃ F,F=formed l[k]:=⟨_,rfl⟩;rw[←hF] at IK IC;have HF:=qH hF;clear hF;go_wp2_with fail;clear p0 p1 p2 p3 p4 p5 p6 p7 p8;refine(IK.out _ BX.out IC).mono ?_;rintro e w4 ⟨rfl,o4,n4,m4,h4⟩;have O4:=qH o4;have M4:=qH m4;have H4:=qH h4;clear o4 m4 h4;cases F with
   | false=>
    go_wp2_with fail;go_ret;exact⟨(k:Int),rfl,by rw[formedL_false l k hlt HF.out.symm];simp,O4.out,n4,M4.out,fun h=>by rw[formedL_false l k hlt HF.out.symm] at h;cases h⟩
   | true=>
    go_wp2_with fail;go_roundw
    case rel=>exact⟨k+1,by omega,by go_num,O4.out,by rw[formedL_take l k hlt,HA.out,←HF.out];rfl,by have:=H4.out trivial;rw[this] at M4;exact M4.out⟩
    case measure=>simp[intOf];omega
  ·
   obtain rfl:k=l.length:=by omega
   rw[List.take_length] at HA MW;go_wp2_with fail;go_ret;exact⟨-1,rfl,by rw[HA.out];rfl,BW.out,_,MW.out,fun _=>rfl⟩
theorem contains_any (sa:Option Addr) (len cap bx:Nat) (w:World) (ok:Bool) (R:World→Prop)
  (C:Hid (Calls Tryz.prog 244 #[.slice sa len cap,.func (.func 236) #[] #[.pointer (some ⟨bx,0,none⟩)]] w fun e w'=>∃ j:Int,e = .returned (.int .i64 j)∧decide (j≥0) = !ok∧R w')) :
  Calls Tryz.prog 235 #[.slice sa len cap,.func (.func 236) #[] #[.pointer (some ⟨bx,0,none⟩)]] w fun e w'=>e = .returned (.bool (!ok))∧R w':=by
 go_enter Tryz.func235,Tryz.ntmps235;go_wp2_with fail;refine C.out.mono ?_;rintro e w1 ⟨j,rfl,hj,h1⟩;have H1:=qH h1;clear h1 C;cases ok with
 | false=>
  have hj2:0≤j:=by simpa using hj
  have hj3:decide (j≥0)=true:=hj;clear hj;go_wp2_with fail;go_ret;exact⟨rfl,H1.out⟩
 | true=>
  have hj2:¬0≤j:=by simpa using hj
  have hj3:decide (j≥0)=false:=hj;clear hj;go_wp2_with fail;go_ret;exact⟨rfl,H1.out⟩
def fitF (f:Fl):Prop:=(f.nm.size≤200000∧f.fn.size≤200000∧f.bs.size≤200000)∧(-9223372036854775808≤f.k∧f.k≤9223372036854775807)∧(-9223372036854775808≤f.n∧f.n≤9223372036854775807)∧(-9223372036854775808≤f.g∧f.g≤9223372036854775807)∧(-9223372036854775808≤f.ar∧f.ar≤9223372036854775807)∧(-9223372036854775808≤f.bt∧f.bt≤9223372036854775807)
mutual
def fitT : Tm→Prop
 | .mk f l=>fitF f∧fitL l
def fitL : List Tm→Prop
 | []=>True
 | t::r=>fitT t∧fitL r
end
theorem fitL_mem : ∀ l,fitL l→∀ t∈l,fitT t
 | [],_,t,ht=>by cases ht
 | u::r,h,t,ht=>by
  rw[fitL] at h;rcases List.mem_cons.1 ht with rfl|q
  ·
   exact h.1
  ·
   exact fitL_mem r h.2 t q
mutual
def fitW : Tm→Prop
 | .mk f l=>f.bs.size≤200000∧fitWL l
def fitWL : List Tm→Prop
 | []=>True
 | t::r=>fitW t∧fitWL r
end
theorem fitWL_mem : ∀ l,fitWL l→∀ t∈l,fitW t
 | [],_,t,ht=>by cases ht
 | u::r,h,t,ht=>by
  rw[fitWL] at h;rcases List.mem_cons.1 ht with rfl|q
  ·
   exact h.1
  ·
   exact fitWL_mem r h.2 t q
mutual
theorem fitW_of : ∀ t,fitT t→fitW t
 | .mk f l,h=>by
  rw[fitT] at h;rw[fitW];exact⟨h.1.1.2.2,fitWL_of l h.2⟩
theorem fitWL_of : ∀ l,fitL l→fitWL l
 | [],_=>trivial
 | t::r,h=>by
  rw[fitL] at h;rw[fitWL];exact⟨fitW_of t h.1,fitWL_of r h.2⟩
end
theorem bareF_k (f:Fl):(bareF f).k=f.k:=by
 unfold bareF;split<;>(try rfl)
 split<;>(try rfl)
 split<;>(try rfl)
 split<;>(try rfl)
 split<;>(try rfl)
 split<;>(try rfl)
 split<;>rfl
theorem ownB_eq (f:Fl) (l:List Tm) (sa:Option Addr) (cap:Nat):∃ sa' len' cap',itemsV f.k (.slice sa l.length cap) = .slice sa' len' cap' ∧
  (okF f l&&(zeroF { bareF f with k:=0 } && decide (len'=0)))=ownB f l:=by
 unfold itemsV ownB;have hz:zeroF { bareF f with k:=0 } = zeroF (bareF f):=rfl;rw[hz]
 by_cases h:usesL f.k=true
 ·
  refine⟨none,0,0,by rw[if_pos h],?_⟩;rw[h];simp
 ·
  refine⟨sa,l.length,cap,by rw[if_neg h],?_⟩;have h2:usesL f.k=false:=by simpa using h
  rw[h2]
  congr 2
  cases l<;>simp
theorem okF_none (f:Fl) (l:List Tm) (h:¬(0≤f.k∧f.k<11)):okF f l=false:=by
 unfold okF;simp only[show ¬f.k=1 by omega,show ¬f.k=2 by omega,show ¬f.k=3 by omega,show ¬f.k=4 by omega,show ¬f.k=5 by omega,show ¬f.k=6 by omega,show ¬f.k=7 by omega,show ¬f.k=8 by omega,show ¬f.k=9 by omega,show ¬f.k=10 by omega,if_false]
set_option maxHeartbeats 2000000 in
theorem of_none (f:Fl) (sa:Option Addr) (len cap bm n:Nat) (w:World) (sz:Nat) (hm:Ms w bm n) (h:¬(0≤f.k∧f.k<11)) :
  Calls Tryz.prog 207 #[.pointer (some ⟨bm,0,none⟩),ftV ⟨f,.slice sa len cap⟩] w (OfR bm n false sz w):=by
 obtain⟨k,n1,g1,nm,fn,ar,bs,bt⟩:=f;have HM:=qH hm;clear hm;unfold ftV
 by_cases h0:k<0
 ·
  have d0:decide (k<0)=true:=by simpa using h0
  go_enter Tryz.func207,Tryz.ntmps207;go_wp2_with fail;go_ret;exact⟨rfl,Only.of_below (((Below.refl _ _).alloc (Nat.le_refl _) _).alloc (by simp) _),n,(HM.out.alloc _).alloc _,fun h=>by cases h⟩
 ·
  have d0:decide (k<0)=false:=by simpa using h0
  have h1:11≤k:=by dsimp only at h;omega
  have d1:decide (k≥11)=true:=by simpa using h1
  clear h;go_enter Tryz.func207,Tryz.ntmps207;go_wp2_with fail;go_ret;exact⟨rfl,Only.of_below (((Below.refl _ _).alloc (Nat.le_refl _) _).alloc (by simp) _),n,(HM.out.alloc _).alloc _,fun h=>by cases h⟩
theorem of_any : ∀ (t:Tm) (S:Nat→Prop) (x:Ft) (bm n:Nat) (w:World),TmAt S w t x→(∀ b,S b→b≠bm)→Ms w bm n→fitW t→n+bulk t≤4611686018427387904 →
  Calls Tryz.prog 207 #[.pointer (some ⟨bm,0,none⟩),ftV x] w (OfR bm n (formed t) (sizeT t) w):=by
 intro t
 induction t using Tm.ind with
 | h f l ih=>
  intro S x bm n w hx hS hm hfit hb;obtain⟨e1,i1⟩:=hx.its;obtain⟨_,sa,cap,v1⟩:=i1.form;obtain⟨xf,xv⟩:=x;dsimp only[Tm.f,Tm.l] at e1 v1 i1;subst e1 v1;rw[fitW] at hfit;rw[bulk] at hb;rw[formed,sizeT]
  by_cases hk:0≤xf.k∧xf.k<11
  ·
   obtain⟨k,hk2⟩:=Int.eq_ofNat_of_zero_le hk.1;have hk3:k<11:=by omega
   obtain⟨sa',len',cap',ev,eo⟩:=ownB_eq xf l sa cap;have CK:=fun W (hl:ItsAt S W l (.slice sa l.length cap))=>kind_any k hk3 S xf l sa cap W hk2 hl (by have:=hfit.1;unfold maxLen;omega)
   have hF:=(Blk.cell hm k).symm.trans (kid_cell hm k hk3);have h9:k=9→okF xf l=true→2≤l.length:=by
    intro e h;subst e;unfold okF at h;simp only[show xf.k=9 from hk2,show ¬(9:Int)=1 by omega,show ¬(9:Int)=2 by omega,show ¬(9:Int)=3 by omega,show ¬(9:Int)=4 by omega,show ¬(9:Int)=5 by omega,show ¬(9:Int)=6 by omega,show ¬(9:Int)=7 by omega,show ¬(9:Int)=8 by omega,if_false,if_true,Bool.and_eq_true,decide_eq_true_eq] at h;exact h.1
   have h10:k=10→okF xf l=true→0≤xf.bt∧xf.bt≤16384:=by
    intro e h;subst e;unfold okF at h;simp only[show xf.k=10 from hk2,show ¬(10:Int)=1 by omega,show ¬(10:Int)=2 by omega,show ¬(10:Int)=3 by omega,show ¬(10:Int)=4 by omega,show ¬(10:Int)=5 by omega,show ¬(10:Int)=6 by omega,show ¬(10:Int)=7 by omega,show ¬(10:Int)=8 by omega,show ¬(10:Int)=9 by omega,if_false,if_true] at h;unfold bitsB inB at h;simp only[Bool.and_eq_true,decide_eq_true_eq] at h;omega
   have hbk:=bareF_k xf;rw[ev] at CK;rw[←eo];generalize okF xf l=ok at CK h9 h10 ⊢;generalize bareF xf=g at CK hbk ⊢;obtain⟨xk,xn,xg,xnm,xfn,xar,xbs,xbt⟩:=xf;obtain⟨gk,gn,gg,gnm,gfn,gar,gbs,gbt⟩:=g;dsimp only at hk2 hbk h10;subst hbk hk2;exact of_core (kid k) (kid_enter k hk3) k hk3 xn xg xnm xfn xar xbs xbt sa l.length cap gn gg gnm gfn gar gbs gbt sa' len' cap' ok (formedL l) (sizeL l) bm n w hm hF (by omega) h9 h10
    (qH (fun W bW=>CK W (i1.below bW (fun _ _ h=>h))))
    (qH (fun W n' hM hn hB hO=>contains_any sa l.length cap w.heap.size W (formedL l) _ (qH (index_any S l _ bm w.heap.size n' W (i1.only hO (fun b hb _=>by have:=hS b hb;simpa using this)) hS (by have:=hm.lt;omega) hM hB (by omega)
     (fun t ht x W m hx hM hb=>ih t ht S x bm m W hx hS hM (fitWL_mem l hfit.2 t ht) hb)))))
  ·
   have:ownB xf l=false:=by unfold ownB;rw[okF_none xf l hk];rfl
   rw[this];exact of_none xf sa _ cap bm n w _ hm hk
end Go.Proofs.YtoaimoemaoinhaaGreatDoor
