/- PeersX: a part of the proof. No condition beyond the premises of each theorem. -/
import Derived.Test.YtoaimoemaoinhaaGreatDoorQp01
import Derived.Laws.RangeAny
import Derived.Lib.OthersKept
import Derived.LoopTactic
import Derived.WalkSmall
import Derived.Laws.BitsAllLaws
import Derived.Test.YtoaimoemaoinhaaGreatDoorQp00
set_option maxRecDepth 100000
namespace Go.Proofs.YtoaimoemaoinhaaGreatDoor
open Go.RowKit Go.Rt
theorem atB_get (s:ByteArray) (i:Nat) (h:i<s.size):atB s i=s[i].toNat:=by
  have hd:i<s.data.size:=h;unfold atB Array.getD;rw[dif_pos hd];rfl
theorem nameF_no (s:ByteArray) (i:Nat) (h:i<s.size) (hf:okAt s i=false):nameF s=false:=by
  unfold nameF;cases hh:(List.range s.size).all (okAt s) with
  | false=>simp
  | true=>rw[List.all_eq_true] at hh;rw[hh i (List.mem_range.2 h)] at hf;cases hf
theorem nameF_yes (s:ByteArray) (h0:0<s.size) (h1:s.size≤32) (h:∀ i,i<s.size→okAt s i=true):nameF s=true:=by
  unfold nameF;rw[decide_eq_true h0,decide_eq_true h1];simp only[Bool.and_true,Bool.true_and,List.all_eq_true];intro i hi;exact h i (List.mem_range.1 hi)
theorem nameF_size (s:ByteArray) (h:nameF s=true):0<s.size∧s.size≤32:=by
  unfold nameF at h;simp only[Bool.and_eq_true,decide_eq_true_eq] at h;exact h.1
set_option maxHeartbeats 1000000 in
theorem nameV_any (s:ByteArray) (w:World) :
    Calls Tryz.prog 64 #[.string s] w fun e w'=>e = .returned (.bool (nameF s))∧Below w.heap.size w w':=by
  have RN:=qH (fun i (h:i<s.size)=>nameF_no s i h);have RY:=qH (nameF_yes s);have RS:=qH (nameF_size s);obtain⟨r,hr⟩:∃ r,r=nameF s:=⟨_,rfl⟩;rw[←hr] at RN RY RS ⊢;clear hr
  by_cases h0:s.size=0
  · have hs:s.toList = []:=by
      have:s=ByteArray.mk #[]:=ByteArray.ext (Array.eq_empty_of_size_eq_zero h0)
      subst this;simp
    have hs2:s.toList.isEmpty=true:=by rw[hs];rfl
    obtain rfl:r=false:=by
      cases r with
      | false=>rfl
      | true=>have:=(RS.out rfl).1;omega
    go_enter Tryz.func64,Tryz.ntmps64;go_wp2;go_ret;exact⟨rfl,Below.refl _ _⟩
  · have hs:¬s.toList = []:=by
      intro h;have h2:s.toList.length=0:=by rw[h];rfl
      rw[ByteArray.toList_eq] at h2;exact h0 h2
    have hs2:s.toList.isEmpty=false:=by rw[List.isEmpty_eq_false_iff];exact hs
    by_cases h1:s.size≤32
    · have h1':¬(32:Int)<s.size:=by omega
      go_enter Tryz.func64,Tryz.ntmps64;go_wp2;have hi0:=World.iter_heap w s 0;have HI:=qH hi0;clear hi0;go_loopw [3,4,18,25] (fun _ _ _ _ wr=>∃ pos:Nat,pos≤s.size∧wr.heap[w.heap.size]? = some (.stringIter s pos)∧Below w.heap.size w wr∧Hid (∀ i,i<pos→okAt s i=true)) (fun _ _ _ _ wr=>s.size-wr.iterPos w.heap.size)
      case atStart=>exact⟨0,Nat.zero_le _,HI.out,(Below.refl _ _).alloc (Nat.le_refl _) _,qH (fun i hi=>by omega)⟩
      case round=>
        obtain⟨pos,hps,hit,hbw,HO⟩:=hrel;have hpos0:=iterPos_of hit
        by_cases hp:pos<s.size
        · have hne:=RN.out pos hp
          have hst:=fun(h:okAt s pos=true)=>(fun i (hi:i<pos+1)=>(by rcases Nat.lt_succ_iff_lt_or_eq.1 hi with q|q;exact HO.out i q;rw[q];exact h:okAt s i=true))
          have HST:=qH hst;have HNE:=qH hne;clear hst hne RN
          by_cases hasc:s[pos].toNat<128
          · have hnx:=fun ty=>Lib.run_next_ascii_at (P:=Tryz.prog) wr w.heap.size s pos ty hit hp hasc
            have hit2:=Lib.iterAt_heap wr w.heap.size s pos (pos+1) hit;have hbw2:=Lib.below_iterAt hbw (k:=w.heap.size) (Nat.le_refl _) s (pos+1);obtain⟨W1,hW1⟩:∃ W1,W1=wr.iterAt w.heap.size s (pos+1):=⟨_,rfl⟩;rw[←hW1] at hnx hit2 hbw2;have HIT:=qH hit2;have HBW:=qH hbw2;have hat:=atB_get s pos hp;obtain⟨c,hc⟩:∃ c,c=s[pos].toNat:=⟨_,rfl⟩;rw[←hc] at hat hnx hasc;have HAT:=qH hat;have HP0:=qH hpos0
            clear hit2 hbw2 hW1 hit hbw hat hc hpos0;cases hok:okAt s pos with
            | true=>
              have hh:=HST.out hok;have hh2:=qH hh;unfold okAt low oth at hok;rw[HAT.out] at hok;clear hh;simp only[Bool.or_eq_true,Bool.and_eq_true,decide_eq_true_eq,beq_iff_eq] at hok;have HOK:=qH hok;clear hok;go_wp2
              all_goals first
                | (go_roundw
                   case rel=>exact⟨pos+1,by omega,HIT.out,HBW.out,hh2⟩
                   case measure=>rw[iterPos_of HIT.out,HP0.out];omega)
                | (exfalso
                   have hk:=HOK.out;clear hnx
                   try simp only[beq_eq_false_iff_ne,ne_eq] at *
                   omega)
            | false=>
              obtain rfl:=HNE.out hok;unfold okAt low oth at hok;rw[HAT.out] at hok;simp only[Bool.or_eq_false_iff,Bool.and_eq_false_iff,decide_eq_false_iff_not,beq_eq_false_iff_ne] at hok;have HOK:=qH hok;clear hok;go_wp2
              all_goals first
                | (go_ret
                   exact⟨rfl,HBW.out⟩)
                | (exfalso
                   have hk:=HOK.out;clear hnx
                   try simp only[ne_eq,beq_iff_eq] at *
                   omega)
          · have hnx:=fun ty=>Lib.run_next_any_at (P:=Tryz.prog) wr w.heap.size s pos ty hit hp
            have hhi:=(decode_high s pos hp (by omega)).1;have hhi2:=decode_le s pos;have hbw2:=Lib.below_iterAt hbw (k:=w.heap.size) (Nat.le_refl _) s (pos+(Utf8.decode s pos).2);obtain⟨W1,hW1⟩:∃ W1,W1=wr.iterAt w.heap.size s (pos+(Utf8.decode s pos).2):=⟨_,rfl⟩;rw[←hW1] at hnx hbw2;obtain⟨c,hc⟩:∃ c,c=(Utf8.decode s pos).1:=⟨_,rfl⟩;rw[←hc] at hnx hhi hhi2;have HBW:=qH hbw2;have hat:=atB_get s pos hp
            have hno:okAt s pos=false:=by
              unfold okAt low oth;rw[hat];simp only[Bool.or_eq_false_iff,Bool.and_eq_false_iff,decide_eq_false_iff_not,beq_eq_false_iff_ne];omega
            obtain rfl:=HNE.out hno;clear hbw2 hW1 hc hat hno hit hbw;go_wp2
            all_goals first
              | (go_ret
                 exact⟨rfl,HBW.out⟩)
              | (exfalso
                 clear hnx
                 try simp only[beq_iff_eq] at *
                 omega)
        · have hnx:=fun ty=>Lib.run_next_end_at (P:=Tryz.prog) wr w.heap.size s pos ty hit hp
          have HBW:=qH hbw;obtain rfl:r=true:=RY.out (by omega) h1 (fun i hi=>HO.out i (by omega));clear hit hbw;go_wp2;go_ret;exact⟨rfl,HBW.out⟩
    · have h1':(32:Int)<s.size:=by omega
      obtain rfl:r=false:=by
        cases r with
        | false=>rfl
        | true=>have:=(RS.out rfl).2;omega
      go_enter Tryz.func64,Tryz.ntmps64;go_wp2;go_ret;exact⟨rfl,Below.refl _ _⟩
end Go.Proofs.YtoaimoemaoinhaaGreatDoor
namespace Go.Proofs.YtoaimoemaoinhaaGreatDoor
open Go.RowKit Go.Rt
theorem bcell {W w1:World} {B:Nat} (hb:Below B W w1):(∀ b o,b<B→w1.cell? ⟨b,o,none⟩=W.cell? ⟨b,o,none⟩)∧(∀ b o,b<B→w1.frozen? ⟨b,o,none⟩=W.frozen? ⟨b,o,none⟩):=
  ⟨fun b o h=>hb.cell (p:=⟨b,o,none⟩) h,fun b o h=>hb.frozen (p:=⟨b,o,none⟩) h⟩
end Go.Proofs.YtoaimoemaoinhaaGreatDoor
namespace Go.Proofs.YtoaimoemaoinhaaGreatDoor
open Go.RowKit Go.Rt Go.Rw
theorem within_any (n a b:Int) (w:World) :
  Calls Tryz.prog 225 #[.int .i64 n,.int .i64 a,.int .i64 b] w fun e w'=>e = .returned (.bool (inB n a b))∧w=w':=by
 obtain⟨r,hr⟩:∃ r,r=inB n a b:=⟨_,rfl⟩;rw[←hr];unfold inB at hr
 by_cases h1:a≤n
 ·
  by_cases h2:n≤b
  ·
   obtain rfl:r=true:=by simpa [h1,h2] using hr
   clear hr;go_enter Tryz.func225,Tryz.ntmps225;go_wp2;go_ret;exact⟨rfl,rfl⟩
  ·
   obtain rfl:r=false:=by simpa [h1,h2] using hr
   clear hr;go_enter Tryz.func225,Tryz.ntmps225;go_wp2;go_ret;exact⟨rfl,rfl⟩
 ·
  obtain rfl:r=false:=by simpa [h1] using hr
  clear hr;go_enter Tryz.func225,Tryz.ntmps225;go_wp2;go_ret;exact⟨rfl,rfl⟩
def KindR (g:Fl) (v:Value) (ok:Bool) (w:World) (e:Ending) (w':World):Prop:=
 e = .returned (.tuple #[ftV ⟨g,v⟩,.bool ok])∧Below w.heap.size w w'
set_option maxHeartbeats 1000000 in
theorem kind0 (f:Fl) (sa:Option Addr) (len cap:Nat) (w:World) :
  Calls Tryz.prog 226 #[ftV ⟨f,.slice sa len cap⟩] w (KindR f (.slice sa len cap) false w):=by
 obtain⟨k,n,g,nm,fn,ar,bs,bt⟩:=f;unfold ftV;go_enter Tryz.func226,Tryz.ntmps226;go_wp2;refine bodyPost_ret (v:=.tuple #[.agg #[.int .i64 k,.int .i64 n,.int .i64 g,.string nm,.string fn,.int .i64 ar,.slice sa len cap,.string bs,.int .i64 bt],.bool false]) (by simp[results,Tryz.results226,go_sem]) rfl ⟨rfl,?_⟩;exact((Below.refl _ _).alloc (Nat.le_refl _) _).alloc (by simp) _
set_option maxHeartbeats 1000000 in
theorem kind1 (f:Fl) (sa:Option Addr) (len cap:Nat) (w:World) :
  Calls Tryz.prog 227 #[ftV ⟨f,.slice sa len cap⟩] w (KindR { f with n:=0 } (.slice sa len cap) true w):=by
 obtain⟨k,n,g,nm,fn,ar,bs,bt⟩:=f;unfold ftV;go_enter Tryz.func227,Tryz.ntmps227;go_wp2;refine bodyPost_ret (v:=.tuple #[.agg #[.int .i64 k,.int .i64 0,.int .i64 g,.string nm,.string fn,.int .i64 ar,.slice sa len cap,.string bs,.int .i64 bt],.bool true]) (by simp[results,Tryz.results227,go_sem]) rfl ⟨rfl,?_⟩;exact((Below.refl _ _).alloc (Nat.le_refl _) _).alloc (by simp) _
theorem info25 : (Tryz.prog.info? 48).map (·.size)=some 9:=by kernel_rfl
structure TwoB (w W:World) (C R:Array Value):Prop where
 x:Blk W w.heap.size 48 C
 y:Blk W (w.heap.size+1) 48 R
 b:Below w.heap.size w W
section
variable {w W W':World} {C R:Array Value}
theorem TwoB.start (w:World) (C R:Array Value):TwoB w ((w.alloc (.cells C 48)).alloc (.cells R 48)) C R:=
 ⟨(Blk.new w 48 C).alloc _,by have:=Blk.new (w.alloc (.cells C 48)) 48 R;rwa [World.size_alloc] at this,((Below.refl _ w).alloc (Nat.le_refl _) _).alloc (by simp) _⟩
theorem TwoB.call (h:TwoB w W C R) (b1:Below W.heap.size W W'):TwoB w W' C R:=
 ⟨h.x.below b1 h.x.lt,h.y.below b1 h.y.lt,h.b.trans (b1.mono h.b.size)⟩
theorem TwoB.setX (h:TwoB w W C R) (i:Nat) (u:Value):TwoB w (W.setCell ⟨w.heap.size,i,none⟩ u) (C.setIfInBounds i u) R:=
 ⟨h.x.set_ i u,h.y.far (by simp) u,h.b.setCell (p:=⟨w.heap.size,i,none⟩) (Nat.le_refl _) u⟩
theorem TwoB.storeY {D:Array Value} (h:TwoB w W C R) (h1:Blk W' (w.heap.size+1) 48 D) (h2:Only [w.heap.size+1] W W'):TwoB w W' C D:=
 ⟨h.x.only h2 (by simp),h1,h.b.trans (h2.below (by simp) h.b.size)⟩
end
theorem results_two {P:Program} {fn:Func} {a b:Tmp} {ty t:TypeId} {tmps:Array Value} {w:World} {g:Nat} {cs:Array Value} {d:TypeDesc} (hc:Blk w g t cs) (hu:P.underlying ty=some d) (hd:d.isRow=true) (hi:(P.info? ty).map (·.size)=some cs.size)
  (h:fn.results = #[.cell a ty,.tmp b]) (hx:tmps.getD a undef = .pointer (some ⟨g,0,none⟩)):(results fn tmps).run P w = .ok (.tuple #[.agg cs,tmps.getD b undef]) w:=by
 have:=run_loadVar_mid (P:=P) w g 0 ty cs.toList d hc.range hu hd (by simpa using hi)
 rw[Array.getD_eq_getD_getElem?] at hx;simp only[Array.toArray_toList] at this;simp[results,h,hx,asAddr,this]
set_option maxHeartbeats 1000000 in
theorem kind2 (f:Fl) (sa:Option Addr) (len cap:Nat) (w:World) :
  Calls Tryz.prog 228 #[ftV ⟨f,.slice sa len cap⟩] w (KindR { f with nm:=noB } (.slice sa len cap) (nameF f.nm) w):=by
 obtain⟨k,n,g,nm,fn,ar,bs,bt⟩:=f;have T0:=qH (TwoB.start w #[.int .i64 k,.int .i64 n,.int .i64 g,.string nm,.string fn,.int .i64 ar,.slice sa len cap,.string bs,.int .i64 bt] zT);unfold ftV;go_enter Tryz.func228,Tryz.ntmps228;go_wp2_with fail;refine(nameV_any _ _).mono ?_;rintro e w1 ⟨rfl,b1⟩;have T1:=qH (T0.out.call b1);clear b1 T0;have s3:w1.cell? ⟨w.heap.size,3,none⟩=some (.string nm):=T1.out.x.cell 3
 have f3:=T1.out.x.frozen 3;have T2:=qH (T1.out.setX 3 (.string ⟨#[]⟩));go_wp2_with (first
  | (refine wpList_load_blk rfl 48 _ rfl w.heap.size rfl _ 48 _ T2.out.x Tryz.underlying48 rfl info25 ?_)
  | (refine wpList_store_blk rfl 48 _ _ rfl rfl (w.heap.size+1) _ _ 48 rfl rfl T2.out.y rfl info25 (by simp[Value.oneCell']) ?_;intro w4 b4 o4))
 have T3:=qH (T2.out.storeY b4 o4);clear b4 o4 T1 T2;refine bodyPost_ret (results_two T3.out.y Tryz.underlying48 rfl info25 rfl rfl) rfl ⟨rfl,T3.out.b⟩
-- printed by gen_kinds.py
theorem within_b (n a b:Int) (w:World) :
  Calls Tryz.prog 225 #[.int .i64 n,.int .i64 a,.int .i64 b] w fun e w'=>e = .returned (.bool (inB n a b))∧Below w.heap.size w w':=
 (within_any n a b w).mono fun _ _ ⟨h1,h2⟩=>⟨h1,h2▸Below.refl _ _⟩
theorem TwoB.cells {w W:World} {a0 a1 a2 a3 a4 a5 a6 a7 a8:Value} {R:Array Value} (h:TwoB w W #[a0,a1,a2,a3,a4,a5,a6,a7,a8] R) :
  W.cell? ⟨w.heap.size,0,none⟩=some a0∧W.cell? ⟨w.heap.size,1,none⟩=some a1∧W.cell? ⟨w.heap.size,2,none⟩=some a2∧W.cell? ⟨w.heap.size,3,none⟩=some a3∧W.cell? ⟨w.heap.size,4,none⟩=some a4 ∧
   W.cell? ⟨w.heap.size,5,none⟩=some a5∧W.cell? ⟨w.heap.size,6,none⟩=some a6∧W.cell? ⟨w.heap.size,7,none⟩=some a7∧W.cell? ⟨w.heap.size,8,none⟩=some a8:=
 ⟨h.x.cell 0,h.x.cell 1,h.x.cell 2,h.x.cell 3,h.x.cell 4,h.x.cell 5,h.x.cell 6,h.x.cell 7,h.x.cell 8⟩
set_option maxHeartbeats 2000000 in
theorem kind3 (f:Fl) (sa:Option Addr) (len cap:Nat) (w:World) :
  Calls Tryz.prog 224 #[ftV ⟨f,.slice sa len cap⟩] w (KindR { f with n:=0,g:=0,nm:=noB } (.slice sa len cap) (inB f.n 1 2147483647&&(inB f.g 1 2147483647&&nameF f.nm)) w):=by
 obtain⟨k,n,g,nm,fn,ar,bs,bt⟩:=f;dsimp only;have C0:=qH (fun W=>within_b n 1 2147483647 W);have C1:=qH (fun W=>within_b g 1 2147483647 W);have C2:=qH (fun W=>nameV_any nm W);obtain⟨r0,hr0⟩:∃ r,r=inB n 1 2147483647:=⟨_,rfl⟩;rw[←hr0] at C0 ⊢;clear hr0;obtain⟨r1,hr1⟩:∃ r,r=inB g 1 2147483647:=⟨_,rfl⟩;rw[←hr1] at C1 ⊢;clear hr1;obtain⟨r2,hr2⟩:∃ r,r=nameF nm:=⟨_,rfl⟩;rw[←hr2] at C2 ⊢;clear hr2;have T0:=qH (TwoB.start w #[.int .i64 k,.int .i64 n,.int .i64 g,.string nm,.string fn,.int .i64 ar,.slice sa len cap,.string bs,.int .i64 bt] zT)
 unfold ftV;cases r0 with
 | false=>
  go_enter Tryz.func224,Tryz.ntmps224;go_wp2_with fail;refine(C0.out _).mono ?_;rintro e w1 ⟨rfl,b1⟩;have T1:=qH (T0.out.call b1);clear b1 T0;obtain⟨c0,c1,c2,c3,c4,c5,c6,c7,c8⟩:=T1.out.cells;have fz:=fun i=>T1.out.x.frozen i
  clear c0 c1 c2 c3 c4 c5 c6 c7 c8 fz;go_wp2_with (refine wpList_store_fld rfl 2 _ _ rfl rfl w.heap.size 1 _ 48 (.int .i64 0) rfl rfl T1.out.x (Nat.le_of_ble_eq_true rfl) (by kernel_rfl) rfl ?_);intro v1 e1;have U1:Hid (TwoB w v1 #[.int .i64 k,.int .i64 0,.int .i64 g,.string nm,.string fn,.int .i64 ar,.slice sa len cap,.string bs,.int .i64 bt] zT):=qH (by rw[e1];exact T1.out.setX 1 _);clear e1 T1;go_wp2_with (refine wpList_store_fld rfl 2 _ _ rfl rfl w.heap.size 2 _ 48 (.int .i64 0) rfl rfl U1.out.x (Nat.le_of_ble_eq_true rfl) (by kernel_rfl) rfl ?_)
  intro v2 e2;have U2:Hid (TwoB w v2 #[.int .i64 k,.int .i64 0,.int .i64 0,.string nm,.string fn,.int .i64 ar,.slice sa len cap,.string bs,.int .i64 bt] zT):=qH (by rw[e2];exact U1.out.setX 2 _);clear e2 U1;go_wp2_with (refine wpList_store_fld rfl 9 _ _ rfl rfl w.heap.size 3 _ 48 (.string ⟨#[]⟩) rfl rfl U2.out.x (Nat.le_of_ble_eq_true rfl) (by kernel_rfl) rfl ?_);intro v3 e3;have U3:Hid (TwoB w v3 #[.int .i64 k,.int .i64 0,.int .i64 0,.string ⟨#[]⟩,.string fn,.int .i64 ar,.slice sa len cap,.string bs,.int .i64 bt] zT):=qH (by rw[e3];exact U2.out.setX 3 _)
  clear e3 U2;go_wp2_with (first
   | (refine wpList_load_blk rfl 48 _ rfl w.heap.size rfl _ 48 _ U3.out.x Tryz.underlying48 rfl info25 ?_)
   | (refine wpList_store_blk rfl 48 _ _ rfl rfl (w.heap.size+1) _ _ 48 rfl rfl U3.out.y rfl info25 (by simp[Value.oneCell']) ?_;intro w9 b9 o9))
  have V:=qH (U3.out.storeY b9 o9);clear b9 o9 U3;refine bodyPost_ret (results_two V.out.y Tryz.underlying48 rfl info25 rfl rfl) rfl ⟨rfl,V.out.b⟩
 | true=>
  go_enter Tryz.func224,Tryz.ntmps224;go_wp2_with fail;refine(C0.out _).mono ?_;rintro e w1 ⟨rfl,b1⟩;have T1:=qH (T0.out.call b1);clear b1 T0;obtain⟨c0,c1,c2,c3,c4,c5,c6,c7,c8⟩:=T1.out.cells;have fz:=fun i=>T1.out.x.frozen i
  cases r1 with
  | false=>
   go_wp2_with fail;refine(C1.out _).mono ?_;rintro e w2 ⟨rfl,b2⟩;clear c0 c1 c2 c3 c4 c5 c6 c7 c8 fz;have T2:=qH (T1.out.call b2);clear b2 T1;obtain⟨c0,c1,c2,c3,c4,c5,c6,c7,c8⟩:=T2.out.cells;have fz:=fun i=>T2.out.x.frozen i
   clear c0 c1 c2 c3 c4 c5 c6 c7 c8 fz;go_wp2_with (refine wpList_store_fld rfl 2 _ _ rfl rfl w.heap.size 1 _ 48 (.int .i64 0) rfl rfl T2.out.x (Nat.le_of_ble_eq_true rfl) (by kernel_rfl) rfl ?_);intro v1 e1;have U1:Hid (TwoB w v1 #[.int .i64 k,.int .i64 0,.int .i64 g,.string nm,.string fn,.int .i64 ar,.slice sa len cap,.string bs,.int .i64 bt] zT):=qH (by rw[e1];exact T2.out.setX 1 _);clear e1 T2
   go_wp2_with (refine wpList_store_fld rfl 2 _ _ rfl rfl w.heap.size 2 _ 48 (.int .i64 0) rfl rfl U1.out.x (Nat.le_of_ble_eq_true rfl) (by kernel_rfl) rfl ?_);intro v2 e2;have U2:Hid (TwoB w v2 #[.int .i64 k,.int .i64 0,.int .i64 0,.string nm,.string fn,.int .i64 ar,.slice sa len cap,.string bs,.int .i64 bt] zT):=qH (by rw[e2];exact U1.out.setX 2 _);clear e2 U1;go_wp2_with (refine wpList_store_fld rfl 9 _ _ rfl rfl w.heap.size 3 _ 48 (.string ⟨#[]⟩) rfl rfl U2.out.x (Nat.le_of_ble_eq_true rfl) (by kernel_rfl) rfl ?_)
   intro v3 e3;have U3:Hid (TwoB w v3 #[.int .i64 k,.int .i64 0,.int .i64 0,.string ⟨#[]⟩,.string fn,.int .i64 ar,.slice sa len cap,.string bs,.int .i64 bt] zT):=qH (by rw[e3];exact U2.out.setX 3 _);clear e3 U2;go_wp2_with (first
    | (refine wpList_load_blk rfl 48 _ rfl w.heap.size rfl _ 48 _ U3.out.x Tryz.underlying48 rfl info25 ?_)
    | (refine wpList_store_blk rfl 48 _ _ rfl rfl (w.heap.size+1) _ _ 48 rfl rfl U3.out.y rfl info25 (by simp[Value.oneCell']) ?_;intro w9 b9 o9))
   have V:=qH (U3.out.storeY b9 o9);clear b9 o9 U3;refine bodyPost_ret (results_two V.out.y Tryz.underlying48 rfl info25 rfl rfl) rfl ⟨rfl,V.out.b⟩
  | true=>
   go_wp2_with fail;refine(C1.out _).mono ?_;rintro e w2 ⟨rfl,b2⟩;clear c0 c1 c2 c3 c4 c5 c6 c7 c8 fz;have T2:=qH (T1.out.call b2);clear b2 T1;obtain⟨c0,c1,c2,c3,c4,c5,c6,c7,c8⟩:=T2.out.cells;have fz:=fun i=>T2.out.x.frozen i
   go_wp2_with fail;refine(C2.out _).mono ?_;rintro e w3 ⟨rfl,b3⟩;clear c0 c1 c2 c3 c4 c5 c6 c7 c8 fz;have T3:=qH (T2.out.call b3);clear b3 T2;obtain⟨c0,c1,c2,c3,c4,c5,c6,c7,c8⟩:=T3.out.cells;have fz:=fun i=>T3.out.x.frozen i
   clear c0 c1 c2 c3 c4 c5 c6 c7 c8 fz;go_wp2_with (refine wpList_store_fld rfl 2 _ _ rfl rfl w.heap.size 1 _ 48 (.int .i64 0) rfl rfl T3.out.x (Nat.le_of_ble_eq_true rfl) (by kernel_rfl) rfl ?_);intro v1 e1;have U1:Hid (TwoB w v1 #[.int .i64 k,.int .i64 0,.int .i64 g,.string nm,.string fn,.int .i64 ar,.slice sa len cap,.string bs,.int .i64 bt] zT):=qH (by rw[e1];exact T3.out.setX 1 _);clear e1 T3
   go_wp2_with (refine wpList_store_fld rfl 2 _ _ rfl rfl w.heap.size 2 _ 48 (.int .i64 0) rfl rfl U1.out.x (Nat.le_of_ble_eq_true rfl) (by kernel_rfl) rfl ?_);intro v2 e2;have U2:Hid (TwoB w v2 #[.int .i64 k,.int .i64 0,.int .i64 0,.string nm,.string fn,.int .i64 ar,.slice sa len cap,.string bs,.int .i64 bt] zT):=qH (by rw[e2];exact U1.out.setX 2 _);clear e2 U1;go_wp2_with (refine wpList_store_fld rfl 9 _ _ rfl rfl w.heap.size 3 _ 48 (.string ⟨#[]⟩) rfl rfl U2.out.x (Nat.le_of_ble_eq_true rfl) (by kernel_rfl) rfl ?_)
   intro v3 e3;have U3:Hid (TwoB w v3 #[.int .i64 k,.int .i64 0,.int .i64 0,.string ⟨#[]⟩,.string fn,.int .i64 ar,.slice sa len cap,.string bs,.int .i64 bt] zT):=qH (by rw[e3];exact U2.out.setX 3 _);clear e3 U2;go_wp2_with (first
    | (refine wpList_load_blk rfl 48 _ rfl w.heap.size rfl _ 48 _ U3.out.x Tryz.underlying48 rfl info25 ?_)
    | (refine wpList_store_blk rfl 48 _ _ rfl rfl (w.heap.size+1) _ _ 48 rfl rfl U3.out.y rfl info25 (by simp[Value.oneCell']) ?_;intro w9 b9 o9))
   have V:=qH (U3.out.storeY b9 o9);clear b9 o9 U3;refine bodyPost_ret (results_two V.out.y Tryz.underlying48 rfl info25 rfl rfl) rfl ⟨rfl,V.out.b⟩
set_option maxHeartbeats 2000000 in
theorem kind4 (f:Fl) (sa:Option Addr) (len cap:Nat) (w:World) :
  Calls Tryz.prog 229 #[ftV ⟨f,.slice sa len cap⟩] w (KindR { f with n:=0,g:=0,nm:=noB,ar:=0 } (.slice none 0 0) (inB f.n 0 999&&(inB f.g 1 2147483647&&(nameF f.nm&&(inB f.ar 0 16&&decide (len≤200))))) w):=by
 obtain⟨k,n,g,nm,fn,ar,bs,bt⟩:=f;dsimp only;have C0:=qH (fun W=>within_b n 0 999 W);have C1:=qH (fun W=>within_b g 1 2147483647 W);have C2:=qH (fun W=>nameV_any nm W);have C3:=qH (fun W=>within_b ar 0 16 W);obtain⟨r0,hr0⟩:∃ r,r=inB n 0 999:=⟨_,rfl⟩;rw[←hr0] at C0 ⊢;clear hr0;obtain⟨r1,hr1⟩:∃ r,r=inB g 1 2147483647:=⟨_,rfl⟩;rw[←hr1] at C1 ⊢;clear hr1;obtain⟨r2,hr2⟩:∃ r,r=nameF nm:=⟨_,rfl⟩;rw[←hr2] at C2 ⊢
 clear hr2;obtain⟨r3,hr3⟩:∃ r,r=inB ar 0 16:=⟨_,rfl⟩;rw[←hr3] at C3 ⊢;clear hr3;obtain⟨rp,hrp⟩:∃ r,r=decide (len≤200):=⟨_,rfl⟩;rw[←hrp];have HI:Hid (decide ((len:Int)≤200)=rp):=qH (by rw[hrp,decide_eq_decide];omega);clear hrp;have T0:=qH (TwoB.start w #[.int .i64 k,.int .i64 n,.int .i64 g,.string nm,.string fn,.int .i64 ar,.slice sa len cap,.string bs,.int .i64 bt] zT);unfold ftV;cases r0 with
 | false=>
  go_enter Tryz.func229,Tryz.ntmps229;go_wp2_with fail;refine(C0.out _).mono ?_;rintro e w1 ⟨rfl,b1⟩;have T1:=qH (T0.out.call b1);clear b1 T0;obtain⟨c0,c1,c2,c3,c4,c5,c6,c7,c8⟩:=T1.out.cells;have fz:=fun i=>T1.out.x.frozen i
  clear c0 c1 c2 c3 c4 c5 c6 c7 c8 fz;go_wp2_with (refine wpList_store_fld rfl 2 _ _ rfl rfl w.heap.size 1 _ 48 (.int .i64 0) rfl rfl T1.out.x (Nat.le_of_ble_eq_true rfl) (by kernel_rfl) rfl ?_);intro v1 e1;have U1:Hid (TwoB w v1 #[.int .i64 k,.int .i64 0,.int .i64 g,.string nm,.string fn,.int .i64 ar,.slice sa len cap,.string bs,.int .i64 bt] zT):=qH (by rw[e1];exact T1.out.setX 1 _);clear e1 T1;go_wp2_with (refine wpList_store_fld rfl 2 _ _ rfl rfl w.heap.size 2 _ 48 (.int .i64 0) rfl rfl U1.out.x (Nat.le_of_ble_eq_true rfl) (by kernel_rfl) rfl ?_)
  intro v2 e2;have U2:Hid (TwoB w v2 #[.int .i64 k,.int .i64 0,.int .i64 0,.string nm,.string fn,.int .i64 ar,.slice sa len cap,.string bs,.int .i64 bt] zT):=qH (by rw[e2];exact U1.out.setX 2 _);clear e2 U1;go_wp2_with (refine wpList_store_fld rfl 9 _ _ rfl rfl w.heap.size 3 _ 48 (.string ⟨#[]⟩) rfl rfl U2.out.x (Nat.le_of_ble_eq_true rfl) (by kernel_rfl) rfl ?_);intro v3 e3;have U3:Hid (TwoB w v3 #[.int .i64 k,.int .i64 0,.int .i64 0,.string ⟨#[]⟩,.string fn,.int .i64 ar,.slice sa len cap,.string bs,.int .i64 bt] zT):=qH (by rw[e3];exact U2.out.setX 3 _)
  clear e3 U2;go_wp2_with (refine wpList_store_fld rfl 3 _ _ rfl rfl w.heap.size 5 _ 48 (.int .i64 0) rfl rfl U3.out.x (Nat.le_of_ble_eq_true rfl) (by kernel_rfl) rfl ?_);intro v5 e5;have U5:Hid (TwoB w v5 #[.int .i64 k,.int .i64 0,.int .i64 0,.string ⟨#[]⟩,.string fn,.int .i64 0,.slice sa len cap,.string bs,.int .i64 bt] zT):=qH (by rw[e5];exact U3.out.setX 5 _);clear e5 U3;go_wp2_with (refine wpList_store_fld rfl 46 _ _ rfl rfl w.heap.size 6 _ 48 (.slice none 0 0) rfl rfl U5.out.x (Nat.le_of_ble_eq_true rfl) (by kernel_rfl) rfl ?_)
  intro v6 e6;have U6:Hid (TwoB w v6 #[.int .i64 k,.int .i64 0,.int .i64 0,.string ⟨#[]⟩,.string fn,.int .i64 0,.slice none 0 0,.string bs,.int .i64 bt] zT):=qH (by rw[e6];exact U5.out.setX 6 _);clear e6 U5;go_wp2_with (first
   | (refine wpList_load_blk rfl 48 _ rfl w.heap.size rfl _ 48 _ U6.out.x Tryz.underlying48 rfl info25 ?_)
   | (refine wpList_store_blk rfl 48 _ _ rfl rfl (w.heap.size+1) _ _ 48 rfl rfl U6.out.y rfl info25 (by simp[Value.oneCell']) ?_;intro w9 b9 o9))
  have V:=qH (U6.out.storeY b9 o9);clear b9 o9 U6;refine bodyPost_ret (results_two V.out.y Tryz.underlying48 rfl info25 rfl rfl) rfl ⟨rfl,V.out.b⟩
 | true=>
  go_enter Tryz.func229,Tryz.ntmps229;go_wp2_with fail;refine(C0.out _).mono ?_;rintro e w1 ⟨rfl,b1⟩;have T1:=qH (T0.out.call b1);clear b1 T0;obtain⟨c0,c1,c2,c3,c4,c5,c6,c7,c8⟩:=T1.out.cells;have fz:=fun i=>T1.out.x.frozen i
  cases r1 with
  | false=>
   go_wp2_with fail;refine(C1.out _).mono ?_;rintro e w2 ⟨rfl,b2⟩;clear c0 c1 c2 c3 c4 c5 c6 c7 c8 fz;have T2:=qH (T1.out.call b2);clear b2 T1;obtain⟨c0,c1,c2,c3,c4,c5,c6,c7,c8⟩:=T2.out.cells;have fz:=fun i=>T2.out.x.frozen i
   clear c0 c1 c2 c3 c4 c5 c6 c7 c8 fz;go_wp2_with (refine wpList_store_fld rfl 2 _ _ rfl rfl w.heap.size 1 _ 48 (.int .i64 0) rfl rfl T2.out.x (Nat.le_of_ble_eq_true rfl) (by kernel_rfl) rfl ?_);intro v1 e1;have U1:Hid (TwoB w v1 #[.int .i64 k,.int .i64 0,.int .i64 g,.string nm,.string fn,.int .i64 ar,.slice sa len cap,.string bs,.int .i64 bt] zT):=qH (by rw[e1];exact T2.out.setX 1 _);clear e1 T2
   go_wp2_with (refine wpList_store_fld rfl 2 _ _ rfl rfl w.heap.size 2 _ 48 (.int .i64 0) rfl rfl U1.out.x (Nat.le_of_ble_eq_true rfl) (by kernel_rfl) rfl ?_);intro v2 e2;have U2:Hid (TwoB w v2 #[.int .i64 k,.int .i64 0,.int .i64 0,.string nm,.string fn,.int .i64 ar,.slice sa len cap,.string bs,.int .i64 bt] zT):=qH (by rw[e2];exact U1.out.setX 2 _);clear e2 U1;go_wp2_with (refine wpList_store_fld rfl 9 _ _ rfl rfl w.heap.size 3 _ 48 (.string ⟨#[]⟩) rfl rfl U2.out.x (Nat.le_of_ble_eq_true rfl) (by kernel_rfl) rfl ?_)
   intro v3 e3;have U3:Hid (TwoB w v3 #[.int .i64 k,.int .i64 0,.int .i64 0,.string ⟨#[]⟩,.string fn,.int .i64 ar,.slice sa len cap,.string bs,.int .i64 bt] zT):=qH (by rw[e3];exact U2.out.setX 3 _);clear e3 U2;go_wp2_with (refine wpList_store_fld rfl 3 _ _ rfl rfl w.heap.size 5 _ 48 (.int .i64 0) rfl rfl U3.out.x (Nat.le_of_ble_eq_true rfl) (by kernel_rfl) rfl ?_);intro v5 e5;have U5:Hid (TwoB w v5 #[.int .i64 k,.int .i64 0,.int .i64 0,.string ⟨#[]⟩,.string fn,.int .i64 0,.slice sa len cap,.string bs,.int .i64 bt] zT):=qH (by rw[e5];exact U3.out.setX 5 _)
   clear e5 U3;go_wp2_with (refine wpList_store_fld rfl 46 _ _ rfl rfl w.heap.size 6 _ 48 (.slice none 0 0) rfl rfl U5.out.x (Nat.le_of_ble_eq_true rfl) (by kernel_rfl) rfl ?_);intro v6 e6;have U6:Hid (TwoB w v6 #[.int .i64 k,.int .i64 0,.int .i64 0,.string ⟨#[]⟩,.string fn,.int .i64 0,.slice none 0 0,.string bs,.int .i64 bt] zT):=qH (by rw[e6];exact U5.out.setX 6 _);clear e6 U5;go_wp2_with (first
    | (refine wpList_load_blk rfl 48 _ rfl w.heap.size rfl _ 48 _ U6.out.x Tryz.underlying48 rfl info25 ?_)
    | (refine wpList_store_blk rfl 48 _ _ rfl rfl (w.heap.size+1) _ _ 48 rfl rfl U6.out.y rfl info25 (by simp[Value.oneCell']) ?_;intro w9 b9 o9))
   have V:=qH (U6.out.storeY b9 o9);clear b9 o9 U6;refine bodyPost_ret (results_two V.out.y Tryz.underlying48 rfl info25 rfl rfl) rfl ⟨rfl,V.out.b⟩
  | true=>
   go_wp2_with fail;refine(C1.out _).mono ?_;rintro e w2 ⟨rfl,b2⟩;clear c0 c1 c2 c3 c4 c5 c6 c7 c8 fz;have T2:=qH (T1.out.call b2);clear b2 T1;obtain⟨c0,c1,c2,c3,c4,c5,c6,c7,c8⟩:=T2.out.cells;have fz:=fun i=>T2.out.x.frozen i
   cases r2 with
   | false=>
    go_wp2_with fail;refine(C2.out _).mono ?_;rintro e w3 ⟨rfl,b3⟩;clear c0 c1 c2 c3 c4 c5 c6 c7 c8 fz;have T3:=qH (T2.out.call b3);clear b3 T2;obtain⟨c0,c1,c2,c3,c4,c5,c6,c7,c8⟩:=T3.out.cells;have fz:=fun i=>T3.out.x.frozen i
    clear c0 c1 c2 c3 c4 c5 c6 c7 c8 fz;go_wp2_with (refine wpList_store_fld rfl 2 _ _ rfl rfl w.heap.size 1 _ 48 (.int .i64 0) rfl rfl T3.out.x (Nat.le_of_ble_eq_true rfl) (by kernel_rfl) rfl ?_);intro v1 e1;have U1:Hid (TwoB w v1 #[.int .i64 k,.int .i64 0,.int .i64 g,.string nm,.string fn,.int .i64 ar,.slice sa len cap,.string bs,.int .i64 bt] zT):=qH (by rw[e1];exact T3.out.setX 1 _);clear e1 T3
    go_wp2_with (refine wpList_store_fld rfl 2 _ _ rfl rfl w.heap.size 2 _ 48 (.int .i64 0) rfl rfl U1.out.x (Nat.le_of_ble_eq_true rfl) (by kernel_rfl) rfl ?_);intro v2 e2;have U2:Hid (TwoB w v2 #[.int .i64 k,.int .i64 0,.int .i64 0,.string nm,.string fn,.int .i64 ar,.slice sa len cap,.string bs,.int .i64 bt] zT):=qH (by rw[e2];exact U1.out.setX 2 _);clear e2 U1;go_wp2_with (refine wpList_store_fld rfl 9 _ _ rfl rfl w.heap.size 3 _ 48 (.string ⟨#[]⟩) rfl rfl U2.out.x (Nat.le_of_ble_eq_true rfl) (by kernel_rfl) rfl ?_)
    intro v3 e3;have U3:Hid (TwoB w v3 #[.int .i64 k,.int .i64 0,.int .i64 0,.string ⟨#[]⟩,.string fn,.int .i64 ar,.slice sa len cap,.string bs,.int .i64 bt] zT):=qH (by rw[e3];exact U2.out.setX 3 _);clear e3 U2;go_wp2_with (refine wpList_store_fld rfl 3 _ _ rfl rfl w.heap.size 5 _ 48 (.int .i64 0) rfl rfl U3.out.x (Nat.le_of_ble_eq_true rfl) (by kernel_rfl) rfl ?_);intro v5 e5;have U5:Hid (TwoB w v5 #[.int .i64 k,.int .i64 0,.int .i64 0,.string ⟨#[]⟩,.string fn,.int .i64 0,.slice sa len cap,.string bs,.int .i64 bt] zT):=qH (by rw[e5];exact U3.out.setX 5 _)
    clear e5 U3;go_wp2_with (refine wpList_store_fld rfl 46 _ _ rfl rfl w.heap.size 6 _ 48 (.slice none 0 0) rfl rfl U5.out.x (Nat.le_of_ble_eq_true rfl) (by kernel_rfl) rfl ?_);intro v6 e6;have U6:Hid (TwoB w v6 #[.int .i64 k,.int .i64 0,.int .i64 0,.string ⟨#[]⟩,.string fn,.int .i64 0,.slice none 0 0,.string bs,.int .i64 bt] zT):=qH (by rw[e6];exact U5.out.setX 6 _);clear e6 U5;go_wp2_with (first
     | (refine wpList_load_blk rfl 48 _ rfl w.heap.size rfl _ 48 _ U6.out.x Tryz.underlying48 rfl info25 ?_)
     | (refine wpList_store_blk rfl 48 _ _ rfl rfl (w.heap.size+1) _ _ 48 rfl rfl U6.out.y rfl info25 (by simp[Value.oneCell']) ?_;intro w9 b9 o9))
    have V:=qH (U6.out.storeY b9 o9);clear b9 o9 U6;refine bodyPost_ret (results_two V.out.y Tryz.underlying48 rfl info25 rfl rfl) rfl ⟨rfl,V.out.b⟩
   | true=>
    go_wp2_with fail;refine(C2.out _).mono ?_;rintro e w3 ⟨rfl,b3⟩;clear c0 c1 c2 c3 c4 c5 c6 c7 c8 fz;have T3:=qH (T2.out.call b3);clear b3 T2;obtain⟨c0,c1,c2,c3,c4,c5,c6,c7,c8⟩:=T3.out.cells;have fz:=fun i=>T3.out.x.frozen i
    cases r3 with
    | false=>
     go_wp2_with fail;refine(C3.out _).mono ?_;rintro e w4 ⟨rfl,b4⟩;clear c0 c1 c2 c3 c4 c5 c6 c7 c8 fz;have T4:=qH (T3.out.call b4);clear b4 T3;obtain⟨c0,c1,c2,c3,c4,c5,c6,c7,c8⟩:=T4.out.cells;have fz:=fun i=>T4.out.x.frozen i
     clear c0 c1 c2 c3 c4 c5 c6 c7 c8 fz;go_wp2_with (refine wpList_store_fld rfl 2 _ _ rfl rfl w.heap.size 1 _ 48 (.int .i64 0) rfl rfl T4.out.x (Nat.le_of_ble_eq_true rfl) (by kernel_rfl) rfl ?_);intro v1 e1;have U1:Hid (TwoB w v1 #[.int .i64 k,.int .i64 0,.int .i64 g,.string nm,.string fn,.int .i64 ar,.slice sa len cap,.string bs,.int .i64 bt] zT):=qH (by rw[e1];exact T4.out.setX 1 _);clear e1 T4
     go_wp2_with (refine wpList_store_fld rfl 2 _ _ rfl rfl w.heap.size 2 _ 48 (.int .i64 0) rfl rfl U1.out.x (Nat.le_of_ble_eq_true rfl) (by kernel_rfl) rfl ?_);intro v2 e2;have U2:Hid (TwoB w v2 #[.int .i64 k,.int .i64 0,.int .i64 0,.string nm,.string fn,.int .i64 ar,.slice sa len cap,.string bs,.int .i64 bt] zT):=qH (by rw[e2];exact U1.out.setX 2 _);clear e2 U1;go_wp2_with (refine wpList_store_fld rfl 9 _ _ rfl rfl w.heap.size 3 _ 48 (.string ⟨#[]⟩) rfl rfl U2.out.x (Nat.le_of_ble_eq_true rfl) (by kernel_rfl) rfl ?_)
     intro v3 e3;have U3:Hid (TwoB w v3 #[.int .i64 k,.int .i64 0,.int .i64 0,.string ⟨#[]⟩,.string fn,.int .i64 ar,.slice sa len cap,.string bs,.int .i64 bt] zT):=qH (by rw[e3];exact U2.out.setX 3 _);clear e3 U2;go_wp2_with (refine wpList_store_fld rfl 3 _ _ rfl rfl w.heap.size 5 _ 48 (.int .i64 0) rfl rfl U3.out.x (Nat.le_of_ble_eq_true rfl) (by kernel_rfl) rfl ?_);intro v5 e5;have U5:Hid (TwoB w v5 #[.int .i64 k,.int .i64 0,.int .i64 0,.string ⟨#[]⟩,.string fn,.int .i64 0,.slice sa len cap,.string bs,.int .i64 bt] zT):=qH (by rw[e5];exact U3.out.setX 5 _)
     clear e5 U3;go_wp2_with (refine wpList_store_fld rfl 46 _ _ rfl rfl w.heap.size 6 _ 48 (.slice none 0 0) rfl rfl U5.out.x (Nat.le_of_ble_eq_true rfl) (by kernel_rfl) rfl ?_);intro v6 e6;have U6:Hid (TwoB w v6 #[.int .i64 k,.int .i64 0,.int .i64 0,.string ⟨#[]⟩,.string fn,.int .i64 0,.slice none 0 0,.string bs,.int .i64 bt] zT):=qH (by rw[e6];exact U5.out.setX 6 _);clear e6 U5;go_wp2_with (first
      | (refine wpList_load_blk rfl 48 _ rfl w.heap.size rfl _ 48 _ U6.out.x Tryz.underlying48 rfl info25 ?_)
      | (refine wpList_store_blk rfl 48 _ _ rfl rfl (w.heap.size+1) _ _ 48 rfl rfl U6.out.y rfl info25 (by simp[Value.oneCell']) ?_;intro w9 b9 o9))
     have V:=qH (U6.out.storeY b9 o9);clear b9 o9 U6;refine bodyPost_ret (results_two V.out.y Tryz.underlying48 rfl info25 rfl rfl) rfl ⟨rfl,V.out.b⟩
    | true=>
     go_wp2_with fail;refine(C3.out _).mono ?_;rintro e w4 ⟨rfl,b4⟩;clear c0 c1 c2 c3 c4 c5 c6 c7 c8 fz;have T4:=qH (T3.out.call b4);clear b4 T3;obtain⟨c0,c1,c2,c3,c4,c5,c6,c7,c8⟩:=T4.out.cells;have fz:=fun i=>T4.out.x.frozen i
     have hI:=HI.out;clear c0 c1 c2 c3 c4 c5 c7 c8 fz;go_wp2_with (refine wpList_store_fld rfl 2 _ _ rfl rfl w.heap.size 1 _ 48 (.int .i64 0) rfl rfl T4.out.x (Nat.le_of_ble_eq_true rfl) (by kernel_rfl) rfl ?_);intro v1 e1;have U1:Hid (TwoB w v1 #[.int .i64 k,.int .i64 0,.int .i64 g,.string nm,.string fn,.int .i64 ar,.slice sa len cap,.string bs,.int .i64 bt] zT):=qH (by rw[e1];exact T4.out.setX 1 _)
     clear e1 T4;clear c6;go_wp2_with (refine wpList_store_fld rfl 2 _ _ rfl rfl w.heap.size 2 _ 48 (.int .i64 0) rfl rfl U1.out.x (Nat.le_of_ble_eq_true rfl) (by kernel_rfl) rfl ?_);intro v2 e2;have U2:Hid (TwoB w v2 #[.int .i64 k,.int .i64 0,.int .i64 0,.string nm,.string fn,.int .i64 ar,.slice sa len cap,.string bs,.int .i64 bt] zT):=qH (by rw[e2];exact U1.out.setX 2 _);clear e2 U1;go_wp2_with (refine wpList_store_fld rfl 9 _ _ rfl rfl w.heap.size 3 _ 48 (.string ⟨#[]⟩) rfl rfl U2.out.x (Nat.le_of_ble_eq_true rfl) (by kernel_rfl) rfl ?_)
     intro v3 e3;have U3:Hid (TwoB w v3 #[.int .i64 k,.int .i64 0,.int .i64 0,.string ⟨#[]⟩,.string fn,.int .i64 ar,.slice sa len cap,.string bs,.int .i64 bt] zT):=qH (by rw[e3];exact U2.out.setX 3 _);clear e3 U2;go_wp2_with (refine wpList_store_fld rfl 3 _ _ rfl rfl w.heap.size 5 _ 48 (.int .i64 0) rfl rfl U3.out.x (Nat.le_of_ble_eq_true rfl) (by kernel_rfl) rfl ?_);intro v5 e5;have U5:Hid (TwoB w v5 #[.int .i64 k,.int .i64 0,.int .i64 0,.string ⟨#[]⟩,.string fn,.int .i64 0,.slice sa len cap,.string bs,.int .i64 bt] zT):=qH (by rw[e5];exact U3.out.setX 5 _)
     clear e5 U3;go_wp2_with (refine wpList_store_fld rfl 46 _ _ rfl rfl w.heap.size 6 _ 48 (.slice none 0 0) rfl rfl U5.out.x (Nat.le_of_ble_eq_true rfl) (by kernel_rfl) rfl ?_);intro v6 e6;have U6:Hid (TwoB w v6 #[.int .i64 k,.int .i64 0,.int .i64 0,.string ⟨#[]⟩,.string fn,.int .i64 0,.slice none 0 0,.string bs,.int .i64 bt] zT):=qH (by rw[e6];exact U5.out.setX 6 _);clear e6 U5;go_wp2_with (first
      | (refine wpList_load_blk rfl 48 _ rfl w.heap.size rfl _ 48 _ U6.out.x Tryz.underlying48 rfl info25 ?_)
      | (refine wpList_store_blk rfl 48 _ _ rfl rfl (w.heap.size+1) _ _ 48 rfl rfl U6.out.y rfl info25 (by simp[Value.oneCell']) ?_;intro w9 b9 o9))
     have V:=qH (U6.out.storeY b9 o9);clear b9 o9 U6;refine bodyPost_ret (results_two V.out.y Tryz.underlying48 rfl info25 rfl rfl) rfl ⟨rfl,V.out.b⟩
set_option maxHeartbeats 2000000 in
theorem kind5 (f:Fl) (sa:Option Addr) (len cap:Nat) (w:World) :
  Calls Tryz.prog 230 #[ftV ⟨f,.slice sa len cap⟩] w (KindR { f with nm:=noB,fn:=noB,ar:=0 } (.slice sa len cap) (nameF f.nm&&(nameF f.fn&&inB f.ar 0 16)) w):=by
 obtain⟨k,n,g,nm,fn,ar,bs,bt⟩:=f;dsimp only;have C0:=qH (fun W=>nameV_any nm W);have C1:=qH (fun W=>nameV_any fn W);have C2:=qH (fun W=>within_b ar 0 16 W);obtain⟨r0,hr0⟩:∃ r,r=nameF nm:=⟨_,rfl⟩;rw[←hr0] at C0 ⊢;clear hr0;obtain⟨r1,hr1⟩:∃ r,r=nameF fn:=⟨_,rfl⟩;rw[←hr1] at C1 ⊢;clear hr1;obtain⟨r2,hr2⟩:∃ r,r=inB ar 0 16:=⟨_,rfl⟩;rw[←hr2] at C2 ⊢;clear hr2;have T0:=qH (TwoB.start w #[.int .i64 k,.int .i64 n,.int .i64 g,.string nm,.string fn,.int .i64 ar,.slice sa len cap,.string bs,.int .i64 bt] zT)
 unfold ftV;cases r0 with
 | false=>
  go_enter Tryz.func230,Tryz.ntmps230;go_wp2_with fail;refine(C0.out _).mono ?_;rintro e w1 ⟨rfl,b1⟩;have T1:=qH (T0.out.call b1);clear b1 T0;obtain⟨c0,c1,c2,c3,c4,c5,c6,c7,c8⟩:=T1.out.cells;have fz:=fun i=>T1.out.x.frozen i
  clear c0 c1 c2 c3 c4 c5 c6 c7 c8 fz;go_wp2_with (refine wpList_store_fld rfl 9 _ _ rfl rfl w.heap.size 3 _ 48 (.string ⟨#[]⟩) rfl rfl T1.out.x (Nat.le_of_ble_eq_true rfl) (by kernel_rfl) rfl ?_);intro v3 e3;have U3:Hid (TwoB w v3 #[.int .i64 k,.int .i64 n,.int .i64 g,.string ⟨#[]⟩,.string fn,.int .i64 ar,.slice sa len cap,.string bs,.int .i64 bt] zT):=qH (by rw[e3];exact T1.out.setX 3 _);clear e3 T1
  go_wp2_with (refine wpList_store_fld rfl 9 _ _ rfl rfl w.heap.size 4 _ 48 (.string ⟨#[]⟩) rfl rfl U3.out.x (Nat.le_of_ble_eq_true rfl) (by kernel_rfl) rfl ?_);intro v4 e4;have U4:Hid (TwoB w v4 #[.int .i64 k,.int .i64 n,.int .i64 g,.string ⟨#[]⟩,.string ⟨#[]⟩,.int .i64 ar,.slice sa len cap,.string bs,.int .i64 bt] zT):=qH (by rw[e4];exact U3.out.setX 4 _);clear e4 U3;go_wp2_with (refine wpList_store_fld rfl 3 _ _ rfl rfl w.heap.size 5 _ 48 (.int .i64 0) rfl rfl U4.out.x (Nat.le_of_ble_eq_true rfl) (by kernel_rfl) rfl ?_)
  intro v5 e5;have U5:Hid (TwoB w v5 #[.int .i64 k,.int .i64 n,.int .i64 g,.string ⟨#[]⟩,.string ⟨#[]⟩,.int .i64 0,.slice sa len cap,.string bs,.int .i64 bt] zT):=qH (by rw[e5];exact U4.out.setX 5 _);clear e5 U4;go_wp2_with (first
   | (refine wpList_load_blk rfl 48 _ rfl w.heap.size rfl _ 48 _ U5.out.x Tryz.underlying48 rfl info25 ?_)
   | (refine wpList_store_blk rfl 48 _ _ rfl rfl (w.heap.size+1) _ _ 48 rfl rfl U5.out.y rfl info25 (by simp[Value.oneCell']) ?_;intro w9 b9 o9))
  have V:=qH (U5.out.storeY b9 o9);clear b9 o9 U5;refine bodyPost_ret (results_two V.out.y Tryz.underlying48 rfl info25 rfl rfl) rfl ⟨rfl,V.out.b⟩
 | true=>
  go_enter Tryz.func230,Tryz.ntmps230;go_wp2_with fail;refine(C0.out _).mono ?_;rintro e w1 ⟨rfl,b1⟩;have T1:=qH (T0.out.call b1);clear b1 T0;obtain⟨c0,c1,c2,c3,c4,c5,c6,c7,c8⟩:=T1.out.cells;have fz:=fun i=>T1.out.x.frozen i
  cases r1 with
  | false=>
   go_wp2_with fail;refine(C1.out _).mono ?_;rintro e w2 ⟨rfl,b2⟩;clear c0 c1 c2 c3 c4 c5 c6 c7 c8 fz;have T2:=qH (T1.out.call b2);clear b2 T1;obtain⟨c0,c1,c2,c3,c4,c5,c6,c7,c8⟩:=T2.out.cells;have fz:=fun i=>T2.out.x.frozen i
   clear c0 c1 c2 c3 c4 c5 c6 c7 c8 fz;go_wp2_with (refine wpList_store_fld rfl 9 _ _ rfl rfl w.heap.size 3 _ 48 (.string ⟨#[]⟩) rfl rfl T2.out.x (Nat.le_of_ble_eq_true rfl) (by kernel_rfl) rfl ?_);intro v3 e3;have U3:Hid (TwoB w v3 #[.int .i64 k,.int .i64 n,.int .i64 g,.string ⟨#[]⟩,.string fn,.int .i64 ar,.slice sa len cap,.string bs,.int .i64 bt] zT):=qH (by rw[e3];exact T2.out.setX 3 _);clear e3 T2
   go_wp2_with (refine wpList_store_fld rfl 9 _ _ rfl rfl w.heap.size 4 _ 48 (.string ⟨#[]⟩) rfl rfl U3.out.x (Nat.le_of_ble_eq_true rfl) (by kernel_rfl) rfl ?_);intro v4 e4;have U4:Hid (TwoB w v4 #[.int .i64 k,.int .i64 n,.int .i64 g,.string ⟨#[]⟩,.string ⟨#[]⟩,.int .i64 ar,.slice sa len cap,.string bs,.int .i64 bt] zT):=qH (by rw[e4];exact U3.out.setX 4 _);clear e4 U3;go_wp2_with (refine wpList_store_fld rfl 3 _ _ rfl rfl w.heap.size 5 _ 48 (.int .i64 0) rfl rfl U4.out.x (Nat.le_of_ble_eq_true rfl) (by kernel_rfl) rfl ?_)
   intro v5 e5;have U5:Hid (TwoB w v5 #[.int .i64 k,.int .i64 n,.int .i64 g,.string ⟨#[]⟩,.string ⟨#[]⟩,.int .i64 0,.slice sa len cap,.string bs,.int .i64 bt] zT):=qH (by rw[e5];exact U4.out.setX 5 _);clear e5 U4;go_wp2_with (first
    | (refine wpList_load_blk rfl 48 _ rfl w.heap.size rfl _ 48 _ U5.out.x Tryz.underlying48 rfl info25 ?_)
    | (refine wpList_store_blk rfl 48 _ _ rfl rfl (w.heap.size+1) _ _ 48 rfl rfl U5.out.y rfl info25 (by simp[Value.oneCell']) ?_;intro w9 b9 o9))
   have V:=qH (U5.out.storeY b9 o9);clear b9 o9 U5;refine bodyPost_ret (results_two V.out.y Tryz.underlying48 rfl info25 rfl rfl) rfl ⟨rfl,V.out.b⟩
  | true=>
   go_wp2_with fail;refine(C1.out _).mono ?_;rintro e w2 ⟨rfl,b2⟩;clear c0 c1 c2 c3 c4 c5 c6 c7 c8 fz;have T2:=qH (T1.out.call b2);clear b2 T1;obtain⟨c0,c1,c2,c3,c4,c5,c6,c7,c8⟩:=T2.out.cells;have fz:=fun i=>T2.out.x.frozen i
   go_wp2_with fail;refine(C2.out _).mono ?_;rintro e w3 ⟨rfl,b3⟩;clear c0 c1 c2 c3 c4 c5 c6 c7 c8 fz;have T3:=qH (T2.out.call b3);clear b3 T2;obtain⟨c0,c1,c2,c3,c4,c5,c6,c7,c8⟩:=T3.out.cells;have fz:=fun i=>T3.out.x.frozen i
   clear c0 c1 c2 c3 c4 c5 c6 c7 c8 fz;go_wp2_with (refine wpList_store_fld rfl 9 _ _ rfl rfl w.heap.size 3 _ 48 (.string ⟨#[]⟩) rfl rfl T3.out.x (Nat.le_of_ble_eq_true rfl) (by kernel_rfl) rfl ?_);intro v3 e3;have U3:Hid (TwoB w v3 #[.int .i64 k,.int .i64 n,.int .i64 g,.string ⟨#[]⟩,.string fn,.int .i64 ar,.slice sa len cap,.string bs,.int .i64 bt] zT):=qH (by rw[e3];exact T3.out.setX 3 _);clear e3 T3
   go_wp2_with (refine wpList_store_fld rfl 9 _ _ rfl rfl w.heap.size 4 _ 48 (.string ⟨#[]⟩) rfl rfl U3.out.x (Nat.le_of_ble_eq_true rfl) (by kernel_rfl) rfl ?_);intro v4 e4;have U4:Hid (TwoB w v4 #[.int .i64 k,.int .i64 n,.int .i64 g,.string ⟨#[]⟩,.string ⟨#[]⟩,.int .i64 ar,.slice sa len cap,.string bs,.int .i64 bt] zT):=qH (by rw[e4];exact U3.out.setX 4 _);clear e4 U3;go_wp2_with (refine wpList_store_fld rfl 3 _ _ rfl rfl w.heap.size 5 _ 48 (.int .i64 0) rfl rfl U4.out.x (Nat.le_of_ble_eq_true rfl) (by kernel_rfl) rfl ?_)
   intro v5 e5;have U5:Hid (TwoB w v5 #[.int .i64 k,.int .i64 n,.int .i64 g,.string ⟨#[]⟩,.string ⟨#[]⟩,.int .i64 0,.slice sa len cap,.string bs,.int .i64 bt] zT):=qH (by rw[e5];exact U4.out.setX 5 _);clear e5 U4;go_wp2_with (first
    | (refine wpList_load_blk rfl 48 _ rfl w.heap.size rfl _ 48 _ U5.out.x Tryz.underlying48 rfl info25 ?_)
    | (refine wpList_store_blk rfl 48 _ _ rfl rfl (w.heap.size+1) _ _ 48 rfl rfl U5.out.y rfl info25 (by simp[Value.oneCell']) ?_;intro w9 b9 o9))
   have V:=qH (U5.out.storeY b9 o9);clear b9 o9 U5;refine bodyPost_ret (results_two V.out.y Tryz.underlying48 rfl info25 rfl rfl) rfl ⟨rfl,V.out.b⟩
end Go.Proofs.YtoaimoemaoinhaaGreatDoor
