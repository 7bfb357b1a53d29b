/- PeersX: a part of the proof. No condition beyond the premises of each theorem. -/
import Derived.Test.YtoaimoemaoinhaaGreatDoorQp02
import Derived.IntWalk
import Derived.StillTailTactics
import Derived.Shelf.Abstract
import Derived.Deep.CutBlock
import Derived.Test.YtoaimoemaoinhaaGreatDoorQp00
set_option maxRecDepth 100000
namespace Go.Proofs.YtoaimoemaoinhaaGreatDoor
open Go.RowKit Go.Rt Go.Rw
theorem pad_iff (x j:Nat) (hj:j<8):x*2 ^ j % 256=0↔x % 2 ^ (8-j)=0:=by
 have e:256=2 ^ (8-j)*2 ^ j:=by rw[←Nat.pow_add,show 8-j+j=8 by omega]
 rw[e,Nat.mul_mod_mul_right]
 have:=Nat.two_pow_pos j
 rw[Nat.mul_eq_zero];omega
theorem TwoB.drewN {w W:World} {C R:Array Value} (h:TwoB w W C R) (n:Nat):TwoB w (W.drewN n) C R:=⟨h.x.drewN n,h.y.drewN n,⟨h.b.os,h.b.tape,h.b.output,h.b.size,h.b.block⟩⟩
set_option maxHeartbeats 2000000 in
theorem kind7 (f:Fl) (sa:Option Addr) (len cap:Nat) (w:World) :
  Calls Tryz.prog 231 #[ftV ⟨f,.slice sa len cap⟩] w (KindR f (.slice none 0 0) (decide (len≤255)) w):=by
 obtain⟨k,n,g,nm,fn,ar,bs,bt⟩:=f;obtain⟨rp,hrp⟩:∃ r,r=decide (len≤255):=⟨_,rfl⟩;rw[←hrp];have hI:decide ((len:Int)≤255)=rp:=by rw[hrp,decide_eq_decide];omega
 clear hrp;have T0:=qH (TwoB.start w #[.int .i64 k,.int .i64 n,.int .i64 g,.string nm,.string fn,.int .i64 ar,.slice sa len cap,.string bs,.int .i64 bt] zT);unfold ftV;go_enter Tryz.func231,Tryz.ntmps231;go_wp2_with (refine wpList_store_fld rfl 46 _ _ rfl rfl w.heap.size 6 _ 48 (.slice none 0 0) rfl rfl T0.out.x (Nat.le_of_ble_eq_true rfl) (by kernel_rfl) rfl ?_);intro v6 e6;have U6:Hid (TwoB w v6 #[.int .i64 k,.int .i64 n,.int .i64 g,.string nm,.string fn,.int .i64 ar,.slice none 0 0,.string bs,.int .i64 bt] zT):=qH (by rw[e6];exact T0.out.setX 6 _)
 clear e6 T0;go_wp2_with (first
  | (refine wpList_load_blk rfl 48 _ rfl w.heap.size rfl _ 48 _ U6.out.x Tryz.underlying48 rfl info25 ?_)
  | (refine wpList_store_blk rfl 48 _ _ rfl rfl (w.heap.size+1) _ _ 48 rfl rfl U6.out.y rfl info25 (by simp[Value.oneCell']) ?_;intro w9 b9 o9))
 have V:=qH (U6.out.storeY b9 o9);clear b9 o9 U6;refine bodyPost_ret (results_two V.out.y Tryz.underlying48 rfl info25 rfl rfl) rfl ⟨rfl,V.out.b⟩
set_option maxHeartbeats 2000000 in
theorem kind8 (f:Fl) (sa:Option Addr) (len cap:Nat) (w:World) :
  Calls Tryz.prog 232 #[ftV ⟨f,.slice sa len cap⟩] w (KindR f (.slice sa len cap) true w):=by
 obtain⟨k,n,g,nm,fn,ar,bs,bt⟩:=f;have T0:=qH (TwoB.start w #[.int .i64 k,.int .i64 n,.int .i64 g,.string nm,.string fn,.int .i64 ar,.slice sa len cap,.string bs,.int .i64 bt] zT);unfold ftV;go_enter Tryz.func232,Tryz.ntmps232;go_wp2_with (first
  | (refine wpList_load_blk rfl 48 _ rfl w.heap.size rfl _ 48 _ T0.out.x Tryz.underlying48 rfl info25 ?_)
  | (refine wpList_store_blk rfl 48 _ _ rfl rfl (w.heap.size+1) _ _ 48 rfl rfl T0.out.y rfl info25 (by simp[Value.oneCell']) ?_;intro w9 b9 o9))
 have V:=qH (T0.out.storeY b9 o9);clear b9 o9 T0;refine bodyPost_ret (results_two V.out.y Tryz.underlying48 rfl info25 rfl rfl) rfl ⟨rfl,V.out.b⟩
def lastB (l:List Tm):Bool:=match l.getLast? with|some t=>decide (t.f.k≠9)|none=>false
set_option maxHeartbeats 2000000 in
theorem kind9 (S:Nat→Prop) (f:Fl) (l:List Tm) (sa:Option Addr) (cap:Nat) (w:World) (hl:ItsAt S w l (.slice sa l.length cap)) :
  Calls Tryz.prog 233 #[ftV ⟨f,.slice sa l.length cap⟩] w (KindR f (.slice none 0 0) (decide (2≤l.length)&&lastB l) w):=by
 have hm:=hl.form.1;obtain⟨k,n,g,nm,fn,ar,bs,bt⟩:=f
 by_cases h2:2≤l.length
 ·
  obtain⟨b,o,rfl,hb,_,hc⟩:=hl.get (by omega);obtain⟨x,hx,hcx⟩:=hc (l.length-1) (by omega);have hk:=hcx 0 (by omega);have hlast:lastB l=decide (x.f.k≠9):=by
   unfold lastB;rw[List.getLast?_eq_getElem?,List.getElem?_eq_getElem (by omega)];simp only[hx.its.1]
  have e1:decide (2≤l.length)=true:=by simpa using h2
  rw[e1,hlast];obtain⟨kk,hkk⟩:∃ kk,kk=x.f.k:=⟨_,rfl⟩;simp only[Nat.add_zero,ftC,List.getElem?_cons_zero] at hk;rw[←hkk] at hk ⊢;obtain⟨rp,hrp⟩:∃ r,r=decide (kk≠9):=⟨_,rfl⟩;rw[←hrp];have hI:(kk != 9)=rp:=by rw[hrp];by_cases q:kk=9<;>simp[q]
  obtain⟨q,hq⟩:∃ q,q=l.length:=⟨_,rfl⟩;rw[←hq] at hk h2 hm ⊢;have hk2:∀ o1 o2,((w.alloc o1).alloc o2).cell? ⟨b,o+(q-1)*9,none⟩=some (.int .i64 kk):=fun o1 o2=>by
   rw[World.cell?_alloc_past _ _ _ (by simp;omega),World.cell?_alloc_past _ _ _ hb];exact hk
  have e2:IntKind.i64.wrap ((q:Int)-1)=((q-1:Nat):Int):=by rw[IntWalk.i64_in _ (by omega)];omega
  have d1:1<q:=by omega
  clear hl hc hcx hkk hx hlast e1 hrp hq hk h2;have T0:=qH (TwoB.start w #[.int .i64 k,.int .i64 n,.int .i64 g,.string nm,.string fn,.int .i64 ar,.slice (some ⟨b,o,none⟩) q cap,.string bs,.int .i64 bt] zT);unfold ftV;go_enter Tryz.func233,Tryz.ntmps233;go_wp2_with (refine wpList_store_fld rfl 46 _ _ rfl rfl w.heap.size 6 _ 48 (.slice none 0 0) rfl rfl T0.out.x (Nat.le_of_ble_eq_true rfl) (by kernel_rfl) rfl ?_)
  intro v6 e6;have U6:Hid (TwoB w v6 #[.int .i64 k,.int .i64 n,.int .i64 g,.string nm,.string fn,.int .i64 ar,.slice none 0 0,.string bs,.int .i64 bt] zT):=qH (by rw[e6];exact T0.out.setX 6 _);clear e6 T0;go_wp2_with (first
   | (refine wpList_load_blk rfl 48 _ rfl w.heap.size rfl _ 48 _ U6.out.x Tryz.underlying48 rfl info25 ?_)
   | (refine wpList_store_blk rfl 48 _ _ rfl rfl (w.heap.size+1) _ _ 48 rfl rfl U6.out.y rfl info25 (by simp[Value.oneCell']) ?_;intro w9 b9 o9))
  have V:=qH (U6.out.storeY b9 o9);clear b9 o9 U6;refine bodyPost_ret (results_two V.out.y Tryz.underlying48 rfl info25 rfl rfl) rfl ⟨rfl,V.out.b⟩
 ·
  have e1:decide (2≤l.length)=false:=by simpa using h2
  rw[e1,Bool.false_and];obtain⟨q,hq⟩:∃ q,q=l.length:=⟨_,rfl⟩;rw[←hq] at h2 ⊢;have d1:(q:Int)<2:=by omega
  clear hl hm e1 hq h2;have T0:=qH (TwoB.start w #[.int .i64 k,.int .i64 n,.int .i64 g,.string nm,.string fn,.int .i64 ar,.slice sa q cap,.string bs,.int .i64 bt] zT);unfold ftV;go_enter Tryz.func233,Tryz.ntmps233;go_wp2_with fail;refine bodyPost_ret (v:=.tuple #[.agg #[.int .i64 k,.int .i64 n,.int .i64 g,.string nm,.string fn,.int .i64 ar,.slice none 0 0,.string bs,.int .i64 bt],.bool false]) (by simp[results,Tryz.results233,go_sem]) rfl ⟨rfl,((Below.refl _ _).alloc (Nat.le_refl _) _).alloc (by simp) _⟩
set_option maxHeartbeats 2000000 in
theorem kind10 (f:Fl) (sa:Option Addr) (len cap:Nat) (w:World) (hz:f.bs.size≤maxLen) :
  Calls Tryz.prog 234 #[ftV ⟨f,.slice sa len cap⟩] w (KindR { f with bs:=noB,bt:=0 } (.slice sa len cap) (bitsB f.bs f.bt) w):=by
 obtain⟨k,n,g,nm,fn,ar,bs,bt⟩:=f;dsimp only at hz ⊢;unfold maxLen at hz;unfold bitsB;have C0:=qH (fun W=>within_b bt 0 16384 W);cases h0:inB bt 0 16384 with
 | false=>
  rw[h0] at C0;rw[Bool.false_and];clear h0;have T0:=qH (TwoB.start w #[.int .i64 k,.int .i64 n,.int .i64 g,.string nm,.string fn,.int .i64 ar,.slice sa len cap,.string bs,.int .i64 bt] zT);unfold ftV;go_enter Tryz.func234,Tryz.ntmps234;go_wp2_with fail;refine(C0.out _).mono ?_;rintro e w1 ⟨rfl,b1⟩;have T1:=qH (T0.out.call b1);clear b1 T0;go_wp2_with (refine wpList_store_fld rfl 9 _ _ rfl rfl w.heap.size 7 _ 48 (.string ⟨#[]⟩) rfl rfl T1.out.x (Nat.le_of_ble_eq_true rfl) (by kernel_rfl) rfl ?_)
  intro v7 e7;have U7:Hid (TwoB w v7 #[.int .i64 k,.int .i64 n,.int .i64 g,.string nm,.string fn,.int .i64 ar,.slice sa len cap,.string ⟨#[]⟩,.int .i64 bt] zT):=qH (by rw[e7];exact T1.out.setX 7 _);clear e7 T1;go_wp2_with (refine wpList_store_fld rfl 3 _ _ rfl rfl w.heap.size 8 _ 48 (.int .i64 0) rfl rfl U7.out.x (Nat.le_of_ble_eq_true rfl) (by kernel_rfl) rfl ?_);intro v8 e8;have U8:Hid (TwoB w v8 #[.int .i64 k,.int .i64 n,.int .i64 g,.string nm,.string fn,.int .i64 ar,.slice sa len cap,.string ⟨#[]⟩,.int .i64 0] zT):=qH (by rw[e8];exact U7.out.setX 8 _)
  clear e8 U7;go_wp2_with (first
   | (refine wpList_load_blk rfl 48 _ rfl w.heap.size rfl _ 48 _ U8.out.x Tryz.underlying48 rfl info25 ?_)
   | (refine wpList_store_blk rfl 48 _ _ rfl rfl (w.heap.size+1) _ _ 48 rfl rfl U8.out.y rfl info25 (by simp[Value.oneCell']) ?_;intro w9 b9 o9))
  have V:=qH (U8.out.storeY b9 o9);clear b9 o9 U8;refine bodyPost_ret (results_two V.out.y Tryz.underlying48 rfl info25 rfl rfl) rfl ⟨rfl,V.out.b⟩
 | true=>
  rw[h0] at C0;rw[Bool.true_and];obtain⟨m,rfl⟩:∃ m:Nat,bt=m:=Int.eq_ofNat_of_zero_le (by unfold inB at h0;simp only[Bool.and_eq_true,decide_eq_true_eq] at h0;omega);have hm:m≤16384:=by unfold inB at h0;simp only[Bool.and_eq_true,decide_eq_true_eq] at h0;omega
  clear h0;have e1:decide ((bs.size:Int)=((m:Int)+7) / 8)=decide (bs.size=(m+7) / 8):=by rw[decide_eq_decide];omega
  rw[e1];clear e1
  by_cases h1:bs.size=(m+7) / 8
  ·
   have e1:decide (bs.size=(m+7) / 8)=true:=by simpa using h1
   rw[e1,Bool.true_and];have hI:((m:Int)+7) / 8=(bs.size:Int):=by omega
   clear e1
   by_cases h2:m % 8=0
   ·
    have e2:decide ((m:Int) % 8=0)=true:=by simpa using (by omega:(m:Int) % 8=0)
    rw[e2,Bool.true_or];have hJ:((m:Int) % 8 != 0)=false:=by simpa using (by omega:(m:Int) % 8=0)
    clear e2 h2 h1;have T0:=qH (TwoB.start w #[.int .i64 k,.int .i64 n,.int .i64 g,.string nm,.string fn,.int .i64 ar,.slice sa len cap,.string bs,.int .i64 (m:Int)] zT);unfold ftV;go_enter Tryz.func234,Tryz.ntmps234;go_wp2_with fail;refine(C0.out _).mono ?_;rintro e w1 ⟨rfl,b1⟩;have T1:=qH (T0.out.call b1);clear b1 T0;have c7:w1.cell? ⟨w.heap.size,7,none⟩=some (.string bs):=T1.out.x.cell 7;have c8:w1.cell? ⟨w.heap.size,8,none⟩=some (.int .i64 (m:Int)):=T1.out.x.cell 8
    go_wp2_with (refine wpList_store_fld rfl 9 _ _ rfl rfl w.heap.size 7 _ 48 (.string ⟨#[]⟩) rfl rfl T1.out.x (Nat.le_of_ble_eq_true rfl) (by kernel_rfl) rfl ?_);intro v7 e7;have U7:Hid (TwoB w v7 #[.int .i64 k,.int .i64 n,.int .i64 g,.string nm,.string fn,.int .i64 ar,.slice sa len cap,.string ⟨#[]⟩,.int .i64 (m:Int)] zT):=qH (by rw[e7];exact T1.out.setX 7 _);clear e7 T1 c7 c8;go_wp2_with (refine wpList_store_fld rfl 3 _ _ rfl rfl w.heap.size 8 _ 48 (.int .i64 0) rfl rfl U7.out.x (Nat.le_of_ble_eq_true rfl) (by kernel_rfl) rfl ?_)
    intro v8 e8;have U8:Hid (TwoB w v8 #[.int .i64 k,.int .i64 n,.int .i64 g,.string nm,.string fn,.int .i64 ar,.slice sa len cap,.string ⟨#[]⟩,.int .i64 0] zT):=qH (by rw[e8];exact U7.out.setX 8 _);clear e8 U7;go_wp2_with (first
     | (refine wpList_load_blk rfl 48 _ rfl w.heap.size rfl _ 48 _ U8.out.x Tryz.underlying48 rfl info25 ?_)
     | (refine wpList_store_blk rfl 48 _ _ rfl rfl (w.heap.size+1) _ _ 48 rfl rfl U8.out.y rfl info25 (by simp[Value.oneCell']) ?_;intro w9 b9 o9))
    have V:=qH (U8.out.storeY b9 o9);clear b9 o9 U8;refine bodyPost_ret (results_two V.out.y Tryz.underlying48 rfl info25 rfl rfl) rfl ⟨rfl,V.out.b⟩
   ·
    have e2:decide ((m:Int) % 8=0)=false:=by simpa using (by omega:¬(m:Int) % 8=0)
    rw[e2,Bool.false_or];clear e2;have h3:0<bs.size:=by omega
    obtain⟨rp,hrp⟩:∃ r,r=padB bs m:=⟨_,rfl⟩;rw[←hrp];obtain⟨j,hj,hj8⟩:∃ j:Nat,(m:Int) % 8=(j:Int)∧j<8:=⟨m % 8,by omega,by omega⟩;have hj0:j≠0:=by omega
    have hJ:((j:Int) != 0)=true:=by simpa using hj0
    have hx:∀ W,(Instr.index 9 (.string bs) (.int .i64 ((bs.size-1:Nat):Int))).run Tryz.prog W = .ok (.int .u8 (atB bs (bs.size-1):Int)) W:=fun W=>by
     rw[run_index_string W 9 bs .i64 _ Tryz.underlying9,dif_pos (by omega),atB_get bs (bs.size-1) (by omega)];rfl
    have hxl:atB bs (bs.size-1)<256:=by unfold atB;exact UInt8.toNat_lt _
    obtain⟨x,hxe⟩:∃ x,x=atB bs (bs.size-1):=⟨_,rfl⟩;rw[←hxe] at hx hxl;have hw:IntKind.u8.wrap ((x:Int)*2 ^ j)=((x*2 ^ j % 256:Nat):Int):=by
     rw[IntKind.wrap_u8]
     push_cast
     rfl
    have hy:(((x*2 ^ j % 256:Nat):Int)==0)=rp:=by
     rw[hrp];unfold padB;rw[hj,←hxe];have e8:(8-(j:Int)).toNat=8-j:=by omega
     rw[e8]
     have:=pad_iff x j hj8
     by_cases q:x*2 ^ j % 256=0
     ·
      rw[q,decide_eq_true (this.1 q)];rfl
     ·
      rw[decide_eq_false (fun h=>q (this.2 h))];rw[beq_eq_false_iff_ne];intro h;exact q (Int.ofNat.inj h)
    obtain⟨y,hyy⟩:∃ y,y=x*2 ^ j % 256:=⟨_,rfl⟩;rw[←hyy] at hw hy;have e3:IntKind.i64.wrap ((bs.size:Int)-1)=((bs.size-1:Nat):Int):=by rw[IntWalk.i64_in _ (by omega)];omega
    have b1:(0:Int)≤j:=by omega
    have b2:(j:Int)≤8:=by omega
    clear hrp hxe hyy h1 h2;have T0:=qH (TwoB.start w #[.int .i64 k,.int .i64 n,.int .i64 g,.string nm,.string fn,.int .i64 ar,.slice sa len cap,.string bs,.int .i64 (m:Int)] zT);unfold ftV;go_enter Tryz.func234,Tryz.ntmps234;go_wp2_with fail;refine(C0.out _).mono ?_;rintro e w1 ⟨rfl,b1⟩;have T1:=qH (T0.out.call b1);clear b1 T0;have c7:w1.cell? ⟨w.heap.size,7,none⟩=some (.string bs):=T1.out.x.cell 7
    have c8:w1.cell? ⟨w.heap.size,8,none⟩=some (.int .i64 (m:Int)):=T1.out.x.cell 8;go_wp2_with fail;go_quiet (fail);obtain⟨w2,hw2⟩:∃ w2,w2=w1.drewN nq:=⟨_,rfl⟩;have T2:Hid (TwoB w w2 #[.int .i64 k,.int .i64 n,.int .i64 g,.string nm,.string fn,.int .i64 ar,.slice sa len cap,.string bs,.int .i64 (m:Int)] zT):=qH (by rw[hw2];exact T1.out.drewN nq);rw[←hw2];clear hw2 T1 c7 c8 hI hJ hx hy hw e3 hj;go_wp2_with (refine wpList_store_fld rfl 9 _ _ rfl rfl w.heap.size 7 _ 48 (.string ⟨#[]⟩) rfl rfl T2.out.x (Nat.le_of_ble_eq_true rfl) (by kernel_rfl) rfl ?_)
    intro v7 e7;have U7:Hid (TwoB w v7 #[.int .i64 k,.int .i64 n,.int .i64 g,.string nm,.string fn,.int .i64 ar,.slice sa len cap,.string ⟨#[]⟩,.int .i64 (m:Int)] zT):=qH (by rw[e7];exact T2.out.setX 7 _);clear e7 T2;go_wp2_with (refine wpList_store_fld rfl 3 _ _ rfl rfl w.heap.size 8 _ 48 (.int .i64 0) rfl rfl U7.out.x (Nat.le_of_ble_eq_true rfl) (by kernel_rfl) rfl ?_);intro v8 e8;have U8:Hid (TwoB w v8 #[.int .i64 k,.int .i64 n,.int .i64 g,.string nm,.string fn,.int .i64 ar,.slice sa len cap,.string ⟨#[]⟩,.int .i64 0] zT):=qH (by rw[e8];exact U7.out.setX 8 _)
    clear e8 U7;go_wp2_with (first
     | (refine wpList_load_blk rfl 48 _ rfl w.heap.size rfl _ 48 _ U8.out.x Tryz.underlying48 rfl info25 ?_)
     | (refine wpList_store_blk rfl 48 _ _ rfl rfl (w.heap.size+1) _ _ 48 rfl rfl U8.out.y rfl info25 (by simp[Value.oneCell']) ?_;intro w9 b9 o9))
    have V:=qH (U8.out.storeY b9 o9);clear b9 o9 U8;refine bodyPost_ret (results_two V.out.y Tryz.underlying48 rfl info25 rfl rfl) rfl ⟨rfl,V.out.b⟩
  ·
   have e1:decide (bs.size=(m+7) / 8)=false:=by simpa using h1
   rw[e1,Bool.false_and];have hI:((bs.size:Int)==((m:Int)+7) / 8)=false:=by rw[beq_eq_false_iff_ne];omega
   clear e1 h1;have T0:=qH (TwoB.start w #[.int .i64 k,.int .i64 n,.int .i64 g,.string nm,.string fn,.int .i64 ar,.slice sa len cap,.string bs,.int .i64 (m:Int)] zT);unfold ftV;go_enter Tryz.func234,Tryz.ntmps234;go_wp2_with fail;refine(C0.out _).mono ?_;rintro e w1 ⟨rfl,b1⟩;have T1:=qH (T0.out.call b1);clear b1 T0;have c7:w1.cell? ⟨w.heap.size,7,none⟩=some (.string bs):=T1.out.x.cell 7;have c8:w1.cell? ⟨w.heap.size,8,none⟩=some (.int .i64 (m:Int)):=T1.out.x.cell 8
   go_wp2_with (refine wpList_store_fld rfl 9 _ _ rfl rfl w.heap.size 7 _ 48 (.string ⟨#[]⟩) rfl rfl T1.out.x (Nat.le_of_ble_eq_true rfl) (by kernel_rfl) rfl ?_);intro v7 e7;have U7:Hid (TwoB w v7 #[.int .i64 k,.int .i64 n,.int .i64 g,.string nm,.string fn,.int .i64 ar,.slice sa len cap,.string ⟨#[]⟩,.int .i64 (m:Int)] zT):=qH (by rw[e7];exact T1.out.setX 7 _);clear e7 T1 c7 c8;go_wp2_with (refine wpList_store_fld rfl 3 _ _ rfl rfl w.heap.size 8 _ 48 (.int .i64 0) rfl rfl U7.out.x (Nat.le_of_ble_eq_true rfl) (by kernel_rfl) rfl ?_)
   intro v8 e8;have U8:Hid (TwoB w v8 #[.int .i64 k,.int .i64 n,.int .i64 g,.string nm,.string fn,.int .i64 ar,.slice sa len cap,.string ⟨#[]⟩,.int .i64 0] zT):=qH (by rw[e8];exact U7.out.setX 8 _);clear e8 U7;go_wp2_with (first
    | (refine wpList_load_blk rfl 48 _ rfl w.heap.size rfl _ 48 _ U8.out.x Tryz.underlying48 rfl info25 ?_)
    | (refine wpList_store_blk rfl 48 _ _ rfl rfl (w.heap.size+1) _ _ 48 rfl rfl U8.out.y rfl info25 (by simp[Value.oneCell']) ?_;intro w9 b9 o9))
   have V:=qH (U8.out.storeY b9 o9);clear b9 o9 U8;refine bodyPost_ret (results_two V.out.y Tryz.underlying48 rfl info25 rfl rfl) rfl ⟨rfl,V.out.b⟩
def sameF (f g:Fl):Bool:=decide (f.k=g.k)&&(decide (f.n=g.n)&&(decide (f.g=g.g)&&(decide (f.nm=g.nm)&&(decide (f.fn=g.fn)&&(decide (f.ar=g.ar)&&(decide (f.bs=g.bs)&&decide (f.bt=g.bt)))))))
mutual
def eqT : Tm→Tm→Bool
 | .mk f l,.mk g m=>sameF f g&&eqL l m
def eqL : List Tm→List Tm→Bool
 | [],[]=>true
 | t::r,u::s=>eqT t u&&eqL r s
 | _,_=>false
end
theorem bytes_ext {a b:ByteArray} (h:a.toList=b.toList):a=b:=by
 rw[ByteArray.toList_eq,ByteArray.toList_eq] at h;exact ByteArray.ext (Array.toList_inj.1 h)
theorem sameF_iff (f g:Fl):sameF f g=true↔f=g:=by
 obtain⟨k,n,g1,nm,fn,ar,bs,bt⟩:=f;obtain⟨k2,n2,g2,nm2,fn2,ar2,bs2,bt2⟩:=g;unfold sameF;simp only[Bool.and_eq_true,decide_eq_true_eq,Fl.mk.injEq]
mutual
theorem eqT_iff : ∀ t u,eqT t u=true↔t=u
 | .mk f l,.mk g m=>by
  rw[eqT,Bool.and_eq_true,sameF_iff,eqL_iff l m,Tm.mk.injEq]
theorem eqL_iff : ∀ l m,eqL l m=true↔l=m
 | [],[]=>by simp[eqL]
 | [],u::s=>by simp[eqL]
 | t::r,[]=>by simp[eqL]
 | t::r,u::s=>by rw[eqL,Bool.and_eq_true,eqT_iff t u,eqL_iff r s,List.cons.injEq]
end
theorem eqL_len {l m:List Tm} (h:eqL l m=true):l.length=m.length:=by rw[(eqL_iff l m).1 h]
theorem eqL_get {l m:List Tm} (hlen:l.length=m.length) (k:Nat) (h1:k<l.length) (h2:k<m.length) (h:eqT l[k] m[k]=false):eqL l m=false:=by
 cases hh:eqL l m with
 | false=>rfl
 | true=>
  have:=(eqL_iff l m).1 hh
  subst this;rw[(eqT_iff _ _).2 rfl] at h;cases h
theorem eqL_all {l m:List Tm} (hlen:l.length=m.length) (h:∀ k (h1:k<l.length) (h2:k<m.length),eqT l[k] m[k]=true):eqL l m=true:=by
 rw[eqL_iff];exact List.ext_getElem hlen (fun k h1 h2=>(eqT_iff _ _).1 (h k h1 h2))
theorem cells9 {W:World} {b p:Nat} {x:Ft} (h:∀ j,j<9→W.cell? ⟨b,p+j,none⟩=(ftC x)[j]?) :
  W.cell? ⟨b,p,none⟩=some (.int .i64 x.f.k)∧W.cell? ⟨b,p+1,none⟩=some (.int .i64 x.f.n)∧W.cell? ⟨b,p+2,none⟩=some (.int .i64 x.f.g)∧W.cell? ⟨b,p+3,none⟩=some (.string x.f.nm)∧W.cell? ⟨b,p+4,none⟩=some (.string x.f.fn) ∧
   W.cell? ⟨b,p+5,none⟩=some (.int .i64 x.f.ar)∧W.cell? ⟨b,p+6,none⟩=some x.v∧W.cell? ⟨b,p+7,none⟩=some (.string x.f.bs)∧W.cell? ⟨b,p+8,none⟩=some (.int .i64 x.f.bt):=
 ⟨h 0 (by omega),h 1 (by omega),h 2 (by omega),h 3 (by omega),h 4 (by omega),h 5 (by omega),h 6 (by omega),h 7 (by omega),h 8 (by omega)⟩
theorem TmAt.drew {S:Nat→Prop} {w:World} {t:Tm} {x:Ft} (h:TmAt S w t x):TmAt S w.drew t x:=TmAt.map (S:=S) (S':=S) (w:=w) (w':=w.drew) (Nat.le_refl _) (fun _ _ _=>rfl) (fun _ hs _=>hs) h
theorem ItsAt.drew {S:Nat→Prop} {w:World} {l:List Tm} {v:Value} (h:ItsAt S w l v):ItsAt S w.drew l v:=ItsAt.map (S:=S) (S':=S) (w:=w) (w':=w.drew) (Nat.le_refl _) (fun _ _ _=>rfl) (fun _ hs _=>hs) h
set_option maxHeartbeats 2000000 in
theorem same_flat (f f2:Fl) (sa sa2:Option Addr) (len cap len2 cap2:Nat) (w:World) (rl:Bool)
  (CL:Hid (∀ W,Below w.heap.size w W→Calls Tryz.prog 125 #[.slice sa len cap,.slice sa2 len2 cap2] W fun e w'=>e = .returned (.bool rl)∧Below W.heap.size W w')) :
  Calls Tryz.prog 65 #[ftV ⟨f,.slice sa len cap⟩,ftV ⟨f2,.slice sa2 len2 cap2⟩] w fun e w'=>e = .returned (.bool (sameF f f2&&rl))∧Below w.heap.size w w':=by
 obtain⟨k,n,g,nm,fn,ar,bs,bt⟩:=f;obtain⟨k2,n2,g2,nm2,fn2,ar2,bs2,bt2⟩:=f2;obtain⟨r,hr⟩:∃ r,r=(sameF ⟨k,n,g,nm,fn,ar,bs,bt⟩ ⟨k2,n2,g2,nm2,fn2,ar2,bs2,bt2⟩&&rl):=⟨_,rfl⟩;rw[←hr];unfold ftV
 by_cases q0:k=k2
 ·
  subst q0
  by_cases q1:n=n2
  ·
   subst q1
   by_cases q2:g=g2
   ·
    subst q2
    by_cases q3:nm=nm2
    ·
     subst q3
     by_cases q4:fn=fn2
     ·
      subst q4
      by_cases q5:ar=ar2
      ·
       subst q5
       by_cases q6:bs=bs2
       ·
        subst q6
        by_cases q7:bt=bt2
        ·
         subst q7;obtain rfl:r=rl:=by rw[hr];unfold sameF;simp
         clear hr;go_enter Tryz.func65,Tryz.ntmps65;go_wp2_with fail;refine(CL.out _ (((Below.refl _ _).alloc (Nat.le_refl _) _).alloc (by simp) _)).mono ?_;rintro e w1 ⟨rfl,b1⟩;have B1:=qH ((((Below.refl w.heap.size w).alloc (Nat.le_refl _) _).alloc (by simp) _).trans (b1.mono (by simp;omega)));clear b1;go_wp2_with fail;go_ret;exact⟨rfl,B1.out⟩
        ·
         have d7:(bt==bt2)=false:=by simpa using q7
         obtain rfl:r=false:=by rw[hr];unfold sameF;simp[q7]
         clear hr CL q7;go_enter Tryz.func65,Tryz.ntmps65;go_wp2_with fail;go_ret;exact⟨rfl,((Below.refl _ _).alloc (Nat.le_refl _) _).alloc (by simp) _⟩
       ·
        have d6:(bs.toList==bs2.toList)=false:=by rw[beq_eq_false_iff_ne];exact fun h=>q6 (bytes_ext h)
        obtain rfl:r=false:=by rw[hr];unfold sameF;simp[q6]
        clear hr CL q6;go_enter Tryz.func65,Tryz.ntmps65;go_wp2_with fail;go_ret;exact⟨rfl,((Below.refl _ _).alloc (Nat.le_refl _) _).alloc (by simp) _⟩
      ·
       have d5:(ar==ar2)=false:=by simpa using q5
       obtain rfl:r=false:=by rw[hr];unfold sameF;simp[q5]
       clear hr CL q5;go_enter Tryz.func65,Tryz.ntmps65;go_wp2_with fail;go_ret;exact⟨rfl,((Below.refl _ _).alloc (Nat.le_refl _) _).alloc (by simp) _⟩
     ·
      have d4:(fn.toList==fn2.toList)=false:=by rw[beq_eq_false_iff_ne];exact fun h=>q4 (bytes_ext h)
      obtain rfl:r=false:=by rw[hr];unfold sameF;simp[q4]
      clear hr CL q4;go_enter Tryz.func65,Tryz.ntmps65;go_wp2_with fail;go_ret;exact⟨rfl,((Below.refl _ _).alloc (Nat.le_refl _) _).alloc (by simp) _⟩
    ·
     have d3:(nm.toList==nm2.toList)=false:=by rw[beq_eq_false_iff_ne];exact fun h=>q3 (bytes_ext h)
     obtain rfl:r=false:=by rw[hr];unfold sameF;simp[q3]
     clear hr CL q3;go_enter Tryz.func65,Tryz.ntmps65;go_wp2_with fail;go_ret;exact⟨rfl,((Below.refl _ _).alloc (Nat.le_refl _) _).alloc (by simp) _⟩
   ·
    have d2:(g==g2)=false:=by simpa using q2
    obtain rfl:r=false:=by rw[hr];unfold sameF;simp[q2]
    clear hr CL q2;go_enter Tryz.func65,Tryz.ntmps65;go_wp2_with fail;go_ret;exact⟨rfl,((Below.refl _ _).alloc (Nat.le_refl _) _).alloc (by simp) _⟩
  ·
   have d1:(n==n2)=false:=by simpa using q1
   obtain rfl:r=false:=by rw[hr];unfold sameF;simp[q1]
   clear hr CL q1;go_enter Tryz.func65,Tryz.ntmps65;go_wp2_with fail;go_ret;exact⟨rfl,((Below.refl _ _).alloc (Nat.le_refl _) _).alloc (by simp) _⟩
 ·
  have d0:(k==k2)=false:=by simpa using q0
  obtain rfl:r=false:=by rw[hr];unfold sameF;simp[q0]
  clear hr CL q0;go_enter Tryz.func65,Tryz.ntmps65;go_wp2_with fail;go_ret;exact⟨rfl,((Below.refl _ _).alloc (Nat.le_refl _) _).alloc (by simp) _⟩
set_option maxHeartbeats 2000000 in
theorem samel_any (S S2:Nat→Prop) (l m:List Tm) (v v2:Value) (w:World) (h1:ItsAt S w l v) (h2:ItsAt S2 w m v2)
  (ih:∀ t∈l,∀ (u:Tm) (x y:Ft) (W:World),TmAt S W t x→TmAt S2 W u y→Calls Tryz.prog 65 #[ftV x,ftV y] W fun e w'=>e = .returned (.bool (eqT t u))∧Below W.heap.size W w') :
  Calls Tryz.prog 125 #[v,v2] w fun e w'=>e = .returned (.bool (eqL l m))∧Below w.heap.size w w':=by
 obtain⟨hm1,sa,cap,rfl⟩:=h1.form;obtain⟨hm2,sa2,cap2,rfl⟩:=h2.form;obtain⟨r,hr⟩:∃ r,r=eqL l m:=⟨_,rfl⟩;rw[←hr]
 by_cases hlen:l.length=m.length
 ·
  have RN:Hid (∀ k (a:k<l.length) (b:k<m.length),eqT l[k] m[k]=false→r=false):=qH (fun k a b h=>by rw[hr];exact eqL_get hlen k a b h);have RY:Hid ((∀ k (a:k<l.length) (b:k<m.length),eqT l[k] m[k]=true)→r=true):=qH (fun h=>by rw[hr];exact eqL_all hlen h);have IH:=qH ih;have H1:=qH h1;have H2:=qH h2;have HL:=qH hlen;clear hr ih h1 h2;rw[←hlen] at H2 ⊢ hm2;clear hlen;go_enter Tryz.func125,Tryz.ntmps125
  go_wp2_with fail;go_loopw [5] (fun i wr=>∃ k:Nat,k≤l.length∧i = .int .i64 k∧Below w.heap.size w wr∧Hid (∀ j,j<k→∀ (a:j<l.length) (b:j<m.length),eqT l[j] m[j]=true)) (fun i _=>l.length-(intOf i).toNat)
  case atStart=>exact⟨0,Nat.zero_le _,rfl,Below.refl _ _,qH (fun j hj=>by omega)⟩
  case round=>
   obtain⟨k,hk,rfl,bw,hall⟩:=hrel;have BW:=qH bw
   by_cases hlt:k<l.length
   ·
    obtain⟨b,o,rfl,hb,_,hc⟩:=H1.out.get (by omega);obtain⟨b2,o2,rfl,hb2,_,hc2⟩:=H2.out.get (by have:=HL.out;omega);obtain⟨x,hx,hcx⟩:=hc k hlt;obtain⟨y,hy,hcy⟩:=hc2 k (by have:=HL.out;omega);have A1:=qH (hx.below bw (fun b _ h=>h)).drew;have A2:=qH (hy.below bw (fun b _ h=>h)).drew;have BD:=qH bw.drew;obtain⟨p0,p1,p2,p3,p4,p5,p6,p7,p8⟩:=cells9 (W:=wr) (b:=b) (p:=o+k*9) (x:=x) (fun j hj=>by rw[←hcx j hj];exact bw.cell (p:=⟨b,_,none⟩) hb)
    obtain⟨q0,q1,q2,q3,q4,q5,q6,q7,q8⟩:=cells9 (W:=wr) (b:=b2) (p:=o2+k*9) (x:=y) (fun j hj=>by rw[←hcy j hj];exact bw.cell (p:=⟨b2,_,none⟩) hb2);have IK:=qH (fun W=>IH.out l[k] (List.getElem_mem hlt) (m[k]'(by have:=HL.out;omega)) x y W);clear hc hc2 hcx hcy hx hy bw;go_wp2_with fail;go_still_tail 8,(by kernel_rfl);change wpList _ _ _ _ _ wr.drew;clear p0 p1 p2 p3 p4 p5 p6 p7 p8 q0 q1 q2 q3 q4 q5 q6 q7 q8 BW
    obtain⟨q,hq⟩:∃ q,q=eqT l[k] (m[k]'(by have:=HL.out;omega)):=⟨_,rfl⟩;rw[←hq] at IK;generalize wr.drew=w3 at A1 A2 BD ⊢;cases q with
    | false=>
     obtain rfl:=RN.out k hlt (by have:=HL.out;omega) hq.symm;clear hq;go_wp2_with fail;refine(IK.out _ A1.out A2.out).mono ?_;rintro e w4 ⟨rfl,b4⟩;have B4:=qH (BD.out.trans (b4.mono BD.out.size));clear b4 A1 A2;go_wp2_with fail;go_ret;exact⟨rfl,B4.out⟩
    | true=>
     have HQ:=qH hq;clear hq;go_wp2_with fail;refine(IK.out _ A1.out A2.out).mono ?_;rintro e w4 ⟨rfl,b4⟩;have B4:=qH (BD.out.trans (b4.mono BD.out.size));clear b4 A1 A2;go_wp2_with fail;go_roundw
     case rel=>exact⟨k+1,by omega,by go_num,B4.out,qH (fun j hj a b=>by
      rcases Nat.lt_succ_iff_lt_or_eq.1 hj with q|q
      ·
       exact hall.out j q a b
      ·
       subst q;exact HQ.out.symm)⟩
     case measure=>simp[intOf];omega
   ·
    obtain rfl:r=true:=RY.out (fun j a b=>hall.out j (by omega) a b);go_wp2_with fail;go_ret;exact⟨rfl,BW.out⟩
 ·
  obtain rfl:r=false:=by
   rw[hr];cases hh:eqL l m with
   | false=>rfl
   | true=>exact absurd (eqL_len hh) hlen
  have d0:((l.length:Int) != m.length)=true:=by rw[bne_iff_ne];omega
  clear h1 h2 hr ih;go_enter Tryz.func125,Tryz.ntmps125;go_wp2_with fail;go_ret;exact⟨rfl,Below.refl _ _⟩
theorem same_any : ∀ (t:Tm) (u:Tm) (S S2:Nat→Prop) (x y:Ft) (w:World),TmAt S w t x→TmAt S2 w u y →
  Calls Tryz.prog 65 #[ftV x,ftV y] w fun e w'=>e = .returned (.bool (eqT t u))∧Below w.heap.size w w':=by
 intro t
 induction t using Tm.ind with
 | h f l ih=>
  intro u S S2 x y w hx hy;obtain⟨g,m⟩:=u;obtain⟨e1,i1⟩:=hx.its;obtain⟨e2,i2⟩:=hy.its;obtain⟨_,sa,cap,v1⟩:=i1.form;obtain⟨_,sa2,cap2,v2⟩:=i2.form;obtain⟨xf,xv⟩:=x;obtain⟨yf,yv⟩:=y;dsimp only at e1 e2 v1 v2 i1 i2;subst e1 e2 v1 v2;rw[eqT];exact same_flat xf yf sa sa2 _ cap _ cap2 w _ (qH fun W bW=>samel_any S S2 l m _ _ W (i1.below bW (fun _ _ h=>h)) (i2.below bW (fun _ _ h=>h)) (fun t ht u x y W' h1 h2=>ih t ht u S S2 x y W' h1 h2))
theorem alike_zero (sa:Option Addr) (len cap:Nat) (w:World) :
  Calls Tryz.prog 179 #[.slice sa len cap,.slice none 0 0,.func (.func 134) #[] #[]] w fun e w'=>e = .returned (.bool (decide (len=0)))∧Below w.heap.size w w':=by
 by_cases h:len=0
 ·
  subst h;simp only[decide_true];go_enter Tryz.func179,Tryz.ntmps179;go_wp2_with fail;refine wp_loop_rounds 1 ?_;rw[rounds_succ];go_wp2_with fail;go_ret;exact⟨rfl,Below.refl _ _⟩
 ·
  have e:decide (len=0)=false:=by simpa using h
  rw[e];have d0:((len:Int) != 0)=true:=by rw[bne_iff_ne];omega
  clear e;go_enter Tryz.func179,Tryz.ntmps179;go_wp2_with fail;go_ret;exact⟨rfl,Below.refl _ _⟩
set_option maxHeartbeats 2000000 in
theorem same89_flat (f f2:Fl) (sa sa2:Option Addr) (len cap len2 cap2:Nat) (w:World) (rl:Bool)
  (CL:Hid (∀ W,Below w.heap.size w W→Calls Tryz.prog 179 #[.slice sa len cap,.slice sa2 len2 cap2,.func (.func 134) #[] #[]] W fun e w'=>e = .returned (.bool rl)∧Below W.heap.size W w')) :
  Calls Tryz.prog 134 #[ftV ⟨f,.slice sa len cap⟩,ftV ⟨f2,.slice sa2 len2 cap2⟩] w fun e w'=>e = .returned (.bool (sameF f f2&&rl))∧Below w.heap.size w w':=by
 obtain⟨k,n,g,nm,fn,ar,bs,bt⟩:=f;obtain⟨k2,n2,g2,nm2,fn2,ar2,bs2,bt2⟩:=f2;obtain⟨r,hr⟩:∃ r,r=(sameF ⟨k,n,g,nm,fn,ar,bs,bt⟩ ⟨k2,n2,g2,nm2,fn2,ar2,bs2,bt2⟩&&rl):=⟨_,rfl⟩;rw[←hr];unfold ftV
 by_cases q0:k=k2
 ·
  subst q0
  by_cases q1:n=n2
  ·
   subst q1
   by_cases q2:g=g2
   ·
    subst q2
    by_cases q3:nm=nm2
    ·
     subst q3
     by_cases q4:fn=fn2
     ·
      subst q4
      by_cases q5:ar=ar2
      ·
       subst q5
       by_cases q6:bs=bs2
       ·
        subst q6
        by_cases q7:bt=bt2
        ·
         subst q7;obtain rfl:r=rl:=by rw[hr];unfold sameF;simp
         clear hr;go_enter Tryz.func134,Tryz.ntmps134;go_wp2_with fail;refine(CL.out _ (((Below.refl _ _).alloc (Nat.le_refl _) _).alloc (by simp) _)).mono ?_;rintro e w1 ⟨rfl,b1⟩;have B1:=qH ((((Below.refl w.heap.size w).alloc (Nat.le_refl _) _).alloc (by simp) _).trans (b1.mono (by simp;omega)));clear b1;go_wp2_with fail;go_ret;exact⟨rfl,B1.out⟩
        ·
         have d7:(bt==bt2)=false:=by simpa using q7
         obtain rfl:r=false:=by rw[hr];unfold sameF;simp[q7]
         clear hr CL q7;go_enter Tryz.func134,Tryz.ntmps134;go_wp2_with fail;go_ret;exact⟨rfl,((Below.refl _ _).alloc (Nat.le_refl _) _).alloc (by simp) _⟩
       ·
        have d6:(bs.toList==bs2.toList)=false:=by rw[beq_eq_false_iff_ne];exact fun h=>q6 (bytes_ext h)
        obtain rfl:r=false:=by rw[hr];unfold sameF;simp[q6]
        clear hr CL q6;go_enter Tryz.func134,Tryz.ntmps134;go_wp2_with fail;go_ret;exact⟨rfl,((Below.refl _ _).alloc (Nat.le_refl _) _).alloc (by simp) _⟩
      ·
       have d5:(ar==ar2)=false:=by simpa using q5
       obtain rfl:r=false:=by rw[hr];unfold sameF;simp[q5]
       clear hr CL q5;go_enter Tryz.func134,Tryz.ntmps134;go_wp2_with fail;go_ret;exact⟨rfl,((Below.refl _ _).alloc (Nat.le_refl _) _).alloc (by simp) _⟩
     ·
      have d4:(fn.toList==fn2.toList)=false:=by rw[beq_eq_false_iff_ne];exact fun h=>q4 (bytes_ext h)
      obtain rfl:r=false:=by rw[hr];unfold sameF;simp[q4]
      clear hr CL q4;go_enter Tryz.func134,Tryz.ntmps134;go_wp2_with fail;go_ret;exact⟨rfl,((Below.refl _ _).alloc (Nat.le_refl _) _).alloc (by simp) _⟩
    ·
     have d3:(nm.toList==nm2.toList)=false:=by rw[beq_eq_false_iff_ne];exact fun h=>q3 (bytes_ext h)
     obtain rfl:r=false:=by rw[hr];unfold sameF;simp[q3]
     clear hr CL q3;go_enter Tryz.func134,Tryz.ntmps134;go_wp2_with fail;go_ret;exact⟨rfl,((Below.refl _ _).alloc (Nat.le_refl _) _).alloc (by simp) _⟩
   ·
    have d2:(g==g2)=false:=by simpa using q2
    obtain rfl:r=false:=by rw[hr];unfold sameF;simp[q2]
    clear hr CL q2;go_enter Tryz.func134,Tryz.ntmps134;go_wp2_with fail;go_ret;exact⟨rfl,((Below.refl _ _).alloc (Nat.le_refl _) _).alloc (by simp) _⟩
  ·
   have d1:(n==n2)=false:=by simpa using q1
   obtain rfl:r=false:=by rw[hr];unfold sameF;simp[q1]
   clear hr CL q1;go_enter Tryz.func134,Tryz.ntmps134;go_wp2_with fail;go_ret;exact⟨rfl,((Below.refl _ _).alloc (Nat.le_refl _) _).alloc (by simp) _⟩
 ·
  have d0:(k==k2)=false:=by simpa using q0
  obtain rfl:r=false:=by rw[hr];unfold sameF;simp[q0]
  clear hr CL q0;go_enter Tryz.func134,Tryz.ntmps134;go_wp2_with fail;go_ret;exact⟨rfl,((Below.refl _ _).alloc (Nat.le_refl _) _).alloc (by simp) _⟩
def zeroFl : Fl:=⟨0,0,0,noB,noB,0,noB,0⟩
theorem size0 (a:ByteArray):decide (a=noB)=decide (a.size=0):=by
 rw[decide_eq_decide];constructor
 ·
  rintro rfl;rfl
 ·
  intro h;exact ByteArray.ext (Array.eq_empty_of_size_eq_zero h)
theorem sameF_zero (f:Fl) (h:f.k=0):sameF f zeroFl=zeroF f:=by
 unfold sameF zeroF zeroFl;simp only[size0,h,decide_true,Bool.true_and]
theorem same_zero (f:Fl) (sa:Option Addr) (len cap:Nat) (w:World) (h:f.k=0) :
  Calls Tryz.prog 134 #[ftV ⟨f,.slice sa len cap⟩,.agg zT] w fun e w'=>e = .returned (.bool (zeroF f&&decide (len=0)))∧Below w.heap.size w w':=by
 rw[←sameF_zero f h];exact same89_flat f zeroFl sa none len cap 0 0 w _ (qH fun W _=>alike_zero sa len cap W)
def kcells (n:Nat):Array Value:=#[.func (.func 226) #[] #[],.func (.func 227) #[] #[],.func (.func 228) #[] #[],.func (.func 224) #[] #[],.func (.func 229) #[] #[],.func (.func 230) #[] #[],.func (.func 224) #[] #[],.func (.func 231) #[] #[],.func (.func 232) #[] #[],.func (.func 233) #[] #[],.func (.func 234) #[] #[],.int .i64 n]
def Ms (w:World) (bm n:Nat):Prop:=Blk w bm 280 (kcells n)
def OfR (bm n:Nat) (ok:Bool) (sz:Nat) (w:World) (e:Ending) (w':World):Prop:=e = .returned (.bool ok)∧Only [bm] w w'∧∃ n',Ms w' bm n'∧(ok=true→n'=n+sz)
def kid (k:Nat):Nat:=([226,227,228,224,229,230,224,231,232,233,234].getD k 0)
theorem kid_cell {w:World} {bm n:Nat} (h:Ms w bm n) (k:Nat) (hk:k<11):w.cell? ⟨bm,k,none⟩=some (.func (.func (kid k)) #[] #[]):=by
 have:=Blk.cell h k
 rw[this]
 match k,hk with
 | 0,_=>rfl
 | 1,_=>rfl
 | 2,_=>rfl
 | 3,_=>rfl
 | 4,_=>rfl
 | 5,_=>rfl
 | 6,_=>rfl
 | 7,_=>rfl
 | 8,_=>rfl
 | 9,_=>rfl
 | 10,_=>rfl
theorem kid_enter (k:Nat) (hk:k<11):∀ args w,(callFunc (kid k) args).run Tryz.prog w = .ok (.enter (kid k) args) w:=by
 match k,hk with
 | 0,_=>exact enters_of Tryz.func226 (by kernel_rfl) rfl
 | 1,_=>exact enters_of Tryz.func227 (by kernel_rfl) rfl
 | 2,_=>exact enters_of Tryz.func228 (by kernel_rfl) rfl
 | 3,_=>exact enters_of Tryz.func224 (by kernel_rfl) rfl
 | 4,_=>exact enters_of Tryz.func229 (by kernel_rfl) rfl
 | 5,_=>exact enters_of Tryz.func230 (by kernel_rfl) rfl
 | 6,_=>exact enters_of Tryz.func224 (by kernel_rfl) rfl
 | 7,_=>exact enters_of Tryz.func231 (by kernel_rfl) rfl
 | 8,_=>exact enters_of Tryz.func232 (by kernel_rfl) rfl
 | 9,_=>exact enters_of Tryz.func233 (by kernel_rfl) rfl
 | 10,_=>exact enters_of Tryz.func234 (by kernel_rfl) rfl
def itemsV (k:Int) (v:Value):Value:=if usesL k then .slice none 0 0 else v
theorem kind_any (k:Nat) (hk:k<11) (S:Nat→Prop) (f:Fl) (l:List Tm) (sa:Option Addr) (cap:Nat) (w:World) (he:f.k=k) (hl:ItsAt S w l (.slice sa l.length cap)) (hz:f.bs.size≤maxLen) :
  Calls Tryz.prog (kid k) #[ftV ⟨f,.slice sa l.length cap⟩] w (KindR (bareF f) (itemsV f.k (.slice sa l.length cap)) (okF f l) w):=by
 obtain⟨kk,n,g,nm,fn,ar,bs,bt⟩:=f;dsimp only at he;subst he
 match k,hk with
 | 0,_=>exact kind0 ⟨_,n,g,nm,fn,ar,bs,bt⟩ sa _ cap w
 | 1,_=>exact kind1 ⟨_,n,g,nm,fn,ar,bs,bt⟩ sa _ cap w
 | 2,_=>exact kind2 ⟨_,n,g,nm,fn,ar,bs,bt⟩ sa _ cap w
 | 3,_=>exact kind3 ⟨_,n,g,nm,fn,ar,bs,bt⟩ sa _ cap w
 | 4,_=>exact kind4 ⟨_,n,g,nm,fn,ar,bs,bt⟩ sa _ cap w
 | 5,_=>exact kind5 ⟨_,n,g,nm,fn,ar,bs,bt⟩ sa _ cap w
 | 6,_=>exact kind3 ⟨_,n,g,nm,fn,ar,bs,bt⟩ sa _ cap w
 | 7,_=>exact kind7 ⟨_,n,g,nm,fn,ar,bs,bt⟩ sa _ cap w
 | 8,_=>exact kind8 ⟨_,n,g,nm,fn,ar,bs,bt⟩ sa _ cap w
 | 9,_=>exact kind9 S ⟨_,n,g,nm,fn,ar,bs,bt⟩ l sa cap w hl
 | 10,_=>exact kind10 ⟨_,n,g,nm,fn,ar,bs,bt⟩ sa _ cap w hz
structure Sg where
 k:Int
 fr:Tm
 tt:Tm
 node:ByteArray
 name:ByteArray
 ref:Tm
 num:Int
 val:Tm
structure Sf where
 a:Ft
 b:Ft
 c:Ft
 d:Ft
def sgC (s:Sg) (x:Sf):List Value:=[.int .i64 s.k]++ftC x.a++ftC x.b ++ [.string s.node,.string s.name]++ftC x.c ++ [.int .i64 s.num]++ftC x.d
def sgV (s:Sg) (x:Sf):Value:=.agg (sgC s x).toArray
structure SgAt (S:Nat→Prop) (w:World) (s:Sg) (x:Sf):Prop where
 fr:TmAt S w s.fr x.a
 tt:TmAt S w s.tt x.b
 ref:TmAt S w s.ref x.c
 val:TmAt S w s.val x.d
theorem SgAt.below {S:Nat→Prop} {w w':World} {s:Sg} {x:Sf} {n:Nat} (h:SgAt S w s x) (hb:Below n w w') (hn:∀ b,S b→b<w.heap.size→b<n):SgAt S w' s x:=
 ⟨h.fr.below hb hn,h.tt.below hb hn,h.ref.below hb hn,h.val.below hb hn⟩
theorem SgAt.mono {S S':Nat→Prop} {w:World} {s:Sg} {x:Sf} (h:SgAt S w s x) (hS:∀ b,S b→b<w.heap.size→S' b):SgAt S' w s x:=
 ⟨h.fr.mono hS,h.tt.mono hS,h.ref.mono hS,h.val.mono hS⟩
def usesF (k:Int):Int:=
 if k=1 then 67
 else if k=6 then 67
 else if k=7 then 67
 else if k=2 then 77
 else if k=3 then 3
 else if k=4 then 35
 else if k=5 then 35
 else if k=8 then 19
 else if k=9 then 19
 else if k=10 then 83
 else if k=11 then 85
 else if k=12 then 86
 else 0
set_option maxHeartbeats 4000000 in
theorem uses21 (k:Int) (w:World):Calls Tryz.prog 45 #[.int .i64 k] w fun e w'=>e = .returned (.int .i64 (usesF k))∧Below w.heap.size w w':=by
 obtain⟨u,hu⟩:∃ u,u=usesF k:=⟨_,rfl⟩;rw[←hu]
 by_cases h1:k=1
 ·
  subst h1;obtain rfl:u=67:=hu;go_enter Tryz.func45,Tryz.ntmps45;go_wp2_with fail;go_ret;exact⟨rfl,Below.refl _ _⟩
 by_cases h6:k=6
 ·
  subst h6;obtain rfl:u=67:=hu;go_enter Tryz.func45,Tryz.ntmps45;go_wp2_with fail;go_ret;exact⟨rfl,Below.refl _ _⟩
 by_cases h7:k=7
 ·
  subst h7;obtain rfl:u=67:=hu;go_enter Tryz.func45,Tryz.ntmps45;go_wp2_with fail;go_ret;exact⟨rfl,Below.refl _ _⟩
 by_cases h2:k=2
 ·
  subst h2;obtain rfl:u=77:=hu;go_enter Tryz.func45,Tryz.ntmps45;go_wp2_with fail;go_ret;exact⟨rfl,Below.refl _ _⟩
 by_cases h3:k=3
 ·
  subst h3;obtain rfl:u=3:=hu;go_enter Tryz.func45,Tryz.ntmps45;go_wp2_with fail;go_ret;exact⟨rfl,Below.refl _ _⟩
 by_cases h4:k=4
 ·
  subst h4;obtain rfl:u=35:=hu;go_enter Tryz.func45,Tryz.ntmps45;go_wp2_with fail;go_ret;exact⟨rfl,Below.refl _ _⟩
 by_cases h5:k=5
 ·
  subst h5;obtain rfl:u=35:=hu;go_enter Tryz.func45,Tryz.ntmps45;go_wp2_with fail;go_ret;exact⟨rfl,Below.refl _ _⟩
 by_cases h8:k=8
 ·
  subst h8;obtain rfl:u=19:=hu;go_enter Tryz.func45,Tryz.ntmps45;go_wp2_with fail;go_ret;exact⟨rfl,Below.refl _ _⟩
 by_cases h9:k=9
 ·
  subst h9;obtain rfl:u=19:=hu;go_enter Tryz.func45,Tryz.ntmps45;go_wp2_with fail;go_ret;exact⟨rfl,Below.refl _ _⟩
 by_cases h10:k=10
 ·
  subst h10;obtain rfl:u=83:=hu;go_enter Tryz.func45,Tryz.ntmps45;go_wp2_with fail;go_ret;exact⟨rfl,Below.refl _ _⟩
 by_cases h11:k=11
 ·
  subst h11;obtain rfl:u=85:=hu;go_enter Tryz.func45,Tryz.ntmps45;go_wp2_with fail;go_ret;exact⟨rfl,Below.refl _ _⟩
 by_cases h12:k=12
 ·
  subst h12;obtain rfl:u=86:=hu;go_enter Tryz.func45,Tryz.ntmps45;go_wp2_with fail;go_ret;exact⟨rfl,Below.refl _ _⟩
 obtain rfl:u=0:=by rw[hu];unfold usesF;simp[h1,h6,h7,h2,h3,h4,h5,h8,h9,h10,h11,h12]
 have e1:(k==1)=false:=by rw[beq_eq_false_iff_ne];exact h1
 have e6:(k==6)=false:=by rw[beq_eq_false_iff_ne];exact h6
 have e7:(k==7)=false:=by rw[beq_eq_false_iff_ne];exact h7
 have e2:(k==2)=false:=by rw[beq_eq_false_iff_ne];exact h2
 have e3:(k==3)=false:=by rw[beq_eq_false_iff_ne];exact h3
 have e4:(k==4)=false:=by rw[beq_eq_false_iff_ne];exact h4
 have e5:(k==5)=false:=by rw[beq_eq_false_iff_ne];exact h5
 have e8:(k==8)=false:=by rw[beq_eq_false_iff_ne];exact h8
 have e9:(k==9)=false:=by rw[beq_eq_false_iff_ne];exact h9
 have e10:(k==10)=false:=by rw[beq_eq_false_iff_ne];exact h10
 have e11:(k==11)=false:=by rw[beq_eq_false_iff_ne];exact h11
 have e12:(k==12)=false:=by rw[beq_eq_false_iff_ne];exact h12
 clear hu h1 h6 h7 h2 h3 h4 h5 h8 h9 h10 h11 h12;go_enter Tryz.func45,Tryz.ntmps45;go_wp2_with fail;go_ret;exact⟨rfl,Below.refl _ _⟩
end Go.Proofs.YtoaimoemaoinhaaGreatDoor
