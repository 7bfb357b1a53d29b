/- PeersX: a part of the proof. No condition beyond the premises of each theorem. -/
import Derived.Test.YtoaimoemaoinhaaGreatDoorQp19
import Derived.Test.YtoaimoemaoinhaaGreatDoorQp00
set_option maxRecDepth 100000
namespace Go.Proofs.YtoaimoemaoinhaaGreatDoor
open Go.RowKit Go.Rt Go.Rw
theorem only_below {w W W':World} {g:Nat} (h:Below w.heap.size w W) (o:Only [g] W W') (hg:w.heap.size≤g):Below w.heap.size w W':=
 (only_new (Only.of_below (bs:=[]) h) o hg).below (by simp) (Nat.le_refl _)
set_option maxHeartbeats 2000000 in
theorem int41 (n:Int) (w:World):Calls Tryz.prog 115 #[.int .i64 n] w fun e w'=>e = .returned (.agg #[.int .i64 1,.int .i64 n,.int .i64 0,.string ⟨#[]⟩,.string ⟨#[]⟩,.int .i64 0,.slice none 0 0,.string ⟨#[]⟩,.int .i64 0])∧Below w.heap.size w w':=by
 have X0:=qH (Blk.new w 48 zT);have B0:=qH ((Below.refl w.heap.size w).alloc (Nat.le_refl _) (.cells zT 48));go_enter Tryz.func115,Tryz.ntmps115;go_upto_region 1 with fail
 generalize w.alloc (.cells zT 48)=v0 at X0 B0 ⊢;go_wp2_with (refine wpList_store_blk rfl 48 _ _ rfl rfl w.heap.size #[.int .i64 1,.int .i64 n,.int .i64 0,.string ⟨#[]⟩,.string ⟨#[]⟩,.int .i64 0,.slice none 0 0,.string ⟨#[]⟩,.int .i64 0] _ 48 rfl rfl X0.out rfl info25 (by simp[Value.oneCell']) ?_;intro vF bF oF);have BF:=only_below B0.out oF (Nat.le_refl _);go_wp2_with fail;exact bodyPost_ret (results_blk rfl _ _ w.heap.size _ _ rfl bF Tryz.underlying48 rfl info25) rfl ⟨rfl,BF⟩
set_option maxHeartbeats 2000000 in
theorem nil46 (w:World):Calls Tryz.prog 160 #[] w fun e w'=>e = .returned (.agg #[.int .i64 8,.int .i64 0,.int .i64 0,.string ⟨#[]⟩,.string ⟨#[]⟩,.int .i64 0,.slice none 0 0,.string ⟨#[]⟩,.int .i64 0])∧Below w.heap.size w w':=by
 have X0:=qH (Blk.new w 48 zT);have B0:=qH ((Below.refl w.heap.size w).alloc (Nat.le_refl _) (.cells zT 48));go_enter Tryz.func160,Tryz.ntmps160;go_upto_region 1 with fail
 generalize w.alloc (.cells zT 48)=v0 at X0 B0 ⊢;go_wp2_with (refine wpList_store_blk rfl 48 _ _ rfl rfl w.heap.size #[.int .i64 8,.int .i64 0,.int .i64 0,.string ⟨#[]⟩,.string ⟨#[]⟩,.int .i64 0,.slice none 0 0,.string ⟨#[]⟩,.int .i64 0] _ 48 rfl rfl X0.out rfl info25 (by simp[Value.oneCell']) ?_;intro vF bF oF);have BF:=only_below B0.out oF (Nat.le_refl _);go_wp2_with fail;exact bodyPost_ret (results_blk rfl _ _ w.heap.size _ _ rfl bF Tryz.underlying48 rfl info25) rfl ⟨rfl,BF⟩
set_option maxHeartbeats 2000000 in
theorem term_full {s:ByteArray} {rb:Nat} {r0:List UInt8} {w:World} (h:Rd s rb r0 2000 w) :
  Calls Tryz.prog 123 #[.pointer (some ⟨rb,0,none⟩)] w (TmR s rb 2000 none w):=by
 have NRB:Hid (rb<w.heap.size):=qH h.lt;have O0:=qH (Only.alloc [rb] w (.cells zT 48));have R0:=qH (h.below ((Below.refl _ _).alloc (Nat.le_refl _) (.cells zT 48)));have X0:=qH (Blk.new w 48 zT);clear h;go_enter Tryz.func123,Tryz.ntmps123;go_upto_region 1 with fail
 generalize w.alloc (.cells zT 48)=v0 at O0 R0 X0 ⊢;obtain⟨a0,ha0,hd0,hb0⟩:=R0.out;have HA0:=qH ha0;have HD0:=qH hd0;have HB0:=qH hb0;have c2:v0.cell? ⟨rb,2,none⟩=some (.int .i64 2000):=hb0.cell 2;clear ha0 hd0 hb0 R0;have w1:IntKind.i64.wrap ((2000:Int)+1)=(2001:Int):=by rw[IntKind.wrap_i64];decide
 go_wp2_with (refine wpList_store_fld rfl 3 _ _ rfl rfl rb 2 _ 196 (.int .i64 (2001:Int)) rfl rfl HB0.out (Nat.le_of_ble_eq_true rfl) (by kernel_rfl) rfl ?_);intro v1 ev;have B1:=qH (show Blk v1 rb 196 #[.string s,.int .i64 a0,.int .i64 (2001:Int)] by rw[ev];exact HB0.out.set_ 2 _);have O1:=qH (show Only [rb] w v1 by rw[ev];exact O0.out.trans (Only.setCell v0 ⟨rb,2,none⟩ _ (by simp)));have X1:=qH (X0.out.only (bs:=[rb]) (show Only [rb] v0 v1 by rw[ev];exact Only.setCell v0 ⟨rb,2,none⟩ _ (by simp)) (by have:=NRB.out;simp;omega))
 clear ev c2 w1 HB0 O0 X0;have c2:v1.cell? ⟨rb,2,none⟩=some (.int .i64 (2001:Int)):=B1.out.cell 2;go_wp2_with fail;refine(demand_any _ false _).mono ?_;rintro e vy ⟨rfl,rfl⟩;go_wp2_with fail;exact⟨rfl,O1.out,rfl⟩
set_option maxHeartbeats 2000000 in
theorem term_core {T:Nat→List UInt8→Pr Tm} {s:ByteArray} {rb d p:Nat} {r0:List UInt8} {w:World} (hT:TmC T s rb d) (h:Rd s rb r0 p w) (hd:2000≤p+(d+1)) (hp:p<2000) (hs:s.size≤200000) :
  Calls Tryz.prog 123 #[.pointer (some ⟨rb,0,none⟩)] w (TmR s rb p (bodyP T (p+1) r0) w):=by
 have HT:=qH hT;obtain⟨P,hP⟩:∃ P,P=bodyP T (p+1) r0:=⟨_,rfl⟩;rw[←hP];obtain⟨q,hq⟩:∃ q,q=p+1:=⟨_,rfl⟩;rw[←hq] at hP;have hqd:2000≤q+d:=by omega
 have hq2:q≤2000:=by omega
 have hpq:p≤q:=by omega
 have HPB:=qH hP;have HQE:=qH hq;clear hP hT hq;have NRB:Hid (rb<w.heap.size):=qH h.lt;have O0:=qH (Only.alloc [rb] w (.cells zT 48));have R0:=qH (h.below ((Below.refl _ _).alloc (Nat.le_refl _) (.cells zT 48)));have X0:=qH (Blk.new w 48 zT);clear h;go_enter Tryz.func123,Tryz.ntmps123;go_upto_region 1 with fail
 generalize w.alloc (.cells zT 48)=v0 at O0 R0 X0 ⊢;obtain⟨a0,ha0,hd0,hb0⟩:=R0.out;have HA0:=qH ha0;have HD0:=qH hd0;have HB0:=qH hb0;have c2:v0.cell? ⟨rb,2,none⟩=some (.int .i64 p):=hb0.cell 2;clear ha0 hd0 hb0 R0;have w1:IntKind.i64.wrap ((p:Int)+1)=(q:Int):=by rw[IntKind.wrap_i64];have:=HQE.out;omega
 go_wp2_with (refine wpList_store_fld rfl 3 _ _ rfl rfl rb 2 _ 196 (.int .i64 (q:Int)) rfl rfl HB0.out (Nat.le_of_ble_eq_true rfl) (by kernel_rfl) rfl ?_);intro v1 ev;have B1:=qH (show Blk v1 rb 196 #[.string s,.int .i64 a0,.int .i64 (q:Int)] by rw[ev];exact HB0.out.set_ 2 _);have O1:=qH (show Only [rb] w v1 by rw[ev];exact O0.out.trans (Only.setCell v0 ⟨rb,2,none⟩ _ (by simp)));have X1:=qH (X0.out.only (bs:=[rb]) (show Only [rb] v0 v1 by rw[ev];exact Only.setCell v0 ⟨rb,2,none⟩ _ (by simp)) (by have:=NRB.out;simp;omega))
 clear ev c2 w1 HB0 O0 X0;have c2:v1.cell? ⟨rb,2,none⟩=some (.int .i64 (q:Int)):=B1.out.cell 2;have R1:Hid (Rd s rb r0 q v1):=qH ⟨a0,HA0.out,HD0.out,B1.out⟩;have dq:decide ((q:Int)≤2000)=true:=decide_eq_true (by omega);go_wp2_with fail;refine(demand_any _ true _).mono ?_;rintro e vy ⟨rfl,rfl⟩;clear c2 B1 dq;cases hq:numP r0 1 with
 | none=>
  have HC:=qH (byte_any R1.out hs);rw[hq] at HC;have E1:=qH hq;clear hq;obtain rfl:P=none:=by
    rw[HPB.out];unfold bodyP;rw[E1.out]
  clear HPB;go_wp2_with fail;refine HC.out.mono ?_;rintro e vx ⟨ox,rfl⟩;have OX:=qH (O1.out.trans ox);clear ox;go_wp2_with fail;exact⟨rfl,OX.out,rfl⟩
 | some q=>
  obtain⟨n1,r2⟩:=q;have hn1:=numP_lt hq;have HE1:=qH (numP_len hq);have HC:=qH (byte_any R1.out hs);rw[hq] at HC;have E1:=qH hq;clear hq;go_wp2_with fail;refine HC.out.mono ?_;rintro e v2 ⟨ox,rfl,rx⟩;have O2:=qH (O1.out.trans ox);have R2:=qH rx;have X2:=qH (X1.out.only ox (by have:=NRB.out;simp;omega));clear ox rx HC;clear R1 X1;obtain⟨tag,htag⟩:∃ tag,tag=n1:=⟨_,rfl⟩;rw[←htag] at E1 hn1 ⊢;have HE:=qH E1.out
  have HP0:Hid (P=tagP T q tag r2):=qH (by rw[HPB.out];unfold bodyP;rw[E1.out]);clear htag HPB E1 HE1;obtain⟨rt,hrt⟩:∃ rt,rt=r2:=⟨_,rfl⟩;rw[←hrt] at R2 HP0 HE;clear hrt
  by_cases ht97:tag=97
  ·
   subst ht97;have HP:Hid (P=p97 q rt):=qH (by rw[HP0.out];rfl);clear HP0 HE HA0 HD0;obtain⟨r2,hr2⟩:∃ r2,r2=rt:=⟨_,rfl⟩;rw[←hr2] at HP R2;clear hr2;cases hq:numP r2 1 with
   | none=>
    have HC:=qH (byte_any R2.out hs);rw[hq] at HC;have E2:=qH hq;clear hq;obtain rfl:P=none:=by
      rw[HP.out];unfold p97;rw[E2.out]
    clear HP;go_wp2_with fail;refine HC.out.mono ?_;rintro e vx ⟨ox,rfl⟩;have OX:=qH (O2.out.trans ox);clear ox;go_wp2_with fail;exact⟨rfl,OX.out,rfl⟩
   | some q=>
    obtain⟨n2,r3⟩:=q;have hn2:=numP_lt hq;have HE2:=qH (numP_len hq);have HC:=qH (byte_any R2.out hs);rw[hq] at HC;have E2:=qH hq;clear hq;go_wp2_with fail;refine HC.out.mono ?_;rintro e v3 ⟨ox,rfl,rx⟩;have O3:=qH (O2.out.trans ox);have R3:=qH rx;have X3:=qH (X2.out.only ox (by have:=NRB.out;simp;omega));clear ox rx HC;clear R2 X2;go_wp2_with fail;refine(int41 ((n2:Int)) _).mono ?_;rintro e v4 ⟨rfl,bb⟩
    have O4:=qH (O3.out.trans (Only.of_below bb));have R4:=qH (R3.out.below bb);have X4:=qH (X3.out.below bb X3.out.lt);clear bb R3 X3;obtain rfl:P=some (.mk ⟨1,(n2:Int),0,noB,noB,0,noB,0⟩ [],q,r3):=by
      rw[HP.out];unfold p97;rw[E2.out]
      try dsimp only
      try rfl
    clear HP;go_wp2_with (refine wpList_store_blk rfl 48 _ _ rfl rfl w.heap.size #[.int .i64 1,.int .i64 ((n2:Int)),.int .i64 0,.string ⟨#[]⟩,.string ⟨#[]⟩,.int .i64 0,.slice none 0 0,.string ⟨#[]⟩,.int .i64 0] _ 48 rfl rfl X4.out rfl info25 (by simp[Value.oneCell']) ?_;intro vF bF oF);have RF:=R4.out.only' oF (by have:=NRB.out;omega);have OF:=only_new O4.out oF (Nat.le_refl _);go_wp2_with fail;refine bodyPost_ret (results_blk rfl _ _ w.heap.size _ _ rfl bF Tryz.underlying48 rfl info25) rfl ⟨OF,⟨⟨1,(n2:Int),0,noB,noB,0,noB,0⟩,.slice none 0 0⟩,rfl,TmAt.of rfl (ItsAt.nil none 0),RF,(by show p≤q;omega),(by show q≤2000;omega)⟩
  ·
   have dt97:((tag:Int)==97)=false:=by rw[beq_eq_false_iff_ne];omega
   by_cases ht98:tag=98
   ·
    subst ht98;have HP:Hid (P=p98 q rt):=qH (by rw[HP0.out];rfl);clear HP0 HE HA0 HD0 ht97;obtain⟨r2,hr2⟩:∃ r2,r2=rt:=⟨_,rfl⟩;rw[←hr2] at HP R2;clear hr2;cases hq:numP r2 4 with
    | none=>
     have HC:=qH (number_any R2.out 4 (by omega) (by omega) hs);rw[hq] at HC;have E2:=qH hq;clear hq;obtain rfl:P=none:=by
       rw[HP.out];unfold p98;rw[E2.out]
     clear HP;go_wp2_with fail;refine HC.out.mono ?_;rintro e vx ⟨ox,rfl⟩;have OX:=qH (O2.out.trans ox);clear ox;go_wp2_with fail;exact⟨rfl,OX.out,rfl⟩
    | some q=>
     obtain⟨n2,r3⟩:=q;have hn2:=numP_lt hq;have HE2:=qH (numP_len hq);have HC:=qH (number_any R2.out 4 (by omega) (by omega) hs);rw[hq] at HC;have E2:=qH hq;clear hq;go_wp2_with fail;refine HC.out.mono ?_;rintro e v3 ⟨ox,rfl,rx⟩;have O3:=qH (O2.out.trans ox);have R3:=qH rx;have X3:=qH (X2.out.only ox (by have:=NRB.out;simp;omega));clear ox rx HC;clear R2 X2;obtain⟨m,hm⟩:∃ m,m=toI32 n2:=⟨_,rfl⟩;have HM:=qH hm
     have hmb : -2147483648≤m∧m≤2147483647:=by rw[hm];unfold toI32;split<;>omega
     have e1:IntKind.u32.wrap (n2:Int)=(n2:Int):=by rw[IntKind.wrap_u32];omega
     have e2:IntKind.i32.wrap (n2:Int)=m:=by rw[IntKind.wrap_i32,hm];unfold toI32;split<;>omega
     have e3:IntKind.i64.wrap m=m:=by rw[IntKind.wrap_i64];omega
     clear hm
     by_cases hc:m<0∨255<m
     ·
      have K3:=qH hc
      by_cases h0:m<0
      ·
       have d1:decide (m<0)=true:=decide_eq_true h0;clear hc;go_wp2_with fail;refine(demand_any _ true _).mono ?_;rintro e vy ⟨rfl,rfl⟩;go_wp2_with fail;refine(int41 (m) _).mono ?_;rintro e v4 ⟨rfl,bb⟩;have O4:=qH (O3.out.trans (Only.of_below bb));have R4:=qH (R3.out.below bb);have X4:=qH (X3.out.below bb X3.out.lt);clear bb R3 X3;obtain rfl:P=some (.mk ⟨1,m,0,noB,noB,0,noB,0⟩ [],q,r3):=by
         rw[HP.out];unfold p98;rw[E2.out]
         try dsimp only
         rw[←HM.out];rw[if_pos K3.out]
         try rfl
       clear HP;go_wp2_with (refine wpList_store_blk rfl 48 _ _ rfl rfl w.heap.size #[.int .i64 1,.int .i64 (m),.int .i64 0,.string ⟨#[]⟩,.string ⟨#[]⟩,.int .i64 0,.slice none 0 0,.string ⟨#[]⟩,.int .i64 0] _ 48 rfl rfl X4.out rfl info25 (by simp[Value.oneCell']) ?_;intro vF bF oF);have RF:=R4.out.only' oF (by have:=NRB.out;omega);have OF:=only_new O4.out oF (Nat.le_refl _);go_wp2_with fail;refine bodyPost_ret (results_blk rfl _ _ w.heap.size _ _ rfl bF Tryz.underlying48 rfl info25) rfl ⟨OF,⟨⟨1,m,0,noB,noB,0,noB,0⟩,.slice none 0 0⟩,rfl,TmAt.of rfl (ItsAt.nil none 0),RF,(by show p≤q;omega),(by show q≤2000;omega)⟩
      ·
       have d1:decide (m<0)=false:=decide_eq_false h0;have d2:decide (255<m)=true:=decide_eq_true (by omega);clear hc;go_wp2_with fail;refine(demand_any _ true _).mono ?_;rintro e vy ⟨rfl,rfl⟩;go_wp2_with fail;refine(int41 (m) _).mono ?_;rintro e v4 ⟨rfl,bb⟩;have O4:=qH (O3.out.trans (Only.of_below bb));have R4:=qH (R3.out.below bb);have X4:=qH (X3.out.below bb X3.out.lt);clear bb R3 X3;obtain rfl:P=some (.mk ⟨1,m,0,noB,noB,0,noB,0⟩ [],q,r3):=by
         rw[HP.out];unfold p98;rw[E2.out]
         try dsimp only
         rw[←HM.out];rw[if_pos K3.out]
         try rfl
       clear HP;go_wp2_with (refine wpList_store_blk rfl 48 _ _ rfl rfl w.heap.size #[.int .i64 1,.int .i64 (m),.int .i64 0,.string ⟨#[]⟩,.string ⟨#[]⟩,.int .i64 0,.slice none 0 0,.string ⟨#[]⟩,.int .i64 0] _ 48 rfl rfl X4.out rfl info25 (by simp[Value.oneCell']) ?_;intro vF bF oF);have RF:=R4.out.only' oF (by have:=NRB.out;omega);have OF:=only_new O4.out oF (Nat.le_refl _);go_wp2_with fail;refine bodyPost_ret (results_blk rfl _ _ w.heap.size _ _ rfl bF Tryz.underlying48 rfl info25) rfl ⟨OF,⟨⟨1,m,0,noB,noB,0,noB,0⟩,.slice none 0 0⟩,rfl,TmAt.of rfl (ItsAt.nil none 0),RF,(by show p≤q;omega),(by show q≤2000;omega)⟩
     ·
      have K3:=qH hc;obtain rfl:P=none:=by
        rw[HP.out];unfold p98;rw[E2.out]
        try dsimp only
        rw[←HM.out];rw[if_neg K3.out]
      clear HP;have d1:decide (m<0)=false:=decide_eq_false (by omega);have d2:decide (255<m)=false:=decide_eq_false (by omega);clear hc;go_wp2_with fail;refine(demand_any _ false _).mono ?_;rintro e vy ⟨rfl,rfl⟩;go_wp2_with fail;exact⟨rfl,O3.out,rfl⟩
   ·
    have dt98:((tag:Int)==98)=false:=by rw[beq_eq_false_iff_ne];omega
    by_cases ht110:tag=110
    ·
     subst ht110;have HP:Hid (P=p110 q rt):=qH (by rw[HP0.out];rfl);clear HP0 HE HA0 HD0 ht97 ht98;obtain⟨r2,hr2⟩:∃ r2,r2=rt:=⟨_,rfl⟩;rw[←hr2] at HP R2;clear hr2;cases hq:largeP r2 with
     | none=>
      have HC:=qH (large_any R2.out hs);rw[hq] at HC;have E2:=qH hq;clear hq;obtain rfl:P=none:=by
        rw[HP.out];unfold p110;rw[E2.out]
      clear HP;go_wp2_with fail;refine HC.out.mono ?_;rintro e vx ⟨ox,rfl⟩;have OX:=qH (O2.out.trans ox);clear ox;go_wp2_with fail;exact⟨rfl,OX.out,rfl⟩
     | some q=>
      obtain⟨n2,r3⟩:=q;have HC:=qH (large_any R2.out hs);rw[hq] at HC;have E2:=qH hq;clear hq;go_wp2_with fail;refine HC.out.mono ?_;rintro e v3 ⟨ox,rfl,rx⟩;have O3:=qH (O2.out.trans ox);have R3:=qH rx;have X3:=qH (X2.out.only ox (by have:=NRB.out;simp;omega));clear ox rx HC;clear R2 X2;go_wp2_with fail;refine(int41 (n2) _).mono ?_;rintro e v4 ⟨rfl,bb⟩;have O4:=qH (O3.out.trans (Only.of_below bb))
      have R4:=qH (R3.out.below bb);have X4:=qH (X3.out.below bb X3.out.lt);clear bb R3 X3;obtain rfl:P=some (.mk ⟨1,n2,0,noB,noB,0,noB,0⟩ [],q,r3):=by
        rw[HP.out];unfold p110;rw[E2.out]
        try dsimp only
        try rfl
      clear HP;go_wp2_with (refine wpList_store_blk rfl 48 _ _ rfl rfl w.heap.size #[.int .i64 1,.int .i64 (n2),.int .i64 0,.string ⟨#[]⟩,.string ⟨#[]⟩,.int .i64 0,.slice none 0 0,.string ⟨#[]⟩,.int .i64 0] _ 48 rfl rfl X4.out rfl info25 (by simp[Value.oneCell']) ?_;intro vF bF oF);have RF:=R4.out.only' oF (by have:=NRB.out;omega);have OF:=only_new O4.out oF (Nat.le_refl _);go_wp2_with fail;refine bodyPost_ret (results_blk rfl _ _ w.heap.size _ _ rfl bF Tryz.underlying48 rfl info25) rfl ⟨OF,⟨⟨1,n2,0,noB,noB,0,noB,0⟩,.slice none 0 0⟩,rfl,TmAt.of rfl (ItsAt.nil none 0),RF,(by show p≤q;omega),(by show q≤2000;omega)⟩
    ·
     have dt110:((tag:Int)==110)=false:=by rw[beq_eq_false_iff_ne];omega
     by_cases ht119:tag=119
     ·
      subst ht119;have HP:Hid (P=p119 q rt):=qH (by rw[HP0.out];rfl);clear HP0 HE HA0 HD0 ht97 ht98 ht110;obtain⟨r2,hr2⟩:∃ r2,r2=rt:=⟨_,rfl⟩;rw[←hr2] at HP R2;clear hr2;cases hq:numP r2 1 with
      | none=>
       have HC:=qH (byte_any R2.out hs);rw[hq] at HC;have E2:=qH hq;clear hq;obtain rfl:P=none:=by
         rw[HP.out];unfold p119;rw[E2.out]
       clear HP;go_wp2_with fail;refine HC.out.mono ?_;rintro e vx ⟨ox,rfl⟩;have OX:=qH (O2.out.trans ox);clear ox;go_wp2_with fail;exact⟨rfl,OX.out,rfl⟩
      | some q=>
       obtain⟨n2,r3⟩:=q;have hn2:=numP_lt hq;have HE2:=qH (numP_len hq);have HC:=qH (byte_any R2.out hs);rw[hq] at HC;have E2:=qH hq;clear hq;go_wp2_with fail;refine HC.out.mono ?_;rintro e v3 ⟨ox,rfl,rx⟩;have O3:=qH (O2.out.trans ox);have R3:=qH rx;have X3:=qH (X2.out.only ox (by have:=NRB.out;simp;omega));clear ox rx HC;clear R2 X2;cases hq:takeL r3 n2 with
       | none=>
        have HC:=qH (take_any R3.out n2 (by omega) hs);rw[hq] at HC;have E3:=qH hq;clear hq;obtain rfl:P=none:=by
          rw[HP.out];unfold p119;rw[E2.out]
          try dsimp only
          rw[E3.out]
        clear HP;go_wp2_with fail;refine HC.out.mono ?_;rintro e vx ⟨ox,rfl⟩;have OX:=qH (O3.out.trans ox);clear ox;go_wp2_with fail;exact⟨rfl,OX.out,rfl⟩
       | some q=>
        obtain⟨a3,r4⟩:=q;have HL3:=qH (takeL_len hq);have HC:=qH (take_any R3.out n2 (by omega) hs);rw[hq] at HC;have E3:=qH hq;clear hq;go_wp2_with fail;refine HC.out.mono ?_;rintro e v4 ⟨ox,rfl,rx⟩;have O4:=qH (O3.out.trans ox);have R4:=qH rx;have X4:=qH (X3.out.only ox (by have:=NRB.out;simp;omega));clear ox rx HC;clear R3 X3;obtain rfl:P=some (.mk ⟨2,0,0,bA a3,noB,0,noB,0⟩ [],q,r4):=by
          rw[HP.out];unfold p119;rw[E2.out]
          try dsimp only
          rw[E3.out]
          try dsimp only
          try rfl
        clear HP;go_wp2_with (refine wpList_store_blk rfl 48 _ _ rfl rfl w.heap.size #[.int .i64 2,.int .i64 0,.int .i64 0,.string ⟨a3.toArray⟩,.string ⟨#[]⟩,.int .i64 0,.slice none 0 0,.string ⟨#[]⟩,.int .i64 0] _ 48 rfl rfl X4.out rfl info25 (by simp[Value.oneCell']) ?_;intro vF bF oF);have RF:=R4.out.only' oF (by have:=NRB.out;omega);have OF:=only_new O4.out oF (Nat.le_refl _);go_wp2_with fail;refine bodyPost_ret (results_blk rfl _ _ w.heap.size _ _ rfl bF Tryz.underlying48 rfl info25) rfl ⟨OF,⟨⟨2,0,0,bA a3,noB,0,noB,0⟩,.slice none 0 0⟩,rfl,TmAt.of rfl (ItsAt.nil none 0),RF,(by show p≤q;omega),(by show q≤2000;omega)⟩
     ·
      have dt119:((tag:Int)==119)=false:=by rw[beq_eq_false_iff_ne];omega
      by_cases ht104:tag=104
      ·
       subst ht104;have HP:Hid (P=p104 T q rt):=qH (by rw[HP0.out];rfl);clear HP0 HE HA0 HD0 ht97 ht98 ht110 ht119;obtain⟨r2,hr2⟩:∃ r2,r2=rt:=⟨_,rfl⟩;rw[←hr2] at HP R2;clear hr2;cases hq:numP r2 1 with
       | none=>
        have HC:=qH (byte_any R2.out hs);rw[hq] at HC;have E2:=qH hq;clear hq;obtain rfl:P=none:=by
          rw[HP.out];unfold p104;rw[E2.out]
        clear HP;go_wp2_with fail;refine HC.out.mono ?_;rintro e vx ⟨ox,rfl⟩;have OX:=qH (O2.out.trans ox);clear ox;go_wp2_with fail;exact⟨rfl,OX.out,rfl⟩
       | some q=>
        obtain⟨n2,r3⟩:=q;have hn2:=numP_lt hq;have HE2:=qH (numP_len hq);have HC:=qH (byte_any R2.out hs);rw[hq] at HC;have E2:=qH hq;clear hq;go_wp2_with fail;refine HC.out.mono ?_;rintro e v3 ⟨ox,rfl,rx⟩;have O3:=qH (O2.out.trans ox);have R3:=qH rx;have X3:=qH (X2.out.only ox (by have:=NRB.out;simp;omega));clear ox rx HC;clear R2 X2;cases hq:itemsQ T (n2) q r3 with
        | none=>
         have HC:=qH (items_any HT.out R3.out (by omega) (by omega) (n2) (by omega));rw[hq] at HC;have E3:=qH hq;clear hq;obtain rfl:P=none:=by
           rw[HP.out];unfold p104;rw[E2.out]
           try dsimp only
           rw[E3.out]
         clear HP;go_wp2_with fail;refine HC.out.mono ?_;rintro e vx ⟨ox,rfl⟩;have OX:=qH (O3.out.trans ox);clear ox;go_wp2_with fail;exact⟨rfl,OX.out,rfl⟩
        | some q=>
         obtain⟨ts,p2,r4⟩:=q;have HC:=qH (items_any HT.out R3.out (by omega) (by omega) (n2) (by omega));rw[hq] at HC;have E3:=qH hq;clear hq;go_wp2_with fail;refine HC.out.mono ?_;rintro e v4 ⟨ox,vi,rfl,it,rx,hp1,hp2⟩;dsimp only at it rx hp1 hp2;have HPP:=qH hp1;have HP2K:=qH hp2;obtain⟨_,si,ci,rfl⟩:=it.form;have O4:=qH (O3.out.trans ox);have R4:=qH rx;have IT4:=qH it;obtain⟨li,hli⟩:∃ li,li=ts.length:=⟨_,rfl⟩
         have HLI:=qH hli;rw[←hli];rw[←hli] at IT4;have HBS:Hid (w.heap.size<v3.heap.size):=qH (X3.out.lt);have X4:=qH (X3.out.only ox (by have:=NRB.out;simp;omega));clear ox rx it hli HC hp1 hp2;clear R3 X3;obtain rfl:P=some (.mk ⟨7,0,0,noB,noB,0,noB,0⟩ ts,p2,r4):=by
           rw[HP.out];unfold p104;rw[E2.out]
           try dsimp only
           rw[E3.out]
           try rfl
         clear HP;go_wp2_with (refine wpList_store_blk rfl 48 _ _ rfl rfl w.heap.size #[.int .i64 7,.int .i64 0,.int .i64 0,.string ⟨#[]⟩,.string ⟨#[]⟩,.int .i64 0,.slice si li ci,.string ⟨#[]⟩,.int .i64 0] _ 48 rfl rfl X4.out rfl info25 (by simp[Value.oneCell']) ?_;intro vF bF oF);have RF:=R4.out.only' oF (by have:=NRB.out;omega);have OF:=only_new O4.out oF (Nat.le_refl _);have IF:=IT4.out.only oF (fun b hb _=>by have:=HBS.out;simp;omega)
         go_wp2_with fail;refine bodyPost_ret (results_blk rfl _ _ w.heap.size _ _ rfl bF Tryz.underlying48 rfl info25) rfl ⟨OF,⟨⟨7,0,0,noB,noB,0,noB,0⟩,.slice si li ci⟩,rfl,TmAt.of rfl (IF.mono (S':=fun c=>w.heap.size≤c) (fun b hb _=>by have:=HBS.out;omega)),RF,(by have:=HPP.out;show p≤p2;omega),(by have:=HP2K.out;show p2≤2000;omega)⟩
      ·
       have dt104:((tag:Int)==104)=false:=by rw[beq_eq_false_iff_ne];omega
       by_cases ht106:tag=106
       ·
        subst ht106;have HP:Hid (P=p106 q rt):=qH (by rw[HP0.out];rfl);clear HP0 HE HA0 HD0 ht97 ht98 ht110 ht119 ht104;obtain⟨r2,hr2⟩:∃ r2,r2=rt:=⟨_,rfl⟩;rw[←hr2] at HP R2;clear hr2;go_wp2_with fail;refine(nil46 _).mono ?_;rintro e v3 ⟨rfl,bb⟩;have O3:=qH (O2.out.trans (Only.of_below bb));have R3:=qH (R2.out.below bb);have X3:=qH (X2.out.below bb X2.out.lt);clear bb R2 X2;obtain rfl:P=some (.mk ⟨8,0,0,noB,noB,0,noB,0⟩ [],q,r2):=by
          rw[HP.out];unfold p106
          try rfl
        clear HP;go_wp2_with (refine wpList_store_blk rfl 48 _ _ rfl rfl w.heap.size #[.int .i64 8,.int .i64 0,.int .i64 0,.string ⟨#[]⟩,.string ⟨#[]⟩,.int .i64 0,.slice none 0 0,.string ⟨#[]⟩,.int .i64 0] _ 48 rfl rfl X3.out rfl info25 (by simp[Value.oneCell']) ?_;intro vF bF oF);have RF:=R3.out.only' oF (by have:=NRB.out;omega);have OF:=only_new O3.out oF (Nat.le_refl _);go_wp2_with fail;refine bodyPost_ret (results_blk rfl _ _ w.heap.size _ _ rfl bF Tryz.underlying48 rfl info25) rfl ⟨OF,⟨⟨8,0,0,noB,noB,0,noB,0⟩,.slice none 0 0⟩,rfl,TmAt.of rfl (ItsAt.nil none 0),RF,(by show p≤q;omega),(by show q≤2000;omega)⟩
       ·
        have dt106:((tag:Int)==106)=false:=by rw[beq_eq_false_iff_ne];omega
        by_cases ht108:tag=108
        ·
         subst ht108;have HP:Hid (P=p108 T q rt):=qH (by rw[HP0.out];rfl);clear HP0 HE HA0 HD0 ht97 ht98 ht110 ht119 ht104 ht106;obtain⟨r2,hr2⟩:∃ r2,r2=rt:=⟨_,rfl⟩;rw[←hr2] at HP R2;clear hr2;cases hq:numP r2 4 with
         | none=>
          have HC:=qH (number_any R2.out 4 (by omega) (by omega) hs);rw[hq] at HC;have E2:=qH hq;clear hq;obtain rfl:P=none:=by
            rw[HP.out];unfold p108;rw[E2.out]
          clear HP;go_wp2_with fail;refine HC.out.mono ?_;rintro e vx ⟨ox,rfl⟩;have OX:=qH (O2.out.trans ox);clear ox;go_wp2_with fail;exact⟨rfl,OX.out,rfl⟩
         | some q=>
          obtain⟨n2,r3⟩:=q;have hn2:=numP_lt hq;have HE2:=qH (numP_len hq);have HC:=qH (number_any R2.out 4 (by omega) (by omega) hs);rw[hq] at HC;have E2:=qH hq;clear hq;go_wp2_with fail;refine HC.out.mono ?_;rintro e v3 ⟨ox,rfl,rx⟩;have O3:=qH (O2.out.trans ox);have R3:=qH rx;have X3:=qH (X2.out.only ox (by have:=NRB.out;simp;omega));clear ox rx HC;clear R2 X2;obtain⟨k,hk⟩:∃ k,k=n2+1:=⟨_,rfl⟩;have HKK:=qH hk
          have hk9:k≤8589934592:=by omega
          have wk:IntKind.i64.wrap ((n2:Int)+1)=(k:Int):=by rw[IntKind.wrap_i64];omega
          clear hk;cases hq:itemsQ T (k) q r3 with
          | none=>
           have HC:=qH (items_any HT.out R3.out (by omega) (by omega) (k) (by omega));rw[hq] at HC;have E3:=qH hq;clear hq;obtain rfl:P=none:=by
             rw[HP.out];unfold p108;rw[E2.out]
             try dsimp only
             rw[←HKK.out];rw[E3.out]
           clear HP;go_wp2_with fail;refine HC.out.mono ?_;rintro e vx ⟨ox,rfl⟩;have OX:=qH (O3.out.trans ox);clear ox;go_wp2_with fail;exact⟨rfl,OX.out,rfl⟩
          | some q=>
           obtain⟨ts,p2,r4⟩:=q;have HC:=qH (items_any HT.out R3.out (by omega) (by omega) (k) (by omega));rw[hq] at HC;have E3:=qH hq;clear hq;go_wp2_with fail;refine HC.out.mono ?_;rintro e v4 ⟨ox,vi,rfl,it,rx,hp1,hp2⟩;dsimp only at it rx hp1 hp2;have HPP:=qH hp1;have HP2K:=qH hp2;obtain⟨_,si,ci,rfl⟩:=it.form;have O4:=qH (O3.out.trans ox);have R4:=qH rx;have IT4:=qH it;obtain⟨li,hli⟩:∃ li,li=ts.length:=⟨_,rfl⟩
           have HLI:=qH hli;rw[←hli];rw[←hli] at IT4;have HBS:Hid (w.heap.size<v3.heap.size):=qH (X3.out.lt);have X4:=qH (X3.out.only ox (by have:=NRB.out;simp;omega));clear ox rx it hli HC hp1 hp2;clear R3 X3;obtain rfl:P=some (.mk ⟨9,0,0,noB,noB,0,noB,0⟩ ts,p2,r4):=by
             rw[HP.out];unfold p108;rw[E2.out]
             try dsimp only
             rw[←HKK.out];rw[E3.out]
             try rfl
           clear HP;go_wp2_with (refine wpList_store_blk rfl 48 _ _ rfl rfl w.heap.size #[.int .i64 9,.int .i64 0,.int .i64 0,.string ⟨#[]⟩,.string ⟨#[]⟩,.int .i64 0,.slice si li ci,.string ⟨#[]⟩,.int .i64 0] _ 48 rfl rfl X4.out rfl info25 (by simp[Value.oneCell']) ?_;intro vF bF oF);have RF:=R4.out.only' oF (by have:=NRB.out;omega);have OF:=only_new O4.out oF (Nat.le_refl _);have IF:=IT4.out.only oF (fun b hb _=>by have:=HBS.out;simp;omega)
           go_wp2_with fail;refine bodyPost_ret (results_blk rfl _ _ w.heap.size _ _ rfl bF Tryz.underlying48 rfl info25) rfl ⟨OF,⟨⟨9,0,0,noB,noB,0,noB,0⟩,.slice si li ci⟩,rfl,TmAt.of rfl (IF.mono (S':=fun c=>w.heap.size≤c) (fun b hb _=>by have:=HBS.out;omega)),RF,(by have:=HPP.out;show p≤p2;omega),(by have:=HP2K.out;show p2≤2000;omega)⟩
        ·
         have dt108:((tag:Int)==108)=false:=by rw[beq_eq_false_iff_ne];omega
         by_cases ht109:tag=109
         ·
          subst ht109;have HP:Hid (P=p109 q rt):=qH (by rw[HP0.out];rfl);clear HP0 HE HA0 HD0 ht97 ht98 ht110 ht119 ht104 ht106 ht108;obtain⟨r2,hr2⟩:∃ r2,r2=rt:=⟨_,rfl⟩;rw[←hr2] at HP R2;clear hr2;cases hq:numP r2 4 with
          | none=>
           have HC:=qH (number_any R2.out 4 (by omega) (by omega) hs);rw[hq] at HC;have E2:=qH hq;clear hq;obtain rfl:P=none:=by
             rw[HP.out];unfold p109;rw[E2.out]
           clear HP;go_wp2_with fail;refine HC.out.mono ?_;rintro e vx ⟨ox,rfl⟩;have OX:=qH (O2.out.trans ox);clear ox;go_wp2_with fail;exact⟨rfl,OX.out,rfl⟩
          | some q=>
           obtain⟨n2,r3⟩:=q;have hn2:=numP_lt hq;have HE2:=qH (numP_len hq);have HC:=qH (number_any R2.out 4 (by omega) (by omega) hs);rw[hq] at HC;have E2:=qH hq;clear hq;go_wp2_with fail;refine HC.out.mono ?_;rintro e v3 ⟨ox,rfl,rx⟩;have O3:=qH (O2.out.trans ox);have R3:=qH rx;have X3:=qH (X2.out.only ox (by have:=NRB.out;simp;omega));clear ox rx HC;clear R2 X2;cases hq:takeL r3 n2 with
           | none=>
            have HC:=qH (take_any R3.out n2 (by omega) hs);rw[hq] at HC;have E3:=qH hq;clear hq;obtain rfl:P=none:=by
              rw[HP.out];unfold p109;rw[E2.out]
              try dsimp only
              rw[E3.out]
            clear HP;go_wp2_with fail;refine HC.out.mono ?_;rintro e vx ⟨ox,rfl⟩;have OX:=qH (O3.out.trans ox);clear ox;go_wp2_with fail;exact⟨rfl,OX.out,rfl⟩
           | some q=>
            obtain⟨a3,r4⟩:=q;have HL3:=qH (takeL_len hq);have HC:=qH (take_any R3.out n2 (by omega) hs);rw[hq] at HC;have E3:=qH hq;clear hq;go_wp2_with fail;refine HC.out.mono ?_;rintro e v4 ⟨ox,rfl,rx⟩;have O4:=qH (O3.out.trans ox);have R4:=qH rx;have X4:=qH (X3.out.only ox (by have:=NRB.out;simp;omega));clear ox rx HC;clear R3 X3;have hsz:=HL3.out.1;have wl:(a3.length:Int)=(n2:Int):=by rw[hsz]
            have w8:IntKind.i64.wrap (8*(n2:Int))=8*(n2:Int):=by rw[IntKind.wrap_i64];omega
            clear hsz;have HW:Hid (8*(a3.length:Int)=8*(n2:Int)):=qH (by rw[HL3.out.1]);obtain rfl:P=some (.mk ⟨10,0,0,noB,noB,0,bA a3,8*(n2:Int)⟩ [],q,r4):=by
              rw[HP.out];unfold p109;rw[E2.out]
              try dsimp only
              rw[E3.out]
              try dsimp only
              rw[HW.out]
              try rfl
            clear HP;go_wp2_with (refine wpList_store_blk rfl 48 _ _ rfl rfl w.heap.size #[.int .i64 10,.int .i64 0,.int .i64 0,.string ⟨#[]⟩,.string ⟨#[]⟩,.int .i64 0,.slice none 0 0,.string ⟨a3.toArray⟩,.int .i64 (8*(n2:Int))] _ 48 rfl rfl X4.out rfl info25 (by simp[Value.oneCell']) ?_;intro vF bF oF);have RF:=R4.out.only' oF (by have:=NRB.out;omega);have OF:=only_new O4.out oF (Nat.le_refl _);go_wp2_with fail
            refine bodyPost_ret (results_blk rfl _ _ w.heap.size _ _ rfl bF Tryz.underlying48 rfl info25) rfl ⟨OF,⟨⟨10,0,0,noB,noB,0,bA a3,8*(n2:Int)⟩,.slice none 0 0⟩,rfl,TmAt.of rfl (ItsAt.nil none 0),RF,(by show p≤q;omega),(by show q≤2000;omega)⟩
         ·
          have dt109:((tag:Int)==109)=false:=by rw[beq_eq_false_iff_ne];omega
          by_cases ht77:tag=77
          ·
           subst ht77;have HP:Hid (P=p77 q rt):=qH (by rw[HP0.out];rfl);clear HP0 HE HA0 HD0 ht97 ht98 ht110 ht119 ht104 ht106 ht108 ht109;obtain⟨r2,hr2⟩:∃ r2,r2=rt:=⟨_,rfl⟩;rw[←hr2] at HP R2;clear hr2;cases hq:numP r2 4 with
           | none=>
            have HC:=qH (number_any R2.out 4 (by omega) (by omega) hs);rw[hq] at HC;have E2:=qH hq;clear hq;obtain rfl:P=none:=by
              rw[HP.out];unfold p77;rw[E2.out]
            clear HP;go_wp2_with fail;refine HC.out.mono ?_;rintro e vx ⟨ox,rfl⟩;have OX:=qH (O2.out.trans ox);clear ox;go_wp2_with fail;exact⟨rfl,OX.out,rfl⟩
           | some q=>
            obtain⟨n2,r3⟩:=q;have hn2:=numP_lt hq;have HE2:=qH (numP_len hq);have HC:=qH (number_any R2.out 4 (by omega) (by omega) hs);rw[hq] at HC;have E2:=qH hq;clear hq;go_wp2_with fail;refine HC.out.mono ?_;rintro e v3 ⟨ox,rfl,rx⟩;have O3:=qH (O2.out.trans ox);have R3:=qH rx;have X3:=qH (X2.out.only ox (by have:=NRB.out;simp;omega));clear ox rx HC;clear R2 X2;cases hq:numP r3 1 with
            | none=>
             have HC:=qH (byte_any R3.out hs);rw[hq] at HC;have E3:=qH hq;clear hq;obtain rfl:P=none:=by
               rw[HP.out];unfold p77;rw[E2.out]
               try dsimp only
               rw[E3.out]
             clear HP;go_wp2_with fail;refine HC.out.mono ?_;rintro e vx ⟨ox,rfl⟩;have OX:=qH (O3.out.trans ox);clear ox;go_wp2_with fail;exact⟨rfl,OX.out,rfl⟩
            | some q=>
             obtain⟨n3,r4⟩:=q;have hn3:=numP_lt hq;have HE3:=qH (numP_len hq);have HC:=qH (byte_any R3.out hs);rw[hq] at HC;have E3:=qH hq;clear hq;go_wp2_with fail;refine HC.out.mono ?_;rintro e v4 ⟨ox,rfl,rx⟩;have O4:=qH (O3.out.trans ox);have R4:=qH rx;have X4:=qH (X3.out.only ox (by have:=NRB.out;simp;omega));clear ox rx HC;clear R3 X3
             by_cases hc:0<n2∧0<n3∧n3<8
             ·
              have K4:=qH hc;obtain⟨h1,h2,h3⟩:=hc;have d1:decide ((0:Int)<n2)=true:=decide_eq_true (by omega);have d2:decide ((0:Int)<n3)=true:=decide_eq_true (by omega);have d3:decide ((n3:Int)<8)=true:=decide_eq_true (by omega);have d1n:decide (0<n2)=true:=decide_eq_true h1;have d2n:decide (0<n3)=true:=decide_eq_true h2;have hc:=h3;clear hc;go_wp2_with fail;refine(demand_any _ true _).mono ?_;rintro e vy ⟨rfl,rfl⟩
              cases hq:takeL r4 n2 with
              | none=>
               have HC:=qH (take_any R4.out n2 (by omega) hs);rw[hq] at HC;have E4:=qH hq;clear hq;obtain rfl:P=none:=by
                 rw[HP.out];unfold p77;rw[E2.out]
                 try dsimp only
                 rw[E3.out]
                 try dsimp only
                 rw[if_pos K4.out];rw[E4.out]
               clear HP;go_wp2_with fail;refine HC.out.mono ?_;rintro e vx ⟨ox,rfl⟩;have OX:=qH (O4.out.trans ox);clear ox;go_wp2_with fail;exact⟨rfl,OX.out,rfl⟩
              | some q=>
               obtain⟨a4,r5⟩:=q;have HL4:=qH (takeL_len hq);have HC:=qH (take_any R4.out n2 (by omega) hs);rw[hq] at HC;have E4:=qH hq;clear hq;go_wp2_with fail;refine HC.out.mono ?_;rintro e v5 ⟨ox,rfl,rx⟩;have O5:=qH (O4.out.trans ox);have R5:=qH rx;have X5:=qH (X4.out.only ox (by have:=NRB.out;simp;omega));clear ox rx HC;clear R4 X4;have w7:IntKind.i64.wrap ((n2:Int)-1)=(n2:Int)-1:=by rw[IntKind.wrap_i64];omega
               have w8:IntKind.i64.wrap (8*((n2:Int)-1))=8*((n2:Int)-1):=by rw[IntKind.wrap_i64];omega
               have w9:IntKind.i64.wrap (8*((n2:Int)-1)+(n3:Int))=8*((n2:Int)-1)+(n3:Int):=by rw[IntKind.wrap_i64];omega
               obtain rfl:P=some (.mk ⟨10,0,0,noB,noB,0,bA a4,8*((n2:Int)-1)+(n3:Int)⟩ [],q,r5):=by
                 rw[HP.out];unfold p77;rw[E2.out]
                 try dsimp only
                 rw[E3.out]
                 try dsimp only
                 rw[if_pos K4.out];rw[E4.out]
                 try dsimp only
                 try rfl
               clear HP;go_wp2_with (refine wpList_store_blk rfl 48 _ _ rfl rfl w.heap.size #[.int .i64 10,.int .i64 0,.int .i64 0,.string ⟨#[]⟩,.string ⟨#[]⟩,.int .i64 0,.slice none 0 0,.string ⟨a4.toArray⟩,.int .i64 (8*((n2:Int)-1)+(n3:Int))] _ 48 rfl rfl X5.out rfl info25 (by simp[Value.oneCell']) ?_;intro vF bF oF);have RF:=R5.out.only' oF (by have:=NRB.out;omega);have OF:=only_new O5.out oF (Nat.le_refl _)
               go_wp2_with fail;refine bodyPost_ret (results_blk rfl _ _ w.heap.size _ _ rfl bF Tryz.underlying48 rfl info25) rfl ⟨OF,⟨⟨10,0,0,noB,noB,0,bA a4,8*((n2:Int)-1)+(n3:Int)⟩,.slice none 0 0⟩,rfl,TmAt.of rfl (ItsAt.nil none 0),RF,(by show p≤q;omega),(by show q≤2000;omega)⟩
             ·
              have K4:=qH hc;obtain rfl:P=none:=by
                rw[HP.out];unfold p77;rw[E2.out]
                try dsimp only
                rw[E3.out]
                try dsimp only
                rw[if_neg K4.out]
              clear HP
              by_cases h1:0<n2
              ·
               by_cases h2:0<n3
               ·
                have h3:¬n3<8:=fun h=>hc ⟨h1,h2,h⟩
                have d1:decide ((0:Int)<n2)=true:=decide_eq_true (by omega);have d2:decide ((0:Int)<n3)=true:=decide_eq_true (by omega);have d3:decide ((n3:Int)<8)=false:=decide_eq_false (by omega);have d1n:decide (0<n2)=true:=decide_eq_true h1;have d2n:decide (0<n3)=true:=decide_eq_true h2;clear hc;go_wp2_with fail;refine(demand_any _ false _).mono ?_;rintro e vy ⟨rfl,rfl⟩;go_wp2_with fail;exact⟨rfl,O4.out,rfl⟩
               ·
                have d1:decide ((0:Int)<n2)=true:=decide_eq_true (by omega);have d2:decide ((0:Int)<n3)=false:=decide_eq_false (by omega);have d1n:decide (0<n2)=true:=decide_eq_true h1;have d2n:decide (0<n3)=false:=decide_eq_false h2;clear hc;go_wp2_with fail;refine(demand_any _ false _).mono ?_;rintro e vy ⟨rfl,rfl⟩;go_wp2_with fail;exact⟨rfl,O4.out,rfl⟩
              ·
               have d1:decide ((0:Int)<n2)=false:=decide_eq_false (by omega);have d1n:decide (0<n2)=false:=decide_eq_false h1;clear hc;go_wp2_with fail;refine(demand_any _ false _).mono ?_;rintro e vy ⟨rfl,rfl⟩;go_wp2_with fail;exact⟨rfl,O4.out,rfl⟩
          ·
           have dt77:((tag:Int)==77)=false:=by rw[beq_eq_false_iff_ne];omega
           by_cases ht88:tag=88
           ·
            subst ht88;have HP:Hid (P=p88 q rt):=qH (by rw[HP0.out];rfl);clear HP0 HE HA0 HD0 ht97 ht98 ht110 ht119 ht104 ht106 ht108 ht109 ht77;obtain⟨r2,hr2⟩:∃ r2,r2=rt:=⟨_,rfl⟩;rw[←hr2] at HP R2;clear hr2;cases hq:nameP r2 with
            | none=>
             have HC:=qH (rname_any R2.out hs);rw[hq] at HC;have E2:=qH hq;clear hq;obtain rfl:P=none:=by
               rw[HP.out];unfold p88;rw[E2.out]
             clear HP;go_wp2_with fail;refine HC.out.mono ?_;rintro e vx ⟨ox,rfl⟩;have OX:=qH (O2.out.trans ox);clear ox;go_wp2_with fail;exact⟨rfl,OX.out,rfl⟩
            | some q=>
             obtain⟨a2,r3⟩:=q;have HC:=qH (rname_any R2.out hs);rw[hq] at HC;have E2:=qH hq;clear hq;go_wp2_with fail;refine HC.out.mono ?_;rintro e v3 ⟨ox,rfl,rx⟩;have O3:=qH (O2.out.trans ox);have R3:=qH rx;have X3:=qH (X2.out.only ox (by have:=NRB.out;simp;omega));clear ox rx HC;clear R2 X2;cases hq:numP r3 4 with
             | none=>
              have HC:=qH (number_any R3.out 4 (by omega) (by omega) hs);rw[hq] at HC;have E3:=qH hq;clear hq;obtain rfl:P=none:=by
                rw[HP.out];unfold p88;rw[E2.out]
                try dsimp only
                rw[E3.out]
              clear HP;go_wp2_with fail;refine HC.out.mono ?_;rintro e vx ⟨ox,rfl⟩;have OX:=qH (O3.out.trans ox);clear ox;go_wp2_with fail;exact⟨rfl,OX.out,rfl⟩
             | some q=>
              obtain⟨n3,r4⟩:=q;have hn3:=numP_lt hq;have HE3:=qH (numP_len hq);have HC:=qH (number_any R3.out 4 (by omega) (by omega) hs);rw[hq] at HC;have E3:=qH hq;clear hq;go_wp2_with fail;refine HC.out.mono ?_;rintro e v4 ⟨ox,rfl,rx⟩;have O4:=qH (O3.out.trans ox);have R4:=qH rx;have X4:=qH (X3.out.only ox (by have:=NRB.out;simp;omega));clear ox rx HC;clear R3 X3;have T5:=qH (Blk.new v4 48 #[.int .i64 6,.int .i64 (n3:Int),.int .i64 0,.string ⟨a2.toArray⟩,.string ⟨#[]⟩,.int .i64 0,.slice none 0 0,.string ⟨#[]⟩,.int .i64 0])
              have HG:Hid (w.heap.size<v4.heap.size):=qH X4.out.lt;have O5:=qH (O4.out.trans (Only.alloc [rb] v4 (.cells #[.int .i64 6,.int .i64 (n3:Int),.int .i64 0,.string ⟨a2.toArray⟩,.string ⟨#[]⟩,.int .i64 0,.slice none 0 0,.string ⟨#[]⟩,.int .i64 0] 48)));have R5:=qH (R4.out.below ((Below.refl _ _).alloc (Nat.le_refl _) (.cells #[.int .i64 6,.int .i64 (n3:Int),.int .i64 0,.string ⟨a2.toArray⟩,.string ⟨#[]⟩,.int .i64 0,.slice none 0 0,.string ⟨#[]⟩,.int .i64 0] 48)))
              have X5:=qH (X4.out.alloc (.cells #[.int .i64 6,.int .i64 (n3:Int),.int .i64 0,.string ⟨a2.toArray⟩,.string ⟨#[]⟩,.int .i64 0,.slice none 0 0,.string ⟨#[]⟩,.int .i64 0] 48));clear R4 X4;go_upto_region 29 with fail
              generalize (v4.alloc (.cells #[.int .i64 6,.int .i64 (n3:Int),.int .i64 0,.string ⟨a2.toArray⟩,.string ⟨#[]⟩,.int .i64 0,.slice none 0 0,.string ⟨#[]⟩,.int .i64 0] 48))=v5 at T5 O5 R5 X5 ⊢;generalize v4.heap.size=gT at T5 HG ⊢;cases hq:numP r4 4 with
              | none=>
               have HC:=qH (number_any R5.out 4 (by omega) (by omega) hs);rw[hq] at HC;have E5:=qH hq;clear hq;obtain rfl:P=none:=by
                 rw[HP.out];unfold p88;rw[E2.out]
                 try dsimp only
                 rw[E3.out]
                 try dsimp only
                 rw[E5.out]
               clear HP;go_wp2_with fail;refine HC.out.mono ?_;rintro e vx ⟨ox,rfl⟩;have OX:=qH (O5.out.trans ox);clear ox;go_wp2_with fail;exact⟨rfl,OX.out,rfl⟩
              | some q=>
               obtain⟨n5,r5⟩:=q;have hn5:=numP_lt hq;have HE5:=qH (numP_len hq);have HC:=qH (number_any R5.out 4 (by omega) (by omega) hs);rw[hq] at HC;have E5:=qH hq;clear hq;go_wp2_with fail;refine HC.out.mono ?_;rintro e v6 ⟨ox,rfl,rx⟩;have O6:=qH (O5.out.trans ox);have R6:=qH rx;have X6:=qH (X5.out.only ox (by have:=NRB.out;simp;omega));have T6:=qH (T5.out.only ox (by have:=NRB.out;have:=HG.out;simp;omega))
               clear ox rx HC;clear R5 X5 T5
               by_cases hc:n5=0
               ·
                have K6:=qH hc;have d1:((n5:Int)==0)=true:=by rw[hc];rfl
                clear hc;go_wp2_with fail;refine(demand_any _ true _).mono ?_;rintro e vy ⟨rfl,rfl⟩;cases hq:numP r5 4 with
                | none=>
                 have HC:=qH (number_any R6.out 4 (by omega) (by omega) hs);rw[hq] at HC;have E6:=qH hq;clear hq;obtain rfl:P=none:=by
                   rw[HP.out];unfold p88;rw[E2.out]
                   try dsimp only
                   rw[E3.out]
                   try dsimp only
                   rw[E5.out]
                   try dsimp only
                   rw[if_pos K6.out];rw[E6.out]
                 clear HP;go_wp2_with fail;refine HC.out.mono ?_;rintro e vx ⟨ox,rfl⟩;have OX:=qH (O6.out.trans ox);clear ox;go_wp2_with fail;exact⟨rfl,OX.out,rfl⟩
                | some q=>
                 obtain⟨n6,r6⟩:=q;have hn6:=numP_lt hq;have HE6:=qH (numP_len hq);have HC:=qH (number_any R6.out 4 (by omega) (by omega) hs);rw[hq] at HC;have E6:=qH hq;clear hq;go_wp2_with fail;refine HC.out.mono ?_;rintro e v7 ⟨ox,rfl,rx⟩;have O7:=qH (O6.out.trans ox);have R7:=qH rx;have X7:=qH (X6.out.only ox (by have:=NRB.out;simp;omega));have T7:=qH (T6.out.only ox (by have:=NRB.out;have:=HG.out;simp;omega))
                 clear ox rx HC;clear R6 X6 T6;go_wp2_with (refine wpList_store_fld rfl 2 _ _ rfl rfl gT 2 _ 48 (.int .i64 (n6:Int)) rfl rfl T7.out (Nat.le_of_ble_eq_true rfl) (by kernel_rfl) rfl ?_);intro v8 ev;have T8:=qH (show Blk v8 gT 48 #[.int .i64 6,.int .i64 (n3:Int),.int .i64 (n6:Int),.string ⟨a2.toArray⟩,.string ⟨#[]⟩,.int .i64 0,.slice none 0 0,.string ⟨#[]⟩,.int .i64 0] by rw[ev];exact T7.out.set_ 2 _)
                 have X8:=qH (X7.out.only (bs:=[gT]) (show Only [gT] v7 v8 by rw[ev];exact Only.setCell _ ⟨gT,2,none⟩ _ (by simp)) (by have:=HG.out;simp;omega));have R8:=qH (R7.out.same (show v8.heap[rb]? = v7.heap[rb]? by rw[ev];exact Below.heap_setCell _ _ _ _ (by have:=NRB.out;have:=HG.out;show rb≠gT;omega)));have O8:=qH (show Only [rb] w v8 by rw[ev];exact only_set_new O7.out (by have:=HG.out;omega) _ _)
                 clear ev;clear R7 X7 T7;obtain rfl:P=some (.mk ⟨6,n3,n6,bA a2,noB,0,noB,0⟩ [],q,r6):=by
                   rw[HP.out];unfold p88;rw[E2.out]
                   try dsimp only
                   rw[E3.out]
                   try dsimp only
                   rw[E5.out]
                   try dsimp only
                   rw[if_pos K6.out];rw[E6.out]
                   try dsimp only
                   try rfl
                 clear HP;go_wp2_with (first
                  | (refine wpList_load_blk rfl 48 _ rfl gT rfl _ 48 _ T8.out Tryz.underlying48 rfl info25 ?_)
                  | (refine wpList_store_blk rfl 48 _ _ rfl rfl w.heap.size #[.int .i64 6,.int .i64 (n3:Int),.int .i64 (n6:Int),.string ⟨a2.toArray⟩,.string ⟨#[]⟩,.int .i64 0,.slice none 0 0,.string ⟨#[]⟩,.int .i64 0] _ 48 rfl rfl X8.out rfl info25 (by simp[Value.oneCell']) ?_;intro vF bF oF))
                 have RF:=R8.out.only' oF (by have:=NRB.out;omega);have OF:=only_new O8.out oF (Nat.le_refl _);go_wp2_with fail;refine bodyPost_ret (results_blk rfl _ _ w.heap.size _ _ rfl bF Tryz.underlying48 rfl info25) rfl ⟨OF,⟨⟨6,n3,n6,bA a2,noB,0,noB,0⟩,.slice none 0 0⟩,rfl,TmAt.of rfl (ItsAt.nil none 0),RF,(by show p≤q;omega),(by show q≤2000;omega)⟩
               ·
                have K6:=qH hc;obtain rfl:P=none:=by
                  rw[HP.out];unfold p88;rw[E2.out]
                  try dsimp only
                  rw[E3.out]
                  try dsimp only
                  rw[E5.out]
                  try dsimp only
                  rw[if_neg K6.out]
                clear HP;have d1:((n5:Int)==0)=false:=by rw[beq_eq_false_iff_ne];omega
                clear hc;go_wp2_with fail;refine(demand_any _ false _).mono ?_;rintro e vy ⟨rfl,rfl⟩;go_wp2_with fail;exact⟨rfl,O6.out,rfl⟩
           ·
            have dt88:((tag:Int)==88)=false:=by rw[beq_eq_false_iff_ne];omega
            by_cases ht90:tag=90
            ·
             subst ht90;have HP:Hid (P=p90 q rt):=qH (by rw[HP0.out];rfl);clear HP0 HE HA0 HD0 ht97 ht98 ht110 ht119 ht104 ht106 ht108 ht109 ht77 ht88;obtain⟨r2,hr2⟩:∃ r2,r2=rt:=⟨_,rfl⟩;rw[←hr2] at HP R2;clear hr2;cases hq:numP r2 2 with
             | none=>
              have HC:=qH (number_any R2.out 2 (by omega) (by omega) hs);rw[hq] at HC;have E2:=qH hq;clear hq;obtain rfl:P=none:=by
                rw[HP.out];unfold p90;rw[E2.out]
              clear HP;go_wp2_with fail;refine HC.out.mono ?_;rintro e vx ⟨ox,rfl⟩;have OX:=qH (O2.out.trans ox);clear ox;go_wp2_with fail;exact⟨rfl,OX.out,rfl⟩
             | some q=>
              obtain⟨n2,r3⟩:=q;have hn2:=numP_lt hq;have HE2:=qH (numP_len hq);have HC:=qH (number_any R2.out 2 (by omega) (by omega) hs);rw[hq] at HC;have E2:=qH hq;clear hq;go_wp2_with fail;refine HC.out.mono ?_;rintro e v3 ⟨ox,rfl,rx⟩;have O3:=qH (O2.out.trans ox);have R3:=qH rx;have X3:=qH (X2.out.only ox (by have:=NRB.out;simp;omega));clear ox rx HC;clear R2 X2
              by_cases hc:n2=1
              ·
               have K3:=qH hc;have d1:((n2:Int)==1)=true:=by rw[hc];rfl
               clear hc;go_wp2_with fail;refine(demand_any _ true _).mono ?_;rintro e vy ⟨rfl,rfl⟩;cases hq:nameP r3 with
               | none=>
                have HC:=qH (rname_any R3.out hs);rw[hq] at HC;have E3:=qH hq;clear hq;obtain rfl:P=none:=by
                  rw[HP.out];unfold p90;rw[E2.out]
                  try dsimp only
                  rw[if_pos K3.out];rw[E3.out]
                clear HP;go_wp2_with fail;refine HC.out.mono ?_;rintro e vx ⟨ox,rfl⟩;have OX:=qH (O3.out.trans ox);clear ox;go_wp2_with fail;exact⟨rfl,OX.out,rfl⟩
               | some q=>
                obtain⟨a3,r4⟩:=q;have HC:=qH (rname_any R3.out hs);rw[hq] at HC;have E3:=qH hq;clear hq;go_wp2_with fail;refine HC.out.mono ?_;rintro e v4 ⟨ox,rfl,rx⟩;have O4:=qH (O3.out.trans ox);have R4:=qH rx;have X4:=qH (X3.out.only ox (by have:=NRB.out;simp;omega));clear ox rx HC;clear R3 X3;cases hq:numP r4 4 with
                | none=>
                 have HC:=qH (number_any R4.out 4 (by omega) (by omega) hs);rw[hq] at HC;have E4:=qH hq;clear hq;obtain rfl:P=none:=by
                   rw[HP.out];unfold p90;rw[E2.out]
                   try dsimp only
                   rw[if_pos K3.out];rw[E3.out]
                   try dsimp only
                   rw[E4.out]
                 clear HP;go_wp2_with fail;refine HC.out.mono ?_;rintro e vx ⟨ox,rfl⟩;have OX:=qH (O4.out.trans ox);clear ox;go_wp2_with fail;exact⟨rfl,OX.out,rfl⟩
                | some q=>
                 obtain⟨n4,r5⟩:=q;have hn4:=numP_lt hq;have HE4:=qH (numP_len hq);have HC:=qH (number_any R4.out 4 (by omega) (by omega) hs);rw[hq] at HC;have E4:=qH hq;clear hq;go_wp2_with fail;refine HC.out.mono ?_;rintro e v5 ⟨ox,rfl,rx⟩;have O5:=qH (O4.out.trans ox);have R5:=qH rx;have X5:=qH (X4.out.only ox (by have:=NRB.out;simp;omega));clear ox rx HC;clear R4 X4;have T6:=qH (Blk.new v5 48 #[.int .i64 3,.int .i64 0,.int .i64 (n4:Int),.string ⟨a3.toArray⟩,.string ⟨#[]⟩,.int .i64 0,.slice none 0 0,.string ⟨#[]⟩,.int .i64 0])
                 have HG:Hid (w.heap.size<v5.heap.size):=qH X5.out.lt;have O6:=qH (O5.out.trans (Only.alloc [rb] v5 (.cells #[.int .i64 3,.int .i64 0,.int .i64 (n4:Int),.string ⟨a3.toArray⟩,.string ⟨#[]⟩,.int .i64 0,.slice none 0 0,.string ⟨#[]⟩,.int .i64 0] 48)));have R6:=qH (R5.out.below ((Below.refl _ _).alloc (Nat.le_refl _) (.cells #[.int .i64 3,.int .i64 0,.int .i64 (n4:Int),.string ⟨a3.toArray⟩,.string ⟨#[]⟩,.int .i64 0,.slice none 0 0,.string ⟨#[]⟩,.int .i64 0] 48)))
                 have X6:=qH (X5.out.alloc (.cells #[.int .i64 3,.int .i64 0,.int .i64 (n4:Int),.string ⟨a3.toArray⟩,.string ⟨#[]⟩,.int .i64 0,.slice none 0 0,.string ⟨#[]⟩,.int .i64 0] 48));clear R5 X5;go_upto_region 35 with fail
                 generalize (v5.alloc (.cells #[.int .i64 3,.int .i64 0,.int .i64 (n4:Int),.string ⟨a3.toArray⟩,.string ⟨#[]⟩,.int .i64 0,.slice none 0 0,.string ⟨#[]⟩,.int .i64 0] 48))=v6 at T6 O6 R6 X6 ⊢;generalize v5.heap.size=gT at T6 HG ⊢;cases hq:numP r5 4 with
                 | none=>
                  have HC:=qH (number_any R6.out 4 (by omega) (by omega) hs);rw[hq] at HC;have E6:=qH hq;clear hq;obtain rfl:P=none:=by
                    rw[HP.out];unfold p90;rw[E2.out]
                    try dsimp only
                    rw[if_pos K3.out];rw[E3.out]
                    try dsimp only
                    rw[E4.out]
                    try dsimp only
                    rw[E6.out]
                  clear HP;go_wp2_with fail;refine HC.out.mono ?_;rintro e vx ⟨ox,rfl⟩;have OX:=qH (O6.out.trans ox);clear ox;go_wp2_with fail;exact⟨rfl,OX.out,rfl⟩
                 | some q=>
                  obtain⟨n6,r6⟩:=q;have hn6:=numP_lt hq;have HE6:=qH (numP_len hq);have HC:=qH (number_any R6.out 4 (by omega) (by omega) hs);rw[hq] at HC;have E6:=qH hq;clear hq;go_wp2_with fail;refine HC.out.mono ?_;rintro e v7 ⟨ox,rfl,rx⟩;have O7:=qH (O6.out.trans ox);have R7:=qH rx;have X7:=qH (X6.out.only ox (by have:=NRB.out;simp;omega));have T7:=qH (T6.out.only ox (by have:=NRB.out;have:=HG.out;simp;omega))
                  clear ox rx HC;clear R6 X6 T6;go_wp2_with (refine wpList_store_fld rfl 2 _ _ rfl rfl gT 1 _ 48 (.int .i64 (n6:Int)) rfl rfl T7.out (Nat.le_of_ble_eq_true rfl) (by kernel_rfl) rfl ?_);intro v8 ev;have T8:=qH (show Blk v8 gT 48 #[.int .i64 3,.int .i64 (n6:Int),.int .i64 (n4:Int),.string ⟨a3.toArray⟩,.string ⟨#[]⟩,.int .i64 0,.slice none 0 0,.string ⟨#[]⟩,.int .i64 0] by rw[ev];exact T7.out.set_ 1 _)
                  have X8:=qH (X7.out.only (bs:=[gT]) (show Only [gT] v7 v8 by rw[ev];exact Only.setCell _ ⟨gT,1,none⟩ _ (by simp)) (by have:=HG.out;simp;omega));have R8:=qH (R7.out.same (show v8.heap[rb]? = v7.heap[rb]? by rw[ev];exact Below.heap_setCell _ _ _ _ (by have:=NRB.out;have:=HG.out;show rb≠gT;omega)));have O8:=qH (show Only [rb] w v8 by rw[ev];exact only_set_new O7.out (by have:=HG.out;omega) _ _)
                  clear ev;clear R7 X7 T7;obtain rfl:P=some (.mk ⟨3,n6,n4,bA a3,noB,0,noB,0⟩ [],q,r6):=by
                    rw[HP.out];unfold p90;rw[E2.out]
                    try dsimp only
                    rw[if_pos K3.out];rw[E3.out]
                    try dsimp only
                    rw[E4.out]
                    try dsimp only
                    rw[E6.out]
                    try dsimp only
                    try rfl
                  clear HP;go_wp2_with (first
                   | (refine wpList_load_blk rfl 48 _ rfl gT rfl _ 48 _ T8.out Tryz.underlying48 rfl info25 ?_)
                   | (refine wpList_store_blk rfl 48 _ _ rfl rfl w.heap.size #[.int .i64 3,.int .i64 (n6:Int),.int .i64 (n4:Int),.string ⟨a3.toArray⟩,.string ⟨#[]⟩,.int .i64 0,.slice none 0 0,.string ⟨#[]⟩,.int .i64 0] _ 48 rfl rfl X8.out rfl info25 (by simp[Value.oneCell']) ?_;intro vF bF oF))
                  have RF:=R8.out.only' oF (by have:=NRB.out;omega);have OF:=only_new O8.out oF (Nat.le_refl _);go_wp2_with fail;refine bodyPost_ret (results_blk rfl _ _ w.heap.size _ _ rfl bF Tryz.underlying48 rfl info25) rfl ⟨OF,⟨⟨3,n6,n4,bA a3,noB,0,noB,0⟩,.slice none 0 0⟩,rfl,TmAt.of rfl (ItsAt.nil none 0),RF,(by show p≤q;omega),(by show q≤2000;omega)⟩
              ·
               have K3:=qH hc;obtain rfl:P=none:=by
                 rw[HP.out];unfold p90;rw[E2.out]
                 try dsimp only
                 rw[if_neg K3.out]
               clear HP;have d1:((n2:Int)==1)=false:=by rw[beq_eq_false_iff_ne];omega
               clear hc;go_wp2_with fail;refine(demand_any _ false _).mono ?_;rintro e vy ⟨rfl,rfl⟩;go_wp2_with fail;exact⟨rfl,O3.out,rfl⟩
            ·
             have dt90:((tag:Int)==90)=false:=by rw[beq_eq_false_iff_ne];omega
             have HP:Hid (P=funP T q tag rt):=qH (by rw[HP0.out];unfold tagP;rw[if_neg ht97,if_neg ht98,if_neg ht110,if_neg ht119,if_neg ht104,if_neg ht106,if_neg ht108,if_neg ht109,if_neg ht77,if_neg ht88,if_neg ht90]);have hRd:=R2.out;dsimp only at hRd;obtain⟨a2,ha2,hd2,hb2⟩:=hRd;have hl2:=numP_len HE.out;have e2:a2=a0+1:=by have:=HA0.out;omega
             subst e2;have HB2:=qH hb2;have c1:v2.cell? ⟨rb,1,none⟩=some (.int .i64 ((a0+1:Nat):Int)):=hb2.cell 1;have wm:IntKind.i64.wrap (((a0+1:Nat):Int)-1)=(a0:Int):=by rw[IntKind.wrap_i64];have:=HA0.out;omega
             generalize ((a0+1:Nat):Int)=a1 at c1 wm HB2;clear ha2 hd2 hb2 hl2 R2 HP0 ht97 ht98 ht110 ht119 ht104 ht106 ht108 ht109 ht77 ht88 ht90;go_wp2_with (refine wpList_store_fld rfl 3 _ _ rfl rfl rb 1 _ 196 (.int .i64 (a0:Int)) rfl rfl HB2.out (Nat.le_of_ble_eq_true rfl) (by kernel_rfl) rfl ?_);intro v3 ev;have R3:Hid (Rd s rb r0 q v3):=qH ⟨a0,HA0.out,HD0.out,by rw[ev];exact HB2.out.set_ 1 _⟩
             have O3:=qH (show Only [rb] w v3 by rw[ev];exact O2.out.trans (Only.setCell v2 ⟨rb,1,none⟩ _ (by simp)));have X3:=qH (X2.out.only (bs:=[rb]) (show Only [rb] v2 v3 by rw[ev];exact Only.setCell v2 ⟨rb,1,none⟩ _ (by simp)) (by have:=NRB.out;simp;omega));clear ev c1 wm HB2 X2;have HC:=qH (fun_any HT.out R3.out hqd hq2 hs HE.out);rw[←HP.out] at HC;clear HP HE HA0 HD0;cases P with
             | none=>
              go_wp2_with fail;refine HC.out.mono ?_;rintro e vx ⟨ox,rfl⟩;have OX:=qH (O3.out.trans ox);clear ox;go_wp2_with fail;exact⟨rfl,OX.out,rfl⟩
             | some a=>
              obtain⟨ft,q2,rr⟩:=a;go_wp2_with fail;refine HC.out.mono ?_;rintro e v4 ⟨ox,x,rfl,tx,rx,hq3,hq4⟩;dsimp only at tx rx hq3 hq4;obtain⟨_,sx,cx,vx⟩:=tx.its.2.form;obtain⟨xf,xv⟩:=x;dsimp only at vx;subst vx;have HS3:Hid (w.heap.size<v3.heap.size):=qH X3.out.lt;have O4:=qH (O3.out.trans ox);have R4:=qH rx;have T4:=qH tx;have X4:=qH (X3.out.only ox (by have:=NRB.out;simp;omega));have HQ:=qH (show p≤q2∧q2≤2000 from⟨by omega,hq4⟩)
              obtain⟨li,hli⟩:∃ li,li=ft.l.length:=⟨_,rfl⟩;rw[←hli];rw[←hli] at T4;clear ox tx rx hq3 hq4 X3 HC hli;unfold ftV;go_wp2_with (refine wpList_store_blk rfl 48 _ _ rfl rfl w.heap.size #[.int .i64 xf.k,.int .i64 xf.n,.int .i64 xf.g,.string xf.nm,.string xf.fn,.int .i64 xf.ar,.slice sx li cx,.string xf.bs,.int .i64 xf.bt] _ 48 rfl rfl X4.out rfl info25 (by simp[Value.oneCell']) ?_;intro vF bF oF)
              have RF:=R4.out.only' oF (by have:=NRB.out;omega);have OF:=only_new O4.out oF (Nat.le_refl _);have TF:=(T4.out.only oF (fun b hb _=>by have:=HS3.out;simp;omega)).mono (S':=fun c=>w.heap.size≤c) (fun b hb _=>by have:=HS3.out;omega);go_wp2_with fail;exact bodyPost_ret (results_blk rfl _ _ w.heap.size _ _ rfl bF Tryz.underlying48 rfl info25) rfl ⟨OF,⟨xf,.slice sx li cx⟩,rfl,TF,RF,HQ.out⟩
theorem rterm_any {s:ByteArray} {rb:Nat} (hs:s.size≤200000):∀ d,TmC (termP d) s rb d
 | 0=>fun p r W h hd hp=>by
  obtain rfl:p=2000:=by omega
  exact term_full h
 | d+1=>fun p r W h hd hp=>by
  rw[termP]
  by_cases hlt:p<2000
  ·
   rw[if_pos hlt];exact term_core (rterm_any hs d) h hd hlt hs
  ·
   obtain rfl:p=2000:=by omega
   rw[if_neg hlt];exact term_full h
end Go.Proofs.YtoaimoemaoinhaaGreatDoor
