/- PeersX: a part of the proof. No condition beyond the premises of each theorem. -/
import Derived.Test.YtoaimoemaoinhaaGreatDoorQp34
import Derived.Test.YtoaimoemaoinhaaGreatDoorQp00
set_option maxRecDepth 100000
namespace Go.Proofs.YtoaimoemaoinhaaGreatDoor
open Go Go.RowKit Go.Rt Go.Rw Go.Mp
abbrev itC (e m:Int):Array Value:=#[.int .i64 1,.int .i64 e,.int .i64 0,.string ⟨#[]⟩,.string ⟨#[]⟩,.int .i64 0,.slice none 0 0,.string ⟨#[]⟩,.int .i64 0,.int .i64 1,.int .i64 m,.int .i64 0,.string ⟨#[]⟩,.string ⟨#[]⟩,.int .i64 0,.slice none 0 0,.string ⟨#[]⟩,.int .i64 0]
abbrev tuC (b:Nat):Array Value:=#[.int .i64 7,.int .i64 0,.int .i64 0,.string ⟨#[]⟩,.string ⟨#[]⟩,.int .i64 0,.slice (some ⟨b,0,none⟩) 2 2,.string ⟨#[]⟩,.int .i64 0]
def sgX (me ot:ByteArray) (b:Nat):Sf:=⟨pidX me 1,pidX ot 1,zerX,⟨⟨7,0,0,noB,noB,0,noB,0⟩,.slice (some ⟨b,0,none⟩) 2 2⟩⟩
theorem sgX_at {w:World} {b b0:Nat} {e m:Int} (me ot:ByteArray) (h:Blk w b 48 (itC e m)) (hb:b0≤b):SgAt (fun q=>b0≤q) w (sgN me ot e m) (sgX me ot b):=by
  refine⟨pid_at _ w me 1,pid_at _ w ot 1,zer_at _ w,TmAt.of rfl ⟨[⟨⟨1,e,0,noB,noB,0,noB,0⟩,.slice none 0 0⟩,⟨⟨1,m,0,noB,noB,0,noB,0⟩,.slice none 0 0⟩],.inr ⟨b,0,2,rfl,by simp,h.lt,fun i j hi hj=>?_⟩,?_,?_⟩⟩
  · rw[h.cell]
    have hi2:i=0∨i=1:=by simp only[List.length_cons,List.length_nil] at hi;omega
    have hj2:j=0∨j=1∨j=2∨j=3∨j=4∨j=5∨j=6∨j=7∨j=8:=by omega
    rcases hi2 with rfl|rfl<;>rcases hj2 with rfl|rfl|rfl|rfl|rfl|rfl|rfl|rfl|rfl<;>rfl
  · intro b' o n cap e hn
    cases e;exact hb
  · show TmsAt _ w [nmbT e,nmbT m] _
    unfold TmsAt;refine⟨_,_,rfl,TmAt.of rfl (ItsAt.nil none 0),?_⟩;unfold TmsAt;refine⟨_,_,rfl,TmAt.of rfl (ItsAt.nil none 0),?_⟩;unfold TmsAt;rfl
set_option maxHeartbeats 8000000 in
theorem lsenda {w:World} {base:Nat} {s:Ds} {n:Nu} {P:Pb} (h:PwAt w base s n P) (hk:NOk s.na exB) (hnm:s.na.nm=exA∧s.na.gen=1) (he : -1000000≤n.ea∧n.ea≤1000000) (hm : -1000000≤n.sa∧n.sa≤1000000) {n1:Nd} {c:Int}
    (hR:sendS s.na exB (sgN exA exB n.ea n.sa)=(n1,c)) (hc:(c=0∧s.ua=true)∨(c=9∧s.ua=false)) (hid:∀ y,get s.na.C exB=some y→y.gen≠0→y.gen=1∧y.id≤1000000)
    (ho:(outQ n1 exB).length≤1) (ho2:(outQ s.nb exA).length≤1) (hl:s.wa.length≤1000) (hl2:s.wb.length≤1000) :
    Calls Tryz.prog 13 #[ptrV P.g,.int .i64 0] w fun e w'=>e = .returned (.tuple #[])∧(c=0→Col w base (colS { s with na:=n1 }) { n with sa:=n.sa+1 } P w')∧(c=9→Col w base (colS { s with na:=n1 }) n P w'):=by
  have c6:w.cell? ⟨P.g,6,none⟩=some (.int .i64 n.ea):=h.blk.cell 6;have c8:w.cell? ⟨P.g,8,none⟩=some (.int .i64 n.sa):=h.blk.cell 8;have HFT:Hid (∀ b∈foot P.a,b<w.heap.size):=qH (fun b hb=>(h.na.low b hb).2);have H:=qH h;have HK:=qH hk;have HNM:=qH hnm;have HE:=qH he;have HM:=qH hm;have HR:=qH hR;have HC:=qH hc;have HI:=qH hid;have HO:=qH ho;have HO2:=qH ho2;have HL:=qH hl;have HL2:=qH hl2;have hix0:=name_at false
  have hix1:=name_at true;simp only[if_true,if_false,Bool.false_eq_true] at hix0 hix1;have w1:IntKind.i64.wrap 1=1:=by kernel_rfl
  have w0:IntKind.i64.wrap 0=0:=by kernel_rfl
  obtain⟨gg,hgg⟩:∃ z,z=P.g:=⟨_,rfl⟩;have HGG:=qH hgg;rw[←hgg] at c6 c8 ⊢;clear h hk hnm he hm hR hc hid ho ho2 hl hl2 hgg;unfold ptrV;go_enter Tryz.func13,Tryz.ntmps13;go_upto_region 0 with fail
  go_cut [4] from 7 (fun s4 wc=>∃ m1 m4,s4 = .pointer (some ⟨m4,0,none⟩)∧w.heap.size≤m1∧Hid (Blk wc m1 48 (itC n.ea n.sa))∧Hid (Blk wc m4 48 (tuC m1))∧Hid (Below w.heap.size w wc))
  case first=>
    refine wp_region_held_drew (S:=(fun w'=>w'.cell? ⟨gg,6,none⟩=some (.int .i64 n.ea)∧w'.cell? ⟨gg,8,none⟩=some (.int .i64 n.sa))) (by kernel_rfl) (⟨c6,c8⟩) (fun hS=>?_);have B0:Hid (Below w.heap.size w w.drew):=qH (Below.refl _ w).drew;have HSS:Hid (∀ W,Below w.heap.size w W→W.cell? ⟨gg,6,none⟩=some (.int .i64 n.ea)∧W.cell? ⟨gg,8,none⟩=some (.int .i64 n.sa)):=qH (fun W b=>⟨cell_keep b c6,cell_keep b c8⟩)
    generalize w.drew=wd at *;refine tl 0 7 rfl (fun w hSw=>by go_simp;with_reducible rfl) ?_;simp only[PU];refine tl 1 8 rfl (fun w hSw=>by go_simp;with_reducible rfl) ?_;simp only[PU];refine tl 2 9 rfl (fun w hSw=>by go_simp;with_reducible rfl) ?_;simp only[PU];refine tl 3 10 rfl (fun w hSw=>by go_simp;with_reducible rfl) ?_;simp only[PU];refine tl 4 11 rfl (fun w hSw=>by go_simp;with_reducible rfl) ?_
    simp only[PU];refine tl 5 12 rfl (fun w hSw=>by have a0:=hSw.1;go_simp;with_reducible rfl) ?_;simp only[PU];refine tl 6 13 rfl (fun w hSw=>by go_simp;with_reducible rfl) ?_;simp only[PU];refine tl 7 14 rfl (fun w hSw=>by go_simp;with_reducible rfl) ?_;simp only[PU];refine tl 8 15 rfl (fun w hSw=>by go_simp;with_reducible rfl) ?_;simp only[PU];refine tl 9 16 rfl (fun w hSw=>by go_simp;with_reducible rfl) ?_
    simp only[PU];refine tl 10 17 rfl (fun w hSw=>by go_simp;with_reducible rfl) ?_;simp only[PU];refine tl 11 18 rfl (fun w hSw=>by go_simp;with_reducible rfl) ?_;simp only[PU];refine tl 12 19 rfl (fun w hSw=>by have a0:=hSw.2;go_simp;with_reducible rfl) ?_;simp only[PU];refine tl 13 20 rfl (fun w hSw=>by go_simp;with_reducible rfl) ?_;simp only[PU];refine wpAnyH_ready (rs:=[14,16]) (by kernel_rfl) (by simp) ?_
    refine AllReadyH.cons rfl (fun K hK=>?ga) (AllReadyH.cons rfl (fun K hK=>?gb) AllReadyH.nil)
    case' ga=>
      go_simp;have B1:=qH (B0.out.alloc B0.out.size (.cells (itC n.ea n.sa) 48));have XS:=qH (Blk.new wd 48 (itC n.ea n.sa));have HMS:=qH B0.out.size;obtain⟨mS,hmS⟩:∃ z,z=wd.heap.size:=⟨_,rfl⟩;rw[←hmS] at XS HMS ⊢;clear hmS;refine hK.out _ _ (HSS.out _ B1.out) (fun hS=>?_);clear hK K
      try simp only[PU]
      generalize wd.alloc (.cells _ 48)=v1 at *;refine tl 15 22 rfl (fun w hSw=>by go_simp;with_reducible rfl) ?_;simp only[PU];refine wpAnyH_ready (rs:=[16]) (by kernel_rfl) (by simp) ?_;refine AllReadyH.cons rfl (fun K hK=>?_) AllReadyH.nil;have HLT:=qH XS.out.lt;have XSa:=qH (XS.out.alloc (.cells zT 48));go_simp;have B2:=qH (B1.out.alloc B1.out.size (.cells zT 48));have XT:=qH (Blk.new v1 48 zT)
      have HMT:=qH B1.out.size;obtain⟨mT,hmT⟩:∃ z,z=v1.heap.size:=⟨_,rfl⟩;rw[←hmT] at HLT;rw[←hmT] at XT HMT ⊢;clear hmT;refine hK.out _ _ (HSS.out _ B2.out) (fun hS=>?_);clear hK K
      try simp only[PU]
      generalize v1.alloc (.cells _ 48)=v2 at *;replace XS:=XSa;have HNE:Hid (mS≠mT):=qH (by have:=HLT.out;omega);clear XSa HLT
    case' gb=>
      go_simp;have B1:=qH (B0.out.alloc B0.out.size (.cells zT 48));have XT:=qH (Blk.new wd 48 zT);have HMT:=qH B0.out.size;obtain⟨mT,hmT⟩:∃ z,z=wd.heap.size:=⟨_,rfl⟩;rw[←hmT] at XT HMT ⊢;clear hmT;refine hK.out _ _ (HSS.out _ B1.out) (fun hS=>?_);clear hK K
      try simp only[PU]
      generalize wd.alloc (.cells _ 48)=v1 at *;refine wpAnyH_ready (rs:=[14]) (by kernel_rfl) (by simp) ?_;refine AllReadyH.cons rfl (fun K hK=>?_) AllReadyH.nil;have HLT:=qH XT.out.lt;have XTa:=qH (XT.out.alloc (.cells (itC n.ea n.sa) 48));go_simp;have B2:=qH (B1.out.alloc B1.out.size (.cells (itC n.ea n.sa) 48));have XS:=qH (Blk.new v1 48 (itC n.ea n.sa));have HMS:=qH B1.out.size;obtain⟨mS,hmS⟩:∃ z,z=v1.heap.size:=⟨_,rfl⟩
      rw[←hmS] at HLT;rw[←hmS] at XS HMS ⊢;clear hmS;refine hK.out _ _ (HSS.out _ B2.out) (fun hS=>?_);clear hK K
      try simp only[PU]
      generalize v1.alloc (.cells _ 48)=v2 at *;refine tl 15 22 rfl (fun w hSw=>by go_simp;with_reducible rfl) ?_;simp only[PU];replace XT:=XTa;have HNE:Hid (mS≠mT):=qH (by have:=HLT.out;omega);clear XTa HLT
    all_goals
      refine wpAnyH_ready (rs:=[17]) (by kernel_rfl) (by simp) ?_;refine AllReadyH.cons rfl (fun K hK=>?_) AllReadyH.nil;refine step_store_blk rfl 48 _ _ rfl rfl mT #[.int .i64 7,.int .i64 0,.int .i64 0,.string ⟨#[]⟩,.string ⟨#[]⟩,.int .i64 0,.slice (some ⟨mS,0,none⟩) 2 2,.string ⟨#[]⟩,.int .i64 0] zT 48 rfl rfl XT.out rfl (by kernel_rfl) (by simp[Value.oneCell']) ?_;intro v3 q1 q2;have B3:=qH (B2.out.trans (q2.below (n:=w.heap.size) (by rw[List.forall_mem_singleton];exact HMT.out) B2.out.size))
      have D:Hid (w.heap.size≤mS∧Blk v3 mS 48 (itC n.ea n.sa)∧Blk v3 mT 48 (tuC mS)):=qH ⟨HMS.out,XS.out.only q2 (by rw[List.mem_singleton];exact HNE.out),q1⟩;clear q1 q2 XS XT;refine hK.out _ _ (HSS.out _ B3.out) (fun hS=>?_);clear hK K
      try simp only[PU]
      refine wpAnyH_done (by kernel_rfl) ?_ _;clear hS;go_wp2_with fail;go_meet
      case rel=>exact⟨mS,mT,rfl,D.out.1,qH D.out.2.1,qH D.out.2.2,B3⟩
  case rest=>
    obtain⟨m1,m4,rfl,hm1,HX1,HX4,HB⟩:=hcut;have HM1:=qH hm1;have HX4':=HX4.out;unfold tuC at HX4';have HX4:=qH HX4';clear hm1 HX4' c6 c8;go_upto_region 1 with fail
    go_cut [5] from 7 (fun s5 wz=>∃ m5,s5 = .pointer (some ⟨m5,0,none⟩)∧w.heap.size≤m5∧Hid (Blk wz m5 50 (sgC (sgN exA exB n.ea n.sa) (sgX exA exB m1)).toArray)∧Hid (Blk wz m1 48 (itC n.ea n.sa))∧Hid (Below w.heap.size w wz))
    case first=>
      have X4:=qH HX4.out;have CN:=qH (fun W=>names_any W);have CA:=qH (fun W=>pid31 exA 1 W);have CB:=qH (fun W=>pid31 exB 1 W);unfold ftV pidX at CA CB;dsimp only[noB] at CA CB;refine wp_region_held_drew (S:=(fun w'=>Blk w' m4 48 #[.int .i64 7,.int .i64 0,.int .i64 0,.string ⟨#[]⟩,.string ⟨#[]⟩,.int .i64 0,.slice (some ⟨m1,0,none⟩) 2 2,.string ⟨#[]⟩,.int .i64 0])) (by kernel_rfl) (X4.out.drew) (fun hS=>?_)
      replace X4:=qH X4.out.drew;replace HX1:=qH HX1.out.drew;replace HB:=qH HB.out.drew;generalize wc.drew=wd at *;refine tl 1 24 rfl (fun w hSw=>by go_simp;with_reducible rfl) ?_;simp only[PU];refine tl 5 28 rfl (fun w hSw=>by go_simp;with_reducible rfl) ?_;simp only[PU];refine tl 6 29 rfl (fun w hSw=>by go_simp;with_reducible rfl) ?_;simp only[PU];refine tl 9 32 rfl (fun w hSw=>by refine exec_load_blk 48 (.tmp 4) ?_ m4 ?_ _ 48 _ hSw Tryz.underlying48 rfl (by kernel_rfl);all_goals rfl) ?_
      simp only[PU]
      all_goals
        first
        | (have zz:=Z5.out
           clear zz;refine wpAnyH_ready (rs:=[0]) (by kernel_rfl) (by simp) ?_;refine AllReadyH.cons rfl (fun K hK=>?_) AllReadyH.nil)
        | (refine wpAnyH_ready (rs:=[0,11]) (by kernel_rfl) (by simp) ?_
           refine AllReadyH.cons rfl (fun K hK=>?gx0) (AllReadyH.cons rfl (fun K hK=>?gy0) AllReadyH.nil)
           case' gy0=>
             go_simp;have Z5:=qH (Blk.new wd 50 zG);have HZ5:=qH HB.out.size;have HZ1:=qH HX1.out.lt;have HZ4:=qH X4.out.lt;have AL:=(Below.refl wd.heap.size wd).alloc (Nat.le_refl _) (.cells zG 50);obtain⟨z5,hz5⟩:∃ z,z=wd.heap.size:=⟨_,rfl⟩;have HZN:=qH hz5;rw[←hz5] at Z5 HZ5 ⊢;replace HZ1:Hid (m1<z5):=qH (by rw[hz5];exact HZ1.out);replace X4:=qH (X4.out.below AL X4.out.lt);replace HX1:=qH (HX1.out.below AL HX1.out.lt)
             replace HB:=qH (HB.out.trans (AL.mono HB.out.size));replace HZ4:Hid (m4≠z5):=qH (by rw[hz5];exact Nat.ne_of_lt HZ4.out);clear AL hz5 HZN;refine hK.out _ _ X4.out (fun hS=>?_);clear hK K
             try simp only[PU]
             generalize wd.alloc (.cells _ 50)=wd' at *;refine wpAnyH_ready (rs:=[0]) (by kernel_rfl) (by simp) ?_;refine AllReadyH.cons rfl (fun K hK=>?_) AllReadyH.nil;skip)
      all_goals
        go_simp;refine(CN.out _).mono ?_;rintro e y0 ⟨rfl,b2⟩;replace X4:=qH (X4.out.below b2 X4.out.lt);replace HX1:=qH (HX1.out.below b2 HX1.out.lt);replace HB:=qH (HB.out.trans (b2.mono HB.out.size))
        try (replace Z5:=qH (Z5.out.below b2 Z5.out.lt))
        clear b2;go_wp2_with fail;refine hK.out _ _ X4.out (fun hS=>?_);clear hK K
        try simp only[PU]
        refine tl 2 25 rfl (fun w hSw=>by go_simp;with_reducible rfl) ?_;simp only[PU]
      all_goals
        first
        | (have zz:=Z5.out
           clear zz;refine wpAnyH_ready (rs:=[3]) (by kernel_rfl) (by simp) ?_;refine AllReadyH.cons rfl (fun K hK=>?_) AllReadyH.nil)
        | (refine wpAnyH_ready (rs:=[3,11]) (by kernel_rfl) (by simp) ?_
           refine AllReadyH.cons rfl (fun K hK=>?gx1) (AllReadyH.cons rfl (fun K hK=>?gy1) AllReadyH.nil)
           case' gy1=>
             go_simp;have Z5:=qH (Blk.new y0 50 zG);have HZ5:=qH HB.out.size;have HZ1:=qH HX1.out.lt;have HZ4:=qH X4.out.lt;have AL:=(Below.refl y0.heap.size y0).alloc (Nat.le_refl _) (.cells zG 50);obtain⟨z5,hz5⟩:∃ z,z=y0.heap.size:=⟨_,rfl⟩;have HZN:=qH hz5;rw[←hz5] at Z5 HZ5 ⊢;replace HZ1:Hid (m1<z5):=qH (by rw[hz5];exact HZ1.out);replace X4:=qH (X4.out.below AL X4.out.lt);replace HX1:=qH (HX1.out.below AL HX1.out.lt)
             replace HB:=qH (HB.out.trans (AL.mono HB.out.size));replace HZ4:Hid (m4≠z5):=qH (by rw[hz5];exact Nat.ne_of_lt HZ4.out);clear AL hz5 HZN;refine hK.out _ _ X4.out (fun hS=>?_);clear hK K
             try simp only[PU]
             generalize y0.alloc (.cells _ 50)=y0' at *;refine wpAnyH_ready (rs:=[3]) (by kernel_rfl) (by simp) ?_;refine AllReadyH.cons rfl (fun K hK=>?_) AllReadyH.nil;skip)
      all_goals
        go_simp;refine(CA.out _).mono ?_;rintro e y1 ⟨rfl,b2⟩;replace X4:=qH (X4.out.below b2 X4.out.lt);replace HX1:=qH (HX1.out.below b2 HX1.out.lt);replace HB:=qH (HB.out.trans (b2.mono HB.out.size))
        try (replace Z5:=qH (Z5.out.below b2 Z5.out.lt))
        clear b2;go_wp2_with fail;refine hK.out _ _ X4.out (fun hS=>?_);clear hK K
        try simp only[PU]
      all_goals
        first
        | (have zz:=Z5.out
           clear zz;refine wpAnyH_ready (rs:=[4]) (by kernel_rfl) (by simp) ?_;refine AllReadyH.cons rfl (fun K hK=>?_) AllReadyH.nil)
        | (refine wpAnyH_ready (rs:=[4,11]) (by kernel_rfl) (by simp) ?_
           refine AllReadyH.cons rfl (fun K hK=>?gx2) (AllReadyH.cons rfl (fun K hK=>?gy2) AllReadyH.nil)
           case' gy2=>
             go_simp;have Z5:=qH (Blk.new y1 50 zG);have HZ5:=qH HB.out.size;have HZ1:=qH HX1.out.lt;have HZ4:=qH X4.out.lt;have AL:=(Below.refl y1.heap.size y1).alloc (Nat.le_refl _) (.cells zG 50);obtain⟨z5,hz5⟩:∃ z,z=y1.heap.size:=⟨_,rfl⟩;have HZN:=qH hz5;rw[←hz5] at Z5 HZ5 ⊢;replace HZ1:Hid (m1<z5):=qH (by rw[hz5];exact HZ1.out);replace X4:=qH (X4.out.below AL X4.out.lt);replace HX1:=qH (HX1.out.below AL HX1.out.lt)
             replace HB:=qH (HB.out.trans (AL.mono HB.out.size));replace HZ4:Hid (m4≠z5):=qH (by rw[hz5];exact Nat.ne_of_lt HZ4.out);clear AL hz5 HZN;refine hK.out _ _ X4.out (fun hS=>?_);clear hK K
             try simp only[PU]
             generalize y1.alloc (.cells _ 50)=y1' at *;refine wpAnyH_ready (rs:=[4]) (by kernel_rfl) (by simp) ?_;refine AllReadyH.cons rfl (fun K hK=>?_) AllReadyH.nil;skip)
      all_goals
        go_simp;refine(CN.out _).mono ?_;rintro e y2 ⟨rfl,b2⟩;replace X4:=qH (X4.out.below b2 X4.out.lt);replace HX1:=qH (HX1.out.below b2 HX1.out.lt);replace HB:=qH (HB.out.trans (b2.mono HB.out.size))
        try (replace Z5:=qH (Z5.out.below b2 Z5.out.lt))
        clear b2;go_wp2_with fail;refine hK.out _ _ X4.out (fun hS=>?_);clear hK K
        try simp only[PU]
        refine tl 7 30 rfl (fun w hSw=>by go_simp;with_reducible rfl) ?_;simp only[PU]
      all_goals
        first
        | (have zz:=Z5.out
           clear zz;refine wpAnyH_ready (rs:=[8]) (by kernel_rfl) (by simp) ?_;refine AllReadyH.cons rfl (fun K hK=>?_) AllReadyH.nil)
        | (refine wpAnyH_ready (rs:=[8,11]) (by kernel_rfl) (by simp) ?_
           refine AllReadyH.cons rfl (fun K hK=>?gx3) (AllReadyH.cons rfl (fun K hK=>?gy3) AllReadyH.nil)
           case' gy3=>
             go_simp;have Z5:=qH (Blk.new y2 50 zG);have HZ5:=qH HB.out.size;have HZ1:=qH HX1.out.lt;have HZ4:=qH X4.out.lt;have AL:=(Below.refl y2.heap.size y2).alloc (Nat.le_refl _) (.cells zG 50);obtain⟨z5,hz5⟩:∃ z,z=y2.heap.size:=⟨_,rfl⟩;have HZN:=qH hz5;rw[←hz5] at Z5 HZ5 ⊢;replace HZ1:Hid (m1<z5):=qH (by rw[hz5];exact HZ1.out);replace X4:=qH (X4.out.below AL X4.out.lt);replace HX1:=qH (HX1.out.below AL HX1.out.lt)
             replace HB:=qH (HB.out.trans (AL.mono HB.out.size));replace HZ4:Hid (m4≠z5):=qH (by rw[hz5];exact Nat.ne_of_lt HZ4.out);clear AL hz5 HZN;refine hK.out _ _ X4.out (fun hS=>?_);clear hK K
             try simp only[PU]
             generalize y2.alloc (.cells _ 50)=y2' at *;refine wpAnyH_ready (rs:=[8]) (by kernel_rfl) (by simp) ?_;refine AllReadyH.cons rfl (fun K hK=>?_) AllReadyH.nil;skip)
      all_goals
        go_simp;refine(CB.out _).mono ?_;rintro e y3 ⟨rfl,b2⟩;replace X4:=qH (X4.out.below b2 X4.out.lt);replace HX1:=qH (HX1.out.below b2 HX1.out.lt);replace HB:=qH (HB.out.trans (b2.mono HB.out.size))
        try (replace Z5:=qH (Z5.out.below b2 Z5.out.lt))
        clear b2;go_wp2_with fail;refine hK.out _ _ X4.out (fun hS=>?_);clear hK K
        try simp only[PU]
      all_goals
        refine tl 10 33 rfl (fun w hSw=>by go_simp;with_reducible rfl) ?_;simp only[PU]
      all_goals
        first
        | (have zz:=Z5.out
           clear zz)
        | (refine wpAnyH_ready (rs:=[11]) (by kernel_rfl) (by simp) ?_
           refine AllReadyH.cons rfl (fun K hK=>?_) AllReadyH.nil;go_simp;have Z5:=qH (Blk.new y3 50 zG);have HZ5:=qH HB.out.size;have HZ1:=qH HX1.out.lt;have HZ4:=qH X4.out.lt;have AL:=(Below.refl y3.heap.size y3).alloc (Nat.le_refl _) (.cells zG 50);obtain⟨z5,hz5⟩:∃ z,z=y3.heap.size:=⟨_,rfl⟩;have HZN:=qH hz5;rw[←hz5] at Z5 HZ5 ⊢;replace HZ1:Hid (m1<z5):=qH (by rw[hz5];exact HZ1.out);replace X4:=qH (X4.out.below AL X4.out.lt)
           replace HX1:=qH (HX1.out.below AL HX1.out.lt);replace HB:=qH (HB.out.trans (AL.mono HB.out.size));replace HZ4:Hid (m4≠z5):=qH (by rw[hz5];exact Nat.ne_of_lt HZ4.out);clear AL hz5 HZN;refine hK.out _ _ X4.out (fun hS=>?_);clear hK K
           try simp only[PU]
           generalize y3.alloc (.cells _ 50)=y3' at *;skip)
      all_goals
        refine wpAnyH_ready (rs:=[12]) (by kernel_rfl) (by simp) ?_;refine AllReadyH.cons rfl (fun K hK=>?_) AllReadyH.nil;refine step_store_blk rfl 50 _ _ rfl rfl z5 (sgC (sgN exA exB n.ea n.sa) (sgX exA exB m1)).toArray zG 50 rfl rfl Z5.out rfl (by kernel_rfl) (by simp[Value.oneCell',sgC,ftC,sgX,pidX,zerX]) ?_;intro y9 q1 q2;have D:Hid (Blk y9 z5 50 (sgC (sgN exA exB n.ea n.sa) (sgX exA exB m1)).toArray∧Blk y9 m1 48 (itC n.ea n.sa)∧Below w.heap.size w y9):=qH ⟨q1,HX1.out.only q2 (by rw[List.mem_singleton];have:=HZ1.out;omega),HB.out.trans (q2.below (n:=w.heap.size) (by rw[List.forall_mem_singleton];exact HZ5.out) HB.out.size)⟩
        replace X4:=qH (X4.out.only q2 (by rw[List.mem_singleton];exact HZ4.out));clear q1 q2 Z5;refine hK.out _ _ X4.out (fun hS=>?_);clear hK K
        try simp only[PU]
        refine wpAnyH_done (by kernel_rfl) ?_ _;clear hS;go_wp2_with fail;go_meet
        case rel=>exact⟨z5,rfl,HZ5.out,qH D.out.1,qH D.out.2.1,qH D.out.2.2⟩
    case rest=>
      obtain⟨m5,rfl,hm5,HX5,HX1,HB⟩:=hcut;have HM5:=qH hm5;clear hm5;have HPW:=qH (H.out.below HB.out);have HSG:=qH (sgX_at exA exB HX1.out HM1.out);have HBB:=qH (HB.out.mono H.out.na.bz);obtain⟨CS,hCS⟩:∃ z,z=(sgC (sgN exA exB n.ea n.sa) (sgX exA exB m1)).toArray:=⟨_,rfl⟩;have HSV:Hid (sgV (sgN exA exB n.ea n.sa) (sgX exA exB m1) = .agg CS):=qH (by rw[hCS];rfl);have HSZ:Hid (CS.size=40):=qH (by rw[hCS];rfl)
      rw[←hCS] at HX5;clear hCS HX1 HB HX4;have CSD:Hid (∀ W,Below wc.heap.size wc W→Calls Tryz.prog 20 #[.pointer (some ⟨P.a.g,0,none⟩),.agg CS] W fun e w'=>e = .returned (.int .i64 c)∧∃ a',NdAt w' base n1 a'∧Trail W w' P.a a'):=qH (fun W b=>by
        have n1':nameF exA=true:=by decide +kernel
        have n2':nameF exB=true:=by decide +kernel
        have he:=HE.out;have hm:=HM.out
        have:=send_any (HPW.out.na.below b) (fun q=>w.heap.size≤q) (sgN exA exB n.ea n.sa) (sgX exA exB m1) (HSG.out.below b (fun _ _ h=>h)) (fun b' hb hf=>by have:=HFT.out b' hf;omega) (sg_fit n1' n2' (by omega) (by omega)) (sg_valid n1' n2') (sg_src.trans HNM.out.1.symm) rfl rfl (by rw[HNM.out.2];rfl) exB sg_tgt
          (by rw[HK.out.o];simp) (fun y hy hg=>⟨by rw[(HI.out y hy hg).1];rfl,(HI.out y hy hg).2⟩) (sg_size n1' n2' (by omega) (by omega))
        rw[HSV.out,HR.out] at this;exact this)
      go_upto_region 2 with fail
      have c0:wc.cell? ⟨gg,0,none⟩=some (.pointer (some ⟨P.a.g,0,none⟩)):=HPW.out.cpa HGG.out.symm;refine wp_region_held_drew (S:=(fun w'=>w'.cell? ⟨gg,0,none⟩=some (.pointer (some ⟨P.a.g,0,none⟩))∧Blk w' m5 50 CS)) (by kernel_rfl) (⟨c0,HX5.out.drew⟩) (fun hS=>?_);have BD:Hid (Below wc.heap.size wc wc.drew):=qH (Below.refl _ wc).drew;have HPD:=qH (HPW.out.below BD.out);have HX5D:=qH HX5.out.drew;have HSL:=qH BD.out.size
      generalize wc.drew=wd at *;clear c0;refine tl 0 34 rfl (fun w hSw=>by go_simp;with_reducible rfl) ?_;simp only[PU];refine tl 1 35 rfl (fun w hSw=>by go_simp;with_reducible rfl) ?_;simp only[PU];refine tl 2 36 rfl (fun w hSw=>by go_simp;with_reducible rfl) ?_;simp only[PU];refine tl 3 37 rfl (fun w hSw=>by go_simp;with_reducible rfl) ?_;simp only[PU];refine tl 4 38 rfl (fun w hSw=>by go_simp;with_reducible rfl) ?_
      simp only[PU];refine tl 5 39 rfl (fun w hSw=>by have a0:=hSw.1;go_simp;with_reducible rfl) ?_;simp only[PU];refine tl 6 40 rfl (fun w hSw=>by refine exec_load_blk 50 (.tmp 5) ?_ m5 ?_ CS 50 _ hSw.2 Tryz.underlying50 rfl (by rw[HSZ.out];exact info26);all_goals rfl) ?_;simp only[PU];refine wpAnyH_ready (rs:=[7]) (by kernel_rfl) (by simp) ?_;refine AllReadyH.cons rfl (fun K hK=>?_) AllReadyH.nil
      go_simp;refine(CSD.out wd BD.out).mono ?_;rintro e w6 ⟨rfl,a6,q1,q2⟩;have H6:=qH (HPD.out.setA q1 q2);have B6:=qH ((HBB.out.trans (BD.out.mono HPW.out.na.bz)).trans (Trail.kept HPD.out.na q2));have c0:w6.cell? ⟨gg,0,none⟩=some (.pointer (some ⟨P.a.g,0,none⟩)):=(H6.out.cpa HGG.out.symm).trans (by rw[q2.g]);have X6:Blk w6 m5 50 CS:=HX5D.out.only q2.only (fun hb=>by have:=HFT.out _ hb;have:=HM5.out;omega)
      clear q1 q2 CSD;go_wp2_with fail;refine hK.out _ _ (⟨c0,X6⟩) (fun hS=>?_);clear hK K
      try simp only[PU]
      refine tl 8 6 rfl (fun w hSw=>by go_simp;with_reducible rfl) ?_;simp only[PU];refine wpAnyH_done (by kernel_rfl) ?_ _;clear hS;clear c0 X6 HX5 HX5D HPW HPD BD HSG HSV HSZ HSL HBB HNM HK HI HR HE HFT H;obtain⟨P2,hP2⟩:∃ y:Pb,y = { P with a:=a6 }:=⟨_,rfl⟩;have HG2:Hid (P2.g=gg):=qH (by rw[hP2];exact HGG.out.symm);rw[←hP2] at H6;clear hP2;have c16:w6.cell? ⟨gg,16,none⟩=some (.bool true):=blk_at H6.out.blk 16 HG2.out rfl rfl
      have c4:w6.cell? ⟨gg,4,none⟩=some (.bool s.ua):=blk_at H6.out.blk 4 HG2.out rfl rfl;have f16:w6.frozen? ⟨gg,16,none⟩=false:=by rw[←HG2.out];exact H6.out.blk.frozen 16
      have H7:Hid (PwAt (w6.setCell ⟨gg,16,none⟩ (.bool true)) base { s with na:=n1 } n P2):=qH (by
        have:=H6.out.own (ua:=s.ua) (ub:=s.ub) (n':=n) (Only.setCell w6 ⟨P2.g,16,none⟩ (.bool true) (by simp)) (H6.out.blk.set_ 16 (.bool true))
        rw[HG2.out] at this;exact this)
      have B7:=qH (B6.out.setCell (p:=⟨gg,16,none⟩) (by rw[←HG2.out];exact H6.out.bg) (.bool true));clear H6 B6;rcases HC.out with ⟨hc0,hu⟩|⟨hc0,hu⟩
      · rw[hu] at c4
        subst hc0;clear hu;go_upto_region 5 with fail
        clear c16 c4 f16;generalize w6.setCell ⟨gg,16,none⟩ (.bool true)=w7 at *;have c8:w7.cell? ⟨gg,8,none⟩=some (.int .i64 n.sa):=blk_at H7.out.blk 8 HG2.out rfl rfl;have f8:w7.frozen? ⟨gg,8,none⟩=false:=by rw[←HG2.out];exact H7.out.blk.frozen 8
        have hw8:IntKind.i64.wrap (n.sa+1)=n.sa+1:=by have:=HM.out;rw[IntKind.wrap_i64]<;>omega
        have H8:Hid (PwAt (w7.setCell ⟨gg,8,none⟩ (.int .i64 (n.sa+1))).drew base { s with na:=n1 } { n with sa:=n.sa+1 } P2):=qH (by
          have:=(H7.out.own (ua:=s.ua) (ub:=s.ub) (n':={ n with sa:=n.sa+1 }) (Only.setCell w7 ⟨P2.g,8,none⟩ (.int .i64 (n.sa+1)) (by simp)) (H7.out.blk.set_ 8 (.int .i64 (n.sa+1)))).below (Below.refl _ _).drew
          rw[HG2.out] at this;exact this)
        have B8:Hid (Below base w (w7.setCell ⟨gg,8,none⟩ (.int .i64 (n.sa+1))).drew):=qH (B7.out.setCell (p:=⟨gg,8,none⟩) (by rw[←HG2.out];exact H7.out.bg) (.int .i64 (n.sa+1))).drew;clear H7 B7;go_still_tail 10,(by kernel_rfl);change wpList _ _ _ _ _ w7.drew;go_upto_region 6 with fail
        clear c8 f8 hw8;generalize (w7.setCell ⟨gg,8,none⟩ (.int .i64 (n.sa+1))).drew=w8 at *;have CC:=qH (collect_any H8.out HO.out HO2.out HL.out HL2.out);rw[HG2.out] at CC;unfold ptrV at CC;go_wp2_with fail;refine CC.out.mono ?_;rintro e w9 ⟨rfl,h9⟩;have H9:=qH h9;clear h9 CC;go_wp2_with fail;go_end0;exact⟨rfl,Col.trans (HG2.out.trans HGG.out) B8.out H9.out⟩
      · rw[hu] at c4
        subst hc0;clear hu;go_upto_region 6 with fail
        clear c16 c4 f16;generalize w6.setCell ⟨gg,16,none⟩ (.bool true)=w7 at *;have CC:=qH (collect_any H7.out HO.out HO2.out HL.out HL2.out);rw[HG2.out] at CC;unfold ptrV at CC;go_wp2_with fail;refine CC.out.mono ?_;rintro e w9 ⟨rfl,h9⟩;have H9:=qH h9;clear h9 CC;go_wp2_with fail;go_end0;exact⟨rfl,Col.trans (HG2.out.trans HGG.out) B7.out H9.out⟩
set_option maxHeartbeats 8000000 in
theorem lsendb {w:World} {base:Nat} {s:Ds} {n:Nu} {P:Pb} (h:PwAt w base s n P) (hk:NOk s.nb exA) (hnm:s.nb.nm=exB∧s.nb.gen=1) (he : -1000000≤n.eb∧n.eb≤1000000) (hm : -1000000≤n.sb∧n.sb≤1000000) {n1:Nd} {c:Int}
    (hR:sendS s.nb exA (sgN exB exA n.eb n.sb)=(n1,c)) (hc:(c=0∧s.ub=true)∨(c=9∧s.ub=false)) (hid:∀ y,get s.nb.C exA=some y→y.gen≠0→y.gen=1∧y.id≤1000000)
    (ho:(outQ n1 exA).length≤1) (ho2:(outQ s.na exB).length≤1) (hl:s.wa.length≤1000) (hl2:s.wb.length≤1000) :
    Calls Tryz.prog 13 #[ptrV P.g,.int .i64 1] w fun e w'=>e = .returned (.tuple #[])∧(c=0→Col w base (colS { s with nb:=n1 }) { n with sb:=n.sb+1 } P w')∧(c=9→Col w base (colS { s with nb:=n1 }) n P w'):=by
  have c6:w.cell? ⟨P.g,7,none⟩=some (.int .i64 n.eb):=h.blk.cell 7;have c8:w.cell? ⟨P.g,9,none⟩=some (.int .i64 n.sb):=h.blk.cell 9;have HFT:Hid (∀ b∈foot P.b,b<w.heap.size):=qH (fun b hb=>(h.nb.low b hb).2);have H:=qH h;have HK:=qH hk;have HNM:=qH hnm;have HE:=qH he;have HM:=qH hm;have HR:=qH hR;have HC:=qH hc;have HI:=qH hid;have HO:=qH ho;have HO2:=qH ho2;have HL:=qH hl;have HL2:=qH hl2;have hix0:=name_at false
  have hix1:=name_at true;simp only[if_true,if_false,Bool.false_eq_true] at hix0 hix1;have w1:IntKind.i64.wrap 1=1:=by kernel_rfl
  have w0:IntKind.i64.wrap 0=0:=by kernel_rfl
  obtain⟨gg,hgg⟩:∃ z,z=P.g:=⟨_,rfl⟩;have HGG:=qH hgg;rw[←hgg] at c6 c8 ⊢;clear h hk hnm he hm hR hc hid ho ho2 hl hl2 hgg;unfold ptrV;go_enter Tryz.func13,Tryz.ntmps13;go_upto_region 0 with fail
  go_cut [4] from 7 (fun s4 wc=>∃ m1 m4,s4 = .pointer (some ⟨m4,0,none⟩)∧w.heap.size≤m1∧Hid (Blk wc m1 48 (itC n.eb n.sb))∧Hid (Blk wc m4 48 (tuC m1))∧Hid (Below w.heap.size w wc))
  case first=>
    refine wp_region_held_drew (S:=(fun w'=>w'.cell? ⟨gg,7,none⟩=some (.int .i64 n.eb)∧w'.cell? ⟨gg,9,none⟩=some (.int .i64 n.sb))) (by kernel_rfl) (⟨c6,c8⟩) (fun hS=>?_);have B0:Hid (Below w.heap.size w w.drew):=qH (Below.refl _ w).drew;have HSS:Hid (∀ W,Below w.heap.size w W→W.cell? ⟨gg,7,none⟩=some (.int .i64 n.eb)∧W.cell? ⟨gg,9,none⟩=some (.int .i64 n.sb)):=qH (fun W b=>⟨cell_keep b c6,cell_keep b c8⟩)
    generalize w.drew=wd at *;refine tl 0 7 rfl (fun w hSw=>by go_simp;with_reducible rfl) ?_;simp only[PU];refine tl 1 8 rfl (fun w hSw=>by go_simp;with_reducible rfl) ?_;simp only[PU];refine tl 2 9 rfl (fun w hSw=>by go_simp;with_reducible rfl) ?_;simp only[PU];refine tl 3 10 rfl (fun w hSw=>by go_simp;with_reducible rfl) ?_;simp only[PU];refine tl 4 11 rfl (fun w hSw=>by go_simp;with_reducible rfl) ?_
    simp only[PU];refine tl 5 12 rfl (fun w hSw=>by have a0:=hSw.1;go_simp;with_reducible rfl) ?_;simp only[PU];refine tl 6 13 rfl (fun w hSw=>by go_simp;with_reducible rfl) ?_;simp only[PU];refine tl 7 14 rfl (fun w hSw=>by go_simp;with_reducible rfl) ?_;simp only[PU];refine tl 8 15 rfl (fun w hSw=>by go_simp;with_reducible rfl) ?_;simp only[PU];refine tl 9 16 rfl (fun w hSw=>by go_simp;with_reducible rfl) ?_
    simp only[PU];refine tl 10 17 rfl (fun w hSw=>by go_simp;with_reducible rfl) ?_;simp only[PU];refine tl 11 18 rfl (fun w hSw=>by go_simp;with_reducible rfl) ?_;simp only[PU];refine tl 12 19 rfl (fun w hSw=>by have a0:=hSw.2;go_simp;with_reducible rfl) ?_;simp only[PU];refine tl 13 20 rfl (fun w hSw=>by go_simp;with_reducible rfl) ?_;simp only[PU];refine wpAnyH_ready (rs:=[14,16]) (by kernel_rfl) (by simp) ?_
    refine AllReadyH.cons rfl (fun K hK=>?ga) (AllReadyH.cons rfl (fun K hK=>?gb) AllReadyH.nil)
    case' ga=>
      go_simp;have B1:=qH (B0.out.alloc B0.out.size (.cells (itC n.eb n.sb) 48));have XS:=qH (Blk.new wd 48 (itC n.eb n.sb));have HMS:=qH B0.out.size;obtain⟨mS,hmS⟩:∃ z,z=wd.heap.size:=⟨_,rfl⟩;rw[←hmS] at XS HMS ⊢;clear hmS;refine hK.out _ _ (HSS.out _ B1.out) (fun hS=>?_);clear hK K
      try simp only[PU]
      generalize wd.alloc (.cells _ 48)=v1 at *;refine tl 15 22 rfl (fun w hSw=>by go_simp;with_reducible rfl) ?_;simp only[PU];refine wpAnyH_ready (rs:=[16]) (by kernel_rfl) (by simp) ?_;refine AllReadyH.cons rfl (fun K hK=>?_) AllReadyH.nil;have HLT:=qH XS.out.lt;have XSa:=qH (XS.out.alloc (.cells zT 48));go_simp;have B2:=qH (B1.out.alloc B1.out.size (.cells zT 48));have XT:=qH (Blk.new v1 48 zT)
      have HMT:=qH B1.out.size;obtain⟨mT,hmT⟩:∃ z,z=v1.heap.size:=⟨_,rfl⟩;rw[←hmT] at HLT;rw[←hmT] at XT HMT ⊢;clear hmT;refine hK.out _ _ (HSS.out _ B2.out) (fun hS=>?_);clear hK K
      try simp only[PU]
      generalize v1.alloc (.cells _ 48)=v2 at *;replace XS:=XSa;have HNE:Hid (mS≠mT):=qH (by have:=HLT.out;omega);clear XSa HLT
    case' gb=>
      go_simp;have B1:=qH (B0.out.alloc B0.out.size (.cells zT 48));have XT:=qH (Blk.new wd 48 zT);have HMT:=qH B0.out.size;obtain⟨mT,hmT⟩:∃ z,z=wd.heap.size:=⟨_,rfl⟩;rw[←hmT] at XT HMT ⊢;clear hmT;refine hK.out _ _ (HSS.out _ B1.out) (fun hS=>?_);clear hK K
      try simp only[PU]
      generalize wd.alloc (.cells _ 48)=v1 at *;refine wpAnyH_ready (rs:=[14]) (by kernel_rfl) (by simp) ?_;refine AllReadyH.cons rfl (fun K hK=>?_) AllReadyH.nil;have HLT:=qH XT.out.lt;have XTa:=qH (XT.out.alloc (.cells (itC n.eb n.sb) 48));go_simp;have B2:=qH (B1.out.alloc B1.out.size (.cells (itC n.eb n.sb) 48));have XS:=qH (Blk.new v1 48 (itC n.eb n.sb));have HMS:=qH B1.out.size;obtain⟨mS,hmS⟩:∃ z,z=v1.heap.size:=⟨_,rfl⟩
      rw[←hmS] at HLT;rw[←hmS] at XS HMS ⊢;clear hmS;refine hK.out _ _ (HSS.out _ B2.out) (fun hS=>?_);clear hK K
      try simp only[PU]
      generalize v1.alloc (.cells _ 48)=v2 at *;refine tl 15 22 rfl (fun w hSw=>by go_simp;with_reducible rfl) ?_;simp only[PU];replace XT:=XTa;have HNE:Hid (mS≠mT):=qH (by have:=HLT.out;omega);clear XTa HLT
    all_goals
      refine wpAnyH_ready (rs:=[17]) (by kernel_rfl) (by simp) ?_;refine AllReadyH.cons rfl (fun K hK=>?_) AllReadyH.nil;refine step_store_blk rfl 48 _ _ rfl rfl mT #[.int .i64 7,.int .i64 0,.int .i64 0,.string ⟨#[]⟩,.string ⟨#[]⟩,.int .i64 0,.slice (some ⟨mS,0,none⟩) 2 2,.string ⟨#[]⟩,.int .i64 0] zT 48 rfl rfl XT.out rfl (by kernel_rfl) (by simp[Value.oneCell']) ?_;intro v3 q1 q2;have B3:=qH (B2.out.trans (q2.below (n:=w.heap.size) (by rw[List.forall_mem_singleton];exact HMT.out) B2.out.size))
      have D:Hid (w.heap.size≤mS∧Blk v3 mS 48 (itC n.eb n.sb)∧Blk v3 mT 48 (tuC mS)):=qH ⟨HMS.out,XS.out.only q2 (by rw[List.mem_singleton];exact HNE.out),q1⟩;clear q1 q2 XS XT;refine hK.out _ _ (HSS.out _ B3.out) (fun hS=>?_);clear hK K
      try simp only[PU]
      refine wpAnyH_done (by kernel_rfl) ?_ _;clear hS;go_wp2_with fail;go_meet
      case rel=>exact⟨mS,mT,rfl,D.out.1,qH D.out.2.1,qH D.out.2.2,B3⟩
  case rest=>
    obtain⟨m1,m4,rfl,hm1,HX1,HX4,HB⟩:=hcut;have HM1:=qH hm1;have HX4':=HX4.out;unfold tuC at HX4';have HX4:=qH HX4';clear hm1 HX4' c6 c8;go_upto_region 1 with fail
    go_cut [5] from 7 (fun s5 wz=>∃ m5,s5 = .pointer (some ⟨m5,0,none⟩)∧w.heap.size≤m5∧Hid (Blk wz m5 50 (sgC (sgN exB exA n.eb n.sb) (sgX exB exA m1)).toArray)∧Hid (Blk wz m1 48 (itC n.eb n.sb))∧Hid (Below w.heap.size w wz))
    case first=>
      have X4:=qH HX4.out;have CN:=qH (fun W=>names_any W);have CA:=qH (fun W=>pid31 exB 1 W);have CB:=qH (fun W=>pid31 exA 1 W);unfold ftV pidX at CA CB;dsimp only[noB] at CA CB;refine wp_region_held_drew (S:=(fun w'=>Blk w' m4 48 #[.int .i64 7,.int .i64 0,.int .i64 0,.string ⟨#[]⟩,.string ⟨#[]⟩,.int .i64 0,.slice (some ⟨m1,0,none⟩) 2 2,.string ⟨#[]⟩,.int .i64 0])) (by kernel_rfl) (X4.out.drew) (fun hS=>?_)
      replace X4:=qH X4.out.drew;replace HX1:=qH HX1.out.drew;replace HB:=qH HB.out.drew;generalize wc.drew=wd at *;refine tl 1 24 rfl (fun w hSw=>by go_simp;with_reducible rfl) ?_;simp only[PU];refine tl 5 28 rfl (fun w hSw=>by go_simp;with_reducible rfl) ?_;simp only[PU];refine tl 6 29 rfl (fun w hSw=>by go_simp;with_reducible rfl) ?_;simp only[PU];refine tl 9 32 rfl (fun w hSw=>by refine exec_load_blk 48 (.tmp 4) ?_ m4 ?_ _ 48 _ hSw Tryz.underlying48 rfl (by kernel_rfl);all_goals rfl) ?_
      simp only[PU]
      all_goals
        first
        | (have zz:=Z5.out
           clear zz;refine wpAnyH_ready (rs:=[0]) (by kernel_rfl) (by simp) ?_;refine AllReadyH.cons rfl (fun K hK=>?_) AllReadyH.nil)
        | (refine wpAnyH_ready (rs:=[0,11]) (by kernel_rfl) (by simp) ?_
           refine AllReadyH.cons rfl (fun K hK=>?gx0) (AllReadyH.cons rfl (fun K hK=>?gy0) AllReadyH.nil)
           case' gy0=>
             go_simp;have Z5:=qH (Blk.new wd 50 zG);have HZ5:=qH HB.out.size;have HZ1:=qH HX1.out.lt;have HZ4:=qH X4.out.lt;have AL:=(Below.refl wd.heap.size wd).alloc (Nat.le_refl _) (.cells zG 50);obtain⟨z5,hz5⟩:∃ z,z=wd.heap.size:=⟨_,rfl⟩;have HZN:=qH hz5;rw[←hz5] at Z5 HZ5 ⊢;replace HZ1:Hid (m1<z5):=qH (by rw[hz5];exact HZ1.out);replace X4:=qH (X4.out.below AL X4.out.lt);replace HX1:=qH (HX1.out.below AL HX1.out.lt)
             replace HB:=qH (HB.out.trans (AL.mono HB.out.size));replace HZ4:Hid (m4≠z5):=qH (by rw[hz5];exact Nat.ne_of_lt HZ4.out);clear AL hz5 HZN;refine hK.out _ _ X4.out (fun hS=>?_);clear hK K
             try simp only[PU]
             generalize wd.alloc (.cells _ 50)=wd' at *;refine wpAnyH_ready (rs:=[0]) (by kernel_rfl) (by simp) ?_;refine AllReadyH.cons rfl (fun K hK=>?_) AllReadyH.nil;skip)
      all_goals
        go_simp;refine(CN.out _).mono ?_;rintro e y0 ⟨rfl,b2⟩;replace X4:=qH (X4.out.below b2 X4.out.lt);replace HX1:=qH (HX1.out.below b2 HX1.out.lt);replace HB:=qH (HB.out.trans (b2.mono HB.out.size))
        try (replace Z5:=qH (Z5.out.below b2 Z5.out.lt))
        clear b2;go_wp2_with fail;refine hK.out _ _ X4.out (fun hS=>?_);clear hK K
        try simp only[PU]
        refine tl 2 25 rfl (fun w hSw=>by go_simp;with_reducible rfl) ?_;simp only[PU]
      all_goals
        first
        | (have zz:=Z5.out
           clear zz;refine wpAnyH_ready (rs:=[3]) (by kernel_rfl) (by simp) ?_;refine AllReadyH.cons rfl (fun K hK=>?_) AllReadyH.nil)
        | (refine wpAnyH_ready (rs:=[3,11]) (by kernel_rfl) (by simp) ?_
           refine AllReadyH.cons rfl (fun K hK=>?gx1) (AllReadyH.cons rfl (fun K hK=>?gy1) AllReadyH.nil)
           case' gy1=>
             go_simp;have Z5:=qH (Blk.new y0 50 zG);have HZ5:=qH HB.out.size;have HZ1:=qH HX1.out.lt;have HZ4:=qH X4.out.lt;have AL:=(Below.refl y0.heap.size y0).alloc (Nat.le_refl _) (.cells zG 50);obtain⟨z5,hz5⟩:∃ z,z=y0.heap.size:=⟨_,rfl⟩;have HZN:=qH hz5;rw[←hz5] at Z5 HZ5 ⊢;replace HZ1:Hid (m1<z5):=qH (by rw[hz5];exact HZ1.out);replace X4:=qH (X4.out.below AL X4.out.lt);replace HX1:=qH (HX1.out.below AL HX1.out.lt)
             replace HB:=qH (HB.out.trans (AL.mono HB.out.size));replace HZ4:Hid (m4≠z5):=qH (by rw[hz5];exact Nat.ne_of_lt HZ4.out);clear AL hz5 HZN;refine hK.out _ _ X4.out (fun hS=>?_);clear hK K
             try simp only[PU]
             generalize y0.alloc (.cells _ 50)=y0' at *;refine wpAnyH_ready (rs:=[3]) (by kernel_rfl) (by simp) ?_;refine AllReadyH.cons rfl (fun K hK=>?_) AllReadyH.nil;skip)
      all_goals
        go_simp;refine(CA.out _).mono ?_;rintro e y1 ⟨rfl,b2⟩;replace X4:=qH (X4.out.below b2 X4.out.lt);replace HX1:=qH (HX1.out.below b2 HX1.out.lt);replace HB:=qH (HB.out.trans (b2.mono HB.out.size))
        try (replace Z5:=qH (Z5.out.below b2 Z5.out.lt))
        clear b2;go_wp2_with fail;refine hK.out _ _ X4.out (fun hS=>?_);clear hK K
        try simp only[PU]
      all_goals
        first
        | (have zz:=Z5.out
           clear zz;refine wpAnyH_ready (rs:=[4]) (by kernel_rfl) (by simp) ?_;refine AllReadyH.cons rfl (fun K hK=>?_) AllReadyH.nil)
        | (refine wpAnyH_ready (rs:=[4,11]) (by kernel_rfl) (by simp) ?_
           refine AllReadyH.cons rfl (fun K hK=>?gx2) (AllReadyH.cons rfl (fun K hK=>?gy2) AllReadyH.nil)
           case' gy2=>
             go_simp;have Z5:=qH (Blk.new y1 50 zG);have HZ5:=qH HB.out.size;have HZ1:=qH HX1.out.lt;have HZ4:=qH X4.out.lt;have AL:=(Below.refl y1.heap.size y1).alloc (Nat.le_refl _) (.cells zG 50);obtain⟨z5,hz5⟩:∃ z,z=y1.heap.size:=⟨_,rfl⟩;have HZN:=qH hz5;rw[←hz5] at Z5 HZ5 ⊢;replace HZ1:Hid (m1<z5):=qH (by rw[hz5];exact HZ1.out);replace X4:=qH (X4.out.below AL X4.out.lt);replace HX1:=qH (HX1.out.below AL HX1.out.lt)
             replace HB:=qH (HB.out.trans (AL.mono HB.out.size));replace HZ4:Hid (m4≠z5):=qH (by rw[hz5];exact Nat.ne_of_lt HZ4.out);clear AL hz5 HZN;refine hK.out _ _ X4.out (fun hS=>?_);clear hK K
             try simp only[PU]
             generalize y1.alloc (.cells _ 50)=y1' at *;refine wpAnyH_ready (rs:=[4]) (by kernel_rfl) (by simp) ?_;refine AllReadyH.cons rfl (fun K hK=>?_) AllReadyH.nil;skip)
      all_goals
        go_simp;refine(CN.out _).mono ?_;rintro e y2 ⟨rfl,b2⟩;replace X4:=qH (X4.out.below b2 X4.out.lt);replace HX1:=qH (HX1.out.below b2 HX1.out.lt);replace HB:=qH (HB.out.trans (b2.mono HB.out.size))
        try (replace Z5:=qH (Z5.out.below b2 Z5.out.lt))
        clear b2;go_wp2_with fail;refine hK.out _ _ X4.out (fun hS=>?_);clear hK K
        try simp only[PU]
        refine tl 7 30 rfl (fun w hSw=>by go_simp;with_reducible rfl) ?_;simp only[PU]
      all_goals
        first
        | (have zz:=Z5.out
           clear zz;refine wpAnyH_ready (rs:=[8]) (by kernel_rfl) (by simp) ?_;refine AllReadyH.cons rfl (fun K hK=>?_) AllReadyH.nil)
        | (refine wpAnyH_ready (rs:=[8,11]) (by kernel_rfl) (by simp) ?_
           refine AllReadyH.cons rfl (fun K hK=>?gx3) (AllReadyH.cons rfl (fun K hK=>?gy3) AllReadyH.nil)
           case' gy3=>
             go_simp;have Z5:=qH (Blk.new y2 50 zG);have HZ5:=qH HB.out.size;have HZ1:=qH HX1.out.lt;have HZ4:=qH X4.out.lt;have AL:=(Below.refl y2.heap.size y2).alloc (Nat.le_refl _) (.cells zG 50);obtain⟨z5,hz5⟩:∃ z,z=y2.heap.size:=⟨_,rfl⟩;have HZN:=qH hz5;rw[←hz5] at Z5 HZ5 ⊢;replace HZ1:Hid (m1<z5):=qH (by rw[hz5];exact HZ1.out);replace X4:=qH (X4.out.below AL X4.out.lt);replace HX1:=qH (HX1.out.below AL HX1.out.lt)
             replace HB:=qH (HB.out.trans (AL.mono HB.out.size));replace HZ4:Hid (m4≠z5):=qH (by rw[hz5];exact Nat.ne_of_lt HZ4.out);clear AL hz5 HZN;refine hK.out _ _ X4.out (fun hS=>?_);clear hK K
             try simp only[PU]
             generalize y2.alloc (.cells _ 50)=y2' at *;refine wpAnyH_ready (rs:=[8]) (by kernel_rfl) (by simp) ?_;refine AllReadyH.cons rfl (fun K hK=>?_) AllReadyH.nil;skip)
      all_goals
        go_simp;refine(CB.out _).mono ?_;rintro e y3 ⟨rfl,b2⟩;replace X4:=qH (X4.out.below b2 X4.out.lt);replace HX1:=qH (HX1.out.below b2 HX1.out.lt);replace HB:=qH (HB.out.trans (b2.mono HB.out.size))
        try (replace Z5:=qH (Z5.out.below b2 Z5.out.lt))
        clear b2;go_wp2_with fail;refine hK.out _ _ X4.out (fun hS=>?_);clear hK K
        try simp only[PU]
      all_goals
        refine tl 10 33 rfl (fun w hSw=>by go_simp;with_reducible rfl) ?_;simp only[PU]
      all_goals
        first
        | (have zz:=Z5.out
           clear zz)
        | (refine wpAnyH_ready (rs:=[11]) (by kernel_rfl) (by simp) ?_
           refine AllReadyH.cons rfl (fun K hK=>?_) AllReadyH.nil;go_simp;have Z5:=qH (Blk.new y3 50 zG);have HZ5:=qH HB.out.size;have HZ1:=qH HX1.out.lt;have HZ4:=qH X4.out.lt;have AL:=(Below.refl y3.heap.size y3).alloc (Nat.le_refl _) (.cells zG 50);obtain⟨z5,hz5⟩:∃ z,z=y3.heap.size:=⟨_,rfl⟩;have HZN:=qH hz5;rw[←hz5] at Z5 HZ5 ⊢;replace HZ1:Hid (m1<z5):=qH (by rw[hz5];exact HZ1.out);replace X4:=qH (X4.out.below AL X4.out.lt)
           replace HX1:=qH (HX1.out.below AL HX1.out.lt);replace HB:=qH (HB.out.trans (AL.mono HB.out.size));replace HZ4:Hid (m4≠z5):=qH (by rw[hz5];exact Nat.ne_of_lt HZ4.out);clear AL hz5 HZN;refine hK.out _ _ X4.out (fun hS=>?_);clear hK K
           try simp only[PU]
           generalize y3.alloc (.cells _ 50)=y3' at *;skip)
      all_goals
        refine wpAnyH_ready (rs:=[12]) (by kernel_rfl) (by simp) ?_;refine AllReadyH.cons rfl (fun K hK=>?_) AllReadyH.nil;refine step_store_blk rfl 50 _ _ rfl rfl z5 (sgC (sgN exB exA n.eb n.sb) (sgX exB exA m1)).toArray zG 50 rfl rfl Z5.out rfl (by kernel_rfl) (by simp[Value.oneCell',sgC,ftC,sgX,pidX,zerX]) ?_;intro y9 q1 q2;have D:Hid (Blk y9 z5 50 (sgC (sgN exB exA n.eb n.sb) (sgX exB exA m1)).toArray∧Blk y9 m1 48 (itC n.eb n.sb)∧Below w.heap.size w y9):=qH ⟨q1,HX1.out.only q2 (by rw[List.mem_singleton];have:=HZ1.out;omega),HB.out.trans (q2.below (n:=w.heap.size) (by rw[List.forall_mem_singleton];exact HZ5.out) HB.out.size)⟩
        replace X4:=qH (X4.out.only q2 (by rw[List.mem_singleton];exact HZ4.out));clear q1 q2 Z5;refine hK.out _ _ X4.out (fun hS=>?_);clear hK K
        try simp only[PU]
        refine wpAnyH_done (by kernel_rfl) ?_ _;clear hS;go_wp2_with fail;go_meet
        case rel=>exact⟨z5,rfl,HZ5.out,qH D.out.1,qH D.out.2.1,qH D.out.2.2⟩
    case rest=>
      obtain⟨m5,rfl,hm5,HX5,HX1,HB⟩:=hcut;have HM5:=qH hm5;clear hm5;have HPW:=qH (H.out.below HB.out);have HSG:=qH (sgX_at exB exA HX1.out HM1.out);have HBB:=qH (HB.out.mono H.out.na.bz);obtain⟨CS,hCS⟩:∃ z,z=(sgC (sgN exB exA n.eb n.sb) (sgX exB exA m1)).toArray:=⟨_,rfl⟩;have HSV:Hid (sgV (sgN exB exA n.eb n.sb) (sgX exB exA m1) = .agg CS):=qH (by rw[hCS];rfl);have HSZ:Hid (CS.size=40):=qH (by rw[hCS];rfl)
      rw[←hCS] at HX5;clear hCS HX1 HB HX4;have CSD:Hid (∀ W,Below wc.heap.size wc W→Calls Tryz.prog 20 #[.pointer (some ⟨P.b.g,0,none⟩),.agg CS] W fun e w'=>e = .returned (.int .i64 c)∧∃ a',NdAt w' base n1 a'∧Trail W w' P.b a'):=qH (fun W b=>by
        have n1':nameF exB=true:=by decide +kernel
        have n2':nameF exA=true:=by decide +kernel
        have he:=HE.out;have hm:=HM.out
        have:=send_any (HPW.out.nb.below b) (fun q=>w.heap.size≤q) (sgN exB exA n.eb n.sb) (sgX exB exA m1) (HSG.out.below b (fun _ _ h=>h)) (fun b' hb hf=>by have:=HFT.out b' hf;omega) (sg_fit n1' n2' (by omega) (by omega)) (sg_valid n1' n2') (sg_src.trans HNM.out.1.symm) rfl rfl (by rw[HNM.out.2];rfl) exA sg_tgt
          (by rw[HK.out.o];simp) (fun y hy hg=>⟨by rw[(HI.out y hy hg).1];rfl,(HI.out y hy hg).2⟩) (sg_size n1' n2' (by omega) (by omega))
        rw[HSV.out,HR.out] at this;exact this)
      go_upto_region 2 with fail
      have c0:wc.cell? ⟨gg,1,none⟩=some (.pointer (some ⟨P.b.g,0,none⟩)):=HPW.out.cpb HGG.out.symm;refine wp_region_held_drew (S:=(fun w'=>w'.cell? ⟨gg,1,none⟩=some (.pointer (some ⟨P.b.g,0,none⟩))∧Blk w' m5 50 CS)) (by kernel_rfl) (⟨c0,HX5.out.drew⟩) (fun hS=>?_);have BD:Hid (Below wc.heap.size wc wc.drew):=qH (Below.refl _ wc).drew;have HPD:=qH (HPW.out.below BD.out);have HX5D:=qH HX5.out.drew;have HSL:=qH BD.out.size
      generalize wc.drew=wd at *;clear c0;refine tl 0 34 rfl (fun w hSw=>by go_simp;with_reducible rfl) ?_;simp only[PU];refine tl 1 35 rfl (fun w hSw=>by go_simp;with_reducible rfl) ?_;simp only[PU];refine tl 2 36 rfl (fun w hSw=>by go_simp;with_reducible rfl) ?_;simp only[PU];refine tl 3 37 rfl (fun w hSw=>by go_simp;with_reducible rfl) ?_;simp only[PU];refine tl 4 38 rfl (fun w hSw=>by go_simp;with_reducible rfl) ?_
      simp only[PU];refine tl 5 39 rfl (fun w hSw=>by have a0:=hSw.1;go_simp;with_reducible rfl) ?_;simp only[PU];refine tl 6 40 rfl (fun w hSw=>by refine exec_load_blk 50 (.tmp 5) ?_ m5 ?_ CS 50 _ hSw.2 Tryz.underlying50 rfl (by rw[HSZ.out];exact info26);all_goals rfl) ?_;simp only[PU];refine wpAnyH_ready (rs:=[7]) (by kernel_rfl) (by simp) ?_;refine AllReadyH.cons rfl (fun K hK=>?_) AllReadyH.nil
      go_simp;refine(CSD.out wd BD.out).mono ?_;rintro e w6 ⟨rfl,a6,q1,q2⟩;have H6:=qH (HPD.out.setB q1 q2);have B6:=qH ((HBB.out.trans (BD.out.mono HPW.out.na.bz)).trans (Trail.kept HPD.out.nb q2));have c0:w6.cell? ⟨gg,1,none⟩=some (.pointer (some ⟨P.b.g,0,none⟩)):=(H6.out.cpb HGG.out.symm).trans (by rw[q2.g]);have X6:Blk w6 m5 50 CS:=HX5D.out.only q2.only (fun hb=>by have:=HFT.out _ hb;have:=HM5.out;omega)
      clear q1 q2 CSD;go_wp2_with fail;refine hK.out _ _ (⟨c0,X6⟩) (fun hS=>?_);clear hK K
      try simp only[PU]
      refine tl 8 6 rfl (fun w hSw=>by go_simp;with_reducible rfl) ?_;simp only[PU];refine wpAnyH_done (by kernel_rfl) ?_ _;clear hS;clear c0 X6 HX5 HX5D HPW HPD BD HSG HSV HSZ HSL HBB HNM HK HI HR HE HFT H;obtain⟨P2,hP2⟩:∃ y:Pb,y = { P with b:=a6 }:=⟨_,rfl⟩;have HG2:Hid (P2.g=gg):=qH (by rw[hP2];exact HGG.out.symm);rw[←hP2] at H6;clear hP2;have c16:w6.cell? ⟨gg,16,none⟩=some (.bool true):=blk_at H6.out.blk 16 HG2.out rfl rfl
      have c4:w6.cell? ⟨gg,5,none⟩=some (.bool s.ub):=blk_at H6.out.blk 5 HG2.out rfl rfl;have f16:w6.frozen? ⟨gg,16,none⟩=false:=by rw[←HG2.out];exact H6.out.blk.frozen 16
      have H7:Hid (PwAt (w6.setCell ⟨gg,16,none⟩ (.bool true)) base { s with nb:=n1 } n P2):=qH (by
        have:=H6.out.own (ua:=s.ua) (ub:=s.ub) (n':=n) (Only.setCell w6 ⟨P2.g,16,none⟩ (.bool true) (by simp)) (H6.out.blk.set_ 16 (.bool true))
        rw[HG2.out] at this;exact this)
      have B7:=qH (B6.out.setCell (p:=⟨gg,16,none⟩) (by rw[←HG2.out];exact H6.out.bg) (.bool true));clear H6 B6;rcases HC.out with ⟨hc0,hu⟩|⟨hc0,hu⟩
      · rw[hu] at c4
        subst hc0;clear hu;go_upto_region 5 with fail
        clear c16 c4 f16;generalize w6.setCell ⟨gg,16,none⟩ (.bool true)=w7 at *;have c8:w7.cell? ⟨gg,9,none⟩=some (.int .i64 n.sb):=blk_at H7.out.blk 9 HG2.out rfl rfl;have f8:w7.frozen? ⟨gg,9,none⟩=false:=by rw[←HG2.out];exact H7.out.blk.frozen 9
        have hw8:IntKind.i64.wrap (n.sb+1)=n.sb+1:=by have:=HM.out;rw[IntKind.wrap_i64]<;>omega
        have H8:Hid (PwAt (w7.setCell ⟨gg,9,none⟩ (.int .i64 (n.sb+1))).drew base { s with nb:=n1 } { n with sb:=n.sb+1 } P2):=qH (by
          have:=(H7.out.own (ua:=s.ua) (ub:=s.ub) (n':={ n with sb:=n.sb+1 }) (Only.setCell w7 ⟨P2.g,9,none⟩ (.int .i64 (n.sb+1)) (by simp)) (H7.out.blk.set_ 9 (.int .i64 (n.sb+1)))).below (Below.refl _ _).drew
          rw[HG2.out] at this;exact this)
        have B8:Hid (Below base w (w7.setCell ⟨gg,9,none⟩ (.int .i64 (n.sb+1))).drew):=qH (B7.out.setCell (p:=⟨gg,9,none⟩) (by rw[←HG2.out];exact H7.out.bg) (.int .i64 (n.sb+1))).drew;clear H7 B7;go_still_tail 10,(by kernel_rfl);change wpList _ _ _ _ _ w7.drew;go_upto_region 6 with fail
        clear c8 f8 hw8;generalize (w7.setCell ⟨gg,9,none⟩ (.int .i64 (n.sb+1))).drew=w8 at *;have CC:=qH (collect_any H8.out HO2.out HO.out HL.out HL2.out);rw[HG2.out] at CC;unfold ptrV at CC;go_wp2_with fail;refine CC.out.mono ?_;rintro e w9 ⟨rfl,h9⟩;have H9:=qH h9;clear h9 CC;go_wp2_with fail;go_end0;exact⟨rfl,Col.trans (HG2.out.trans HGG.out) B8.out H9.out⟩
      · rw[hu] at c4
        subst hc0;clear hu;go_upto_region 6 with fail
        clear c16 c4 f16;generalize w6.setCell ⟨gg,16,none⟩ (.bool true)=w7 at *;have CC:=qH (collect_any H7.out HO2.out HO.out HL.out HL2.out);rw[HG2.out] at CC;unfold ptrV at CC;go_wp2_with fail;refine CC.out.mono ?_;rintro e w9 ⟨rfl,h9⟩;have H9:=qH h9;clear h9 CC;go_wp2_with fail;go_end0;exact⟨rfl,Col.trans (HG2.out.trans HGG.out) B7.out H9.out⟩
end Go.Proofs.YtoaimoemaoinhaaGreatDoor
