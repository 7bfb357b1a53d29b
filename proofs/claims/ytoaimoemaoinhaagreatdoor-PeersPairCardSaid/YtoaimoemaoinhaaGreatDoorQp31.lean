/- PeersX: a part of the proof. No condition beyond the premises of each theorem. -/
import Derived.Test.YtoaimoemaoinhaaGreatDoorQp30
import Derived.Test.YtoaimoemaoinhaaGreatDoorQp07
import Derived.Test.YtoaimoemaoinhaaGreatDoorQp00
set_option maxRecDepth 100000
namespace Go.Proofs.YtoaimoemaoinhaaGreatDoor
open Go Go.RowKit Go.Rt Go.Rw Go.Mp
set_option maxHeartbeats 8000000 in
theorem events_siga {w:World} {g b:Nat} {pa pb:Nat} {va vb:Value} {ub:Bool} {n:Nu} {C:Array Value} (hP:Blk w g 33 (prC pa pb va vb true ub n)) (hE:Blk w b 97 C) (hs:C.size=43) (h1:C.all (·.oneCell')=true)
  (e0:C[0]? = some (.int .i64 2)) (e1:C[1]? = some (.string exB)) {bi oi ci:Nat} {z0:Int} (e40:C[40]? = some (.slice (some ⟨bi,oi,none⟩) 2 ci)) (hz:∀ W,Only [g] w W→W.cell? ⟨bi,oi+1,none⟩=some (.int .i64 z0)∧W.cell? ⟨bi,oi+10,none⟩=some (.int .i64 n.ga))
  (hgg:0≤n.ga∧n.ga≤1000000) (ht:0≤n.ta∧n.ta<z0) (hf:n.fa=0∨n.fa=z0) :
  Calls Tryz.prog 14 #[ptrV g,.int .i64 0,.slice (some ⟨b,0,none⟩) 1 1] w fun e w'=>e = .returned (.tuple #[])∧Blk w' g 33 (prC pa pb va vb true ub { n with fa:=z0,ga:=n.ga+1 })∧Only [g] w w':=by
 have HZ:=qH hz;have HE40:=qH e40;have HGG:=qH hgg;have HTT:=qH ht;have HF:=qH hf;clear hz e40 hgg ht hf;have HP:=qH hP;have HE:=qH hE;have HE0:=qH e0;have HE1:=qH e1;have hi:(Tryz.prog.info? 97).map (·.size)=some C.size:=by rw[hs];exact info97
 have HI:=qH hi;have HS:=qH hs;have H1:=qH h1;have hix0:=name_at false;have hix1:=name_at true;simp only[if_true,if_false,Bool.false_eq_true] at hix0 hix1;have w1:IntKind.i64.wrap 1=1:=by kernel_rfl
 have w0:IntKind.i64.wrap 0=0:=by kernel_rfl
 clear hP hE e0 e1 hi hs h1;unfold ptrV;go_enter Tryz.func14,Tryz.ntmps14;go_wp2_with fail;go_loopw [6] (fun i wr=>(i = .int .i64 0∧wr=w)∨(i = .int .i64 1∧Hid (Blk wr g 33 (prC pa pb va vb true ub { n with fa:=z0,ga:=n.ga+1 })∧Only [g] w wr))) (fun i _=>1-(intOf i).toNat)
 case atStart=>exact .inl ⟨rfl,rfl⟩
 case round=>
  rcases hrel with ⟨rfl,rfl⟩|⟨rfl,HD⟩
  ·
   go_upto_region 4 with
    (first
     | (refine wpList_load_blk rfl 97 _ rfl b rfl C 97 _ HE.out Tryz.underlying97 rfl HI.out ?_)
     | (refine wpList_store_blk rfl 97 _ _ rfl rfl _ C _ 97 rfl rfl (Blk.new _ _ _) (HS.out.trans rfl) HI.out H1.out ?_))
   intro w2 hb2 ho2;obtain⟨x0,hx0⟩:∃ q,q=wr.heap.size:=⟨_,rfl⟩;rw[←hx0] at hb2 ho2 ⊢;have ne:g≠x0:=by have:=HP.out.lt;omega
   have P2:=(HP.out.alloc (.cells _ 97)).only ho2 (by simp[ne]);have O2:=qH (only_more (Only.alloc [g] wr (.cells _ 97)) ho2 (by simp[hx0]));have HX:=qH hb2;have HNE:=qH ne;have C0:w2.cell? ⟨x0,0,none⟩=some (.int .i64 2):=by rw[hb2.cell];exact HE0.out
   have g16:w2.cell? ⟨g,16,none⟩=some (.bool true):=P2.cell 16;have g4:w2.cell? ⟨g,4,none⟩=some (.bool true):=P2.cell 4;have f16:=P2.frozen 16;have f4:=P2.frozen 4;have C40:w2.cell? ⟨x0,40,none⟩=some (.slice (some ⟨bi,oi,none⟩) 2 ci):=by rw[hb2.cell];exact HE40.out
   have I2:=HZ.out w2 O2.out;have g5:w2.cell? ⟨g,10,none⟩=some (.int .i64 n.fa):=P2.cell 10;have g6:w2.cell? ⟨g,12,none⟩=some (.int .i64 n.ga):=P2.cell 12;have g7:w2.cell? ⟨g,14,none⟩=some (.int .i64 n.ta):=P2.cell 14;have HP2:=qH P2;have HX2:=qH hb2;clear hb2 ho2 hx0 ne P2 HX HP HE f4;go_upto_region 16 with fail
   clear C0 C40;simp only[List.append_eq,List.cons_append,List.nil_append];obtain⟨F,hF⟩:∃ q,q=n.fa:=⟨_,rfl⟩;rw[←hF] at g5;have HFQ:=qH hF.symm;have HFF:Hid (F=0∨z0=F):=qH (by rw[hF];exact HF.out.imp id Eq.symm);refine wp_region_held_drew (S:=(fun w'=>w'.cell? ⟨g,16,none⟩=some (.bool true)∧w'.cell? ⟨g,4,none⟩=some (.bool true)∧w'.cell? ⟨bi,oi+9+1,none⟩=some (.int .i64 n.ga)∧w'.cell? ⟨g,12,none⟩=some (.int .i64 n.ga)∧w'.cell? ⟨bi,oi+1,none⟩=some (.int .i64 z0)∧w'.cell? ⟨g,14,none⟩=some (.int .i64 n.ta)∧w'.cell? ⟨g,10,none⟩=some (.int .i64 F))) (by kernel_rfl) (⟨g16,g4,I2.2,g6,I2.1,g7,g5⟩) (fun hS=>?_)
   replace HP2:=qH HP2.out.drew;replace HX2:=qH HX2.out.drew;replace O2:=qH (O2.out.trans (Only.drew [g] w2));have f16:=HP2.out.frozen 16;generalize w2.drew=wd at *;clear g16 g4 I2 g5 g6 g7 hF;have hbq:(n.ga==n.ga)=true:=beq_self_eq_true _;have hgt:n.ta<z0:=HTT.out.2;have hlq:((2:Int)==2)=true:=rfl;refine tl 0 120 (v:=?_) rfl ?_ ?_;rotate_left
   ·
    intro w hSw;go_simp
    with_reducible rfl
   simp only[PU];refine tl 1 121 (v:=?_) rfl ?_ ?_;rotate_left
   ·
    intro w hSw;go_simp
    with_reducible rfl
   simp only[PU];refine tl 2 122 (v:=?_) rfl ?_ ?_;rotate_left
   ·
    intro w hSw;go_simp
    with_reducible rfl
   simp only[PU];refine tl 3 123 (v:=?_) rfl ?_ ?_;rotate_left
   ·
    intro w hSw;go_simp
    with_reducible rfl
   simp only[PU];refine tl 4 124 (v:=?_) rfl ?_ ?_;rotate_left
   ·
    intro w hSw;have a0:=hSw.1;go_simp
    with_reducible rfl
   simp only[PU];refine tl 5 125 (v:=?_) rfl ?_ ?_;rotate_left
   ·
    intro w hSw;go_simp
    with_reducible rfl
   simp only[PU];refine tl 6 126 (v:=?_) rfl ?_ ?_;rotate_left
   ·
    intro w hSw;go_simp
    with_reducible rfl
   simp only[PU];refine tl 7 127 (v:=?_) rfl ?_ ?_;rotate_left
   ·
    intro w hSw;go_simp
    with_reducible rfl
   simp only[PU];refine tl 8 128 (v:=?_) rfl ?_ ?_;rotate_left
   ·
    intro w hSw;go_simp
    with_reducible rfl
   simp only[PU];refine tl 9 129 (v:=?_) rfl ?_ ?_;rotate_left
   ·
    intro w hSw;go_simp
    with_reducible rfl
   simp only[PU];refine tl 10 130 (v:=?_) rfl ?_ ?_;rotate_left
   ·
    intro w hSw;go_simp
    with_reducible rfl
   simp only[PU];refine tl 11 131 (v:=?_) rfl ?_ ?_;rotate_left
   ·
    intro w hSw;have a0:=hSw.2.1;go_simp
    with_reducible rfl
   simp only[PU];refine tl 12 132 (v:=?_) rfl ?_ ?_;rotate_left
   ·
    intro w hSw;go_simp
    with_reducible rfl
   simp only[PU];refine tl 13 133 (v:=?_) rfl ?_ ?_;rotate_left
   ·
    intro w hSw;go_simp
    with_reducible rfl
   simp only[PU];refine tl 14 134 (v:=?_) rfl ?_ ?_;rotate_left
   ·
    intro w hSw;go_simp
    with_reducible rfl
   simp only[PU];refine tl 15 135 (v:=?_) rfl ?_ ?_;rotate_left
   ·
    intro w hSw;go_simp
    with_reducible rfl
   simp only[PU];refine tl 16 136 (v:=?_) rfl ?_ ?_;rotate_left
   ·
    intro w hSw;go_simp
    with_reducible rfl
   simp only[PU];refine tl 17 137 (v:=?_) rfl ?_ ?_;rotate_left
   ·
    intro w hSw;go_simp
    with_reducible rfl
   simp only[PU];refine tl 18 138 (v:=?_) rfl ?_ ?_;rotate_left
   ·
    intro w hSw;go_simp
    with_reducible rfl
   simp only[PU];refine tl 19 139 (v:=?_) rfl ?_ ?_;rotate_left
   ·
    intro w hSw;go_simp
    with_reducible rfl
   simp only[PU];refine tl 20 140 (v:=?_) rfl ?_ ?_;rotate_left
   ·
    intro w hSw;go_simp
    with_reducible rfl
   simp only[PU];refine tl 21 141 (v:=?_) rfl ?_ ?_;rotate_left
   ·
    intro w hSw;go_simp
    with_reducible rfl
   simp only[PU];refine tl 22 142 (v:=?_) rfl ?_ ?_;rotate_left
   ·
    intro w hSw;have a0:=hSw.2.2.1;go_simp
    with_reducible rfl
   simp only[PU];refine tl 23 143 (v:=?_) rfl ?_ ?_;rotate_left
   ·
    intro w hSw;go_simp
    with_reducible rfl
   simp only[PU];refine tl 24 144 (v:=?_) rfl ?_ ?_;rotate_left
   ·
    intro w hSw;go_simp
    with_reducible rfl
   simp only[PU];refine tl 25 145 (v:=?_) rfl ?_ ?_;rotate_left
   ·
    intro w hSw;go_simp
    with_reducible rfl
   simp only[PU]
   as_aux_lemma=>
    refine tl 26 146 (v:=?_) rfl ?_ ?_;rotate_left
    ·
     intro w hSw;go_simp
     with_reducible rfl
    simp only[PU];refine tl 27 147 (v:=?_) rfl ?_ ?_;rotate_left
    ·
     intro w hSw;go_simp
     with_reducible rfl
    simp only[PU];refine tl 28 148 (v:=?_) rfl ?_ ?_;rotate_left
    ·
     intro w hSw;have a0:=hSw.2.2.2.1;go_simp
     with_reducible rfl
    simp only[PU];refine tl 29 149 (v:=?_) rfl ?_ ?_;rotate_left
    ·
     intro w hSw;go_simp
     with_reducible rfl
    simp only[PU];refine tl 30 150 (v:=?_) rfl ?_ ?_;rotate_left
    ·
     intro w hSw;go_simp
     with_reducible rfl
    simp only[PU];refine tl 31 151 (v:=?_) rfl ?_ ?_;rotate_left
    ·
     intro w hSw;go_simp
     with_reducible rfl
    simp only[PU];refine tl 32 152 (v:=?_) rfl ?_ ?_;rotate_left
    ·
     intro w hSw;go_simp
     with_reducible rfl
    simp only[PU];refine tl 33 153 (v:=?_) rfl ?_ ?_;rotate_left
    ·
     intro w hSw;go_simp
     with_reducible rfl
    simp only[PU];refine tl 34 154 (v:=?_) rfl ?_ ?_;rotate_left
    ·
     intro w hSw;go_simp
     with_reducible rfl
    simp only[PU];refine tl 35 155 (v:=?_) rfl ?_ ?_;rotate_left
    ·
     intro w hSw;have a0:=hSw.2.2.2.2.1;go_simp
     with_reducible rfl
    simp only[PU];refine tl 36 156 (v:=?_) rfl ?_ ?_;rotate_left
    ·
     intro w hSw;go_simp
     with_reducible rfl
    simp only[PU];refine tl 37 157 (v:=?_) rfl ?_ ?_;rotate_left
    ·
     intro w hSw;go_simp
     with_reducible rfl
    simp only[PU];refine tl 38 158 (v:=?_) rfl ?_ ?_;rotate_left
    ·
     intro w hSw;go_simp
     with_reducible rfl
    simp only[PU];refine tl 39 159 (v:=?_) rfl ?_ ?_;rotate_left
    ·
     intro w hSw;go_simp
     with_reducible rfl
    simp only[PU];refine tl 40 160 (v:=?_) rfl ?_ ?_;rotate_left
    ·
     intro w hSw;go_simp
     with_reducible rfl
    simp only[PU];refine tl 41 161 (v:=?_) rfl ?_ ?_;rotate_left
    ·
     intro w hSw;have a0:=hSw.2.2.2.2.2.1;go_simp
     with_reducible rfl
    simp only[PU];refine tl 42 162 (v:=?_) rfl ?_ ?_;rotate_left
    ·
     intro w hSw;go_simp
     with_reducible rfl
    simp only[PU];refine tl 43 163 (v:=?_) rfl ?_ ?_;rotate_left
    ·
     intro w hSw;go_simp
     with_reducible rfl
    simp only[PU];refine tl 44 164 (v:=?_) rfl ?_ ?_;rotate_left
    ·
     intro w hSw;go_simp
     with_reducible rfl
    simp only[PU];refine tl 45 165 (v:=?_) rfl ?_ ?_;rotate_left
    ·
     intro w hSw;go_simp
     with_reducible rfl
    simp only[PU];refine tl 46 166 (v:=?_) rfl ?_ ?_;rotate_left
    ·
     intro w hSw;go_simp
     with_reducible rfl
    simp only[PU];refine tl 47 167 (v:=?_) rfl ?_ ?_;rotate_left
    ·
     intro w hSw;go_simp
     with_reducible rfl
    simp only[PU];refine tl 48 168 (v:=?_) rfl ?_ ?_;rotate_left
    ·
     intro w hSw;go_simp
     with_reducible rfl
    simp only[PU];refine tl 49 169 (v:=?_) rfl ?_ ?_;rotate_left
    ·
     intro w hSw;go_simp
     with_reducible rfl
    simp only[PU];refine tl 50 170 (v:=?_) rfl ?_ ?_;rotate_left
    ·
     intro w hSw;have a0:=hSw.2.2.2.2.2.2;go_simp
     with_reducible rfl
    simp only[PU];rcases HFF.out with rfl|rfl
    case' inl=>
     have h00:((0:Int)==0)=true:=rfl;refine tl 51 171 (v:=?_) rfl ?_ ?_;rotate_left
     ·
      intro w hSw;go_simp
      with_reducible rfl
     simp only[PU];refine tl 52 172 (v:=?_) rfl ?_ ?_;rotate_left
     ·
      intro w hSw;go_simp
      with_reducible rfl
     simp only[PU];refine tks (i:=53) rfl (by rfl) (by assumption) ?_;change wpAnyH _ _ _ _ _ _ _ (Act.put _ (some 173) _) _;simp only[PU];refine tks (i:=54) rfl (by rfl) (by assumption) ?_;change wpAnyH _ _ _ _ _ _ _ (Act.put _ (some 174) _) _;simp only[PU];refine tks (i:=55) rfl (by rfl) (by assumption) ?_;change wpAnyH _ _ _ _ _ _ _ (Act.put _ (some 175) _) _;simp only[PU];refine tks (i:=56) rfl (by rfl) (by assumption) ?_
     change wpAnyH _ _ _ _ _ _ _ (Act.put _ (some 176) _) _;simp only[PU];refine tks (i:=57) rfl (by rfl) (by assumption) ?_;change wpAnyH _ _ _ _ _ _ _ (Act.put _ (some 177) _) _;simp only[PU];refine tks (i:=58) rfl (by rfl) (by assumption) ?_;change wpAnyH _ _ _ _ _ _ _ (Act.put _ (some 178) _) _;simp only[PU];refine tks (i:=59) rfl (by rfl) (by assumption) ?_;change wpAnyH _ _ _ _ _ _ _ (Act.put _ (some 179) _) _
     simp only[PU];refine tks (i:=60) rfl (by rfl) (by assumption) ?_;change wpAnyH _ _ _ _ _ _ _ (Act.put _ (some 180) _) _;simp only[PU];refine tks (i:=61) rfl (by rfl) (by assumption) ?_;change wpAnyH _ _ _ _ _ _ _ (Act.put _ (some 181) _) _;simp only[PU];refine tks (i:=62) rfl (by rfl) (by assumption) ?_;change wpAnyH _ _ _ _ _ _ _ (Act.put _ (some 182) _) _;simp only[PU];refine tks (i:=63) rfl (by rfl) (by assumption) ?_
     change wpAnyH _ _ _ _ _ _ _ (Act.put _ (some 183) _) _;simp only[PU];refine tl 64 184 (v:=?_) rfl ?_ ?_;rotate_left
     ·
      intro w hSw;go_simp
      with_reducible rfl
     simp only[PU];refine tl 65 185 (v:=?_) rfl ?_ ?_;rotate_left
     ·
      intro w hSw;go_simp
      with_reducible rfl
     simp only[PU];refine tl 66 186 (v:=?_) rfl ?_ ?_;rotate_left
     ·
      intro w hSw;go_simp
      with_reducible rfl
     simp only[PU];refine tl 67 187 (v:=?_) rfl ?_ ?_;rotate_left
     ·
      intro w hSw;go_simp
      with_reducible rfl
     simp only[PU]
    case' inr=>
     have h00:(z0==0)=false:=by rw[beq_eq_false_iff_ne];have:=HTT.out;omega
     have hzz:(z0==z0)=true:=beq_self_eq_true _;refine tl 51 171 (v:=?_) rfl ?_ ?_;rotate_left
     ·
      intro w hSw;go_simp
      with_reducible rfl
     simp only[PU];refine tl 52 172 (v:=?_) rfl ?_ ?_;rotate_left
     ·
      intro w hSw;go_simp
      with_reducible rfl
     simp only[PU];refine tl 53 173 (v:=?_) rfl ?_ ?_;rotate_left
     ·
      intro w hSw;go_simp
      with_reducible rfl
     simp only[PU];refine tl 54 174 (v:=?_) rfl ?_ ?_;rotate_left
     ·
      intro w hSw;go_simp
      with_reducible rfl
     simp only[PU];refine tl 55 175 (v:=?_) rfl ?_ ?_;rotate_left
     ·
      intro w hSw;go_simp
      with_reducible rfl
     simp only[PU];refine tl 56 176 (v:=?_) rfl ?_ ?_;rotate_left
     ·
      intro w hSw;go_simp
      with_reducible rfl
     simp only[PU];refine tl 57 177 (v:=?_) rfl ?_ ?_;rotate_left
     ·
      intro w hSw;go_simp
      with_reducible rfl
     simp only[PU];refine tl 58 178 (v:=?_) rfl ?_ ?_;rotate_left
     ·
      intro w hSw;have a0:=hSw.2.2.2.2.2.2;go_simp
      with_reducible rfl
     simp only[PU];refine tl 59 179 (v:=?_) rfl ?_ ?_;rotate_left
     ·
      intro w hSw;go_simp
      with_reducible rfl
     simp only[PU];refine tl 60 180 (v:=?_) rfl ?_ ?_;rotate_left
     ·
      intro w hSw;go_simp
      with_reducible rfl
     simp only[PU];refine tl 61 181 (v:=?_) rfl ?_ ?_;rotate_left
     ·
      intro w hSw;go_simp
      with_reducible rfl
     simp only[PU];refine tl 62 182 (v:=?_) rfl ?_ ?_;rotate_left
     ·
      intro w hSw;have a0:=hSw.2.2.2.2.1;go_simp
      with_reducible rfl
     simp only[PU];refine tl 63 183 (v:=?_) rfl ?_ ?_;rotate_left
     ·
      intro w hSw;go_simp
      with_reducible rfl
     simp only[PU];refine tl 64 184 (v:=?_) rfl ?_ ?_;rotate_left
     ·
      intro w hSw;go_simp
      with_reducible rfl
     simp only[PU];refine tl 65 185 (v:=?_) rfl ?_ ?_;rotate_left
     ·
      intro w hSw;go_simp
      with_reducible rfl
     simp only[PU];refine tl 66 186 (v:=?_) rfl ?_ ?_;rotate_left
     ·
      intro w hSw;go_simp
      with_reducible rfl
     simp only[PU];refine tl 67 187 (v:=?_) rfl ?_ ?_;rotate_left
     ·
      intro w hSw;go_simp
      with_reducible rfl
     simp only[PU]
    all_goals
     refine wpAnyH_ready (rs:=[68]) (by kernel_rfl) (by simp) ?_;refine AllReadyH.cons rfl (fun K hK=>?_) AllReadyH.nil;go_simp;have HP3:Hid (Blk (wd.setCell ⟨g,16,none⟩ (.bool true)) g 33 (prC pa pb va vb true ub n)):=qH (HP2.out.set_ 16 (.bool true));have O3:Hid (Only [g] wr (wd.setCell ⟨g,16,none⟩ (.bool true))):=qH (O2.out.trans (Only.setCell wd ⟨g,16,none⟩ (.bool true) (by simp)));have X3:=qH (HX2.out.far (p:=⟨g,16,none⟩) (Ne.symm HNE.out) (.bool true))
     have I3:=qH (HZ.out _ O3.out);refine hK.out _ _ ⟨HP3.out.cell 16,HP3.out.cell 4,I3.out.2,HP3.out.cell 12,I3.out.1,HP3.out.cell 14,(by rw[HP3.out.cell 10];exact congrArg (fun z=>some (Value.int .i64 z)) HFQ.out)⟩ (fun hS=>?_);clear hK K
     try simp only[PU]
     refine wpAnyH_done (by kernel_rfl) ?_ _;clear hS HP2 O2 HX2 f16;generalize wd.setCell ⟨g,16,none⟩ (.bool true)=w3 at *
     as_aux_lemma=>
      have i0:w3.cell? ⟨bi,oi+1,none⟩=some (.int .i64 z0):=I3.out.1;have f5:=HP3.out.frozen 10;have g5:w3.cell? ⟨g,10,none⟩=some (.int .i64 n.fa):=HP3.out.cell 10;go_upto_region 18 with fail
      have HP4:Hid (Blk (w3.setCell ⟨g,10,none⟩ (.int .i64 z0)).drew g 33 (prC pa pb va vb true ub { n with fa:=z0 })):=qH (HP3.out.drew.set_ 10 (.int .i64 z0));have O4:Hid (Only [g] wr (w3.setCell ⟨g,10,none⟩ (.int .i64 z0)).drew):=qH ((O3.out.trans (Only.drew _ w3)).trans (Only.setCell w3.drew ⟨g,10,none⟩ (.int .i64 z0) (by simp)));have X4:Hid (Blk (w3.setCell ⟨g,10,none⟩ (.int .i64 z0)).drew x0 97 C):=qH (X3.out.drew.far (p:=⟨g,10,none⟩) (Ne.symm HNE.out) (.int .i64 z0))
      clear HP3 O3 X3 I3;go_still_tail 9,(by kernel_rfl);change wpList _ _ _ _ _ w3.drew;go_upto_region 19 with fail
      clear i0 f5 g5;generalize (w3.setCell ⟨g,10,none⟩ (.int .i64 z0)).drew=w4 at *;have g6:w4.cell? ⟨g,12,none⟩=some (.int .i64 n.ga):=HP4.out.cell 12;have f6:=HP4.out.frozen 12;have hw6:IntKind.i64.wrap (n.ga+1)=n.ga+1:=by have:=HGG.out;rw[IntKind.wrap_i64]<;>omega
      have HP5:Hid (Blk (w4.setCell ⟨g,12,none⟩ (.int .i64 (n.ga+1))).drew g 33 (prC pa pb va vb true ub { n with fa:=z0,ga:=n.ga+1 })):=qH (HP4.out.drew.set_ 12 (.int .i64 (n.ga+1)));have O5:Hid (Only [g] wr (w4.setCell ⟨g,12,none⟩ (.int .i64 (n.ga+1))).drew):=qH ((O4.out.trans (Only.drew _ w4)).trans (Only.setCell w4.drew ⟨g,12,none⟩ (.int .i64 (n.ga+1)) (by simp)));have X5:Hid (Blk (w4.setCell ⟨g,12,none⟩ (.int .i64 (n.ga+1))).drew x0 97 C):=qH (X4.out.drew.far (p:=⟨g,12,none⟩) (Ne.symm HNE.out) (.int .i64 (n.ga+1)))
      clear HP4 O4 X4;go_still_tail 10,(by kernel_rfl);change wpList _ _ _ _ _ w4.drew;go_upto_region 20 with fail
      clear g6 f6 hw6;generalize (w4.setCell ⟨g,12,none⟩ (.int .i64 (n.ga+1))).drew=w5 at *;have c16:w5.cell? ⟨g,16,none⟩=some (.bool true):=HP5.out.cell 16;have c1:w5.cell? ⟨x0,1,none⟩=some (.string exB):=by rw[X5.out.cell];exact HE1.out
      have hq:(exB.toList==exB.toList)=true:=by simp
      go_region_held3 (fun w'=>w'.cell? ⟨g,16,none⟩=some (.bool true)∧w'.cell? ⟨x0,1,none⟩=some (.string exB)) (first|exact⟨c16,c1⟩|exact⟨m16,m1⟩|exact⟨k16,k1⟩)
       ((first
        | (go_at_call 11;refine(names_any _).mono ?_;rintro e w6 ⟨rfl,b6⟩;have HP6:=qH (HP5.out.drew.below b6 HP5.out.lt);have X6:=qH (X5.out.drew.below b6 X5.out.lt);have O6:=qH ((O5.out.trans (Only.drew _ w5)).trans (Only.of_below b6));have m16:w6.cell? ⟨g,16,none⟩=some (.bool true):=HP6.out.cell 16;have m1:w6.cell? ⟨x0,1,none⟩=some (.string exB):=X6.out.cell 1 |>.trans HE1.out;have f16:=HP6.out.frozen 16;have HP7:Hid (Blk (w6.setCell ⟨g,16,none⟩ (.bool true)) g 33 (prC pa pb va vb true ub { n with fa:=z0,ga:=n.ga+1 })):=qH (HP6.out.set_ 16 (.bool true));have X7:=qH (X6.out.far (p:=⟨g,16,none⟩) (Ne.symm HNE.out) (.bool true));have k16:(w6.setCell ⟨g,16,none⟩ (.bool true)).cell? ⟨g,16,none⟩=some (.bool true):=HP7.out.cell 16;have k1:(w6.setCell ⟨g,16,none⟩ (.bool true)).cell? ⟨x0,1,none⟩=some (.string exB):=X7.out.cell 1 |>.trans HE1.out;clear b6)))
      have HD:Hid (Blk (w6.setCell ⟨g,16,none⟩ (.bool true)) g 33 (prC pa pb va vb true ub { n with fa:=z0,ga:=n.ga+1 })∧Only [g] wr (w6.setCell ⟨g,16,none⟩ (.bool true))):=qH ⟨HP7.out,O6.out.trans (Only.setCell w6 ⟨g,16,none⟩ (.bool true) (by simp))⟩;clear HP7 X7 HP6 X6 O6 m16 m1 f16 k16 k1 c16 c1 HP5 X5 O5;go_wp2_with fail;go_roundw
      case rel=>exact .inr ⟨rfl,HD⟩
      case measure=>simp[intOf]
  ·
   go_wp2_with fail;go_end0;exact⟨rfl,HD.out⟩
set_option maxHeartbeats 8000000 in
theorem events_sigb {w:World} {g b:Nat} {pa pb:Nat} {va vb:Value} {ua:Bool} {n:Nu} {C:Array Value} (hP:Blk w g 33 (prC pa pb va vb ua true n)) (hE:Blk w b 97 C) (hs:C.size=43) (h1:C.all (·.oneCell')=true)
  (e0:C[0]? = some (.int .i64 2)) (e1:C[1]? = some (.string exA)) {bi oi ci:Nat} {z0:Int} (e40:C[40]? = some (.slice (some ⟨bi,oi,none⟩) 2 ci)) (hz:∀ W,Only [g] w W→W.cell? ⟨bi,oi+1,none⟩=some (.int .i64 z0)∧W.cell? ⟨bi,oi+10,none⟩=some (.int .i64 n.gb))
  (hgg:0≤n.gb∧n.gb≤1000000) (ht:0≤n.tb∧n.tb<z0) (hf:n.fb=0∨n.fb=z0) :
  Calls Tryz.prog 14 #[ptrV g,.int .i64 1,.slice (some ⟨b,0,none⟩) 1 1] w fun e w'=>e = .returned (.tuple #[])∧Blk w' g 33 (prC pa pb va vb ua true { n with fb:=z0,gb:=n.gb+1 })∧Only [g] w w':=by
 have HZ:=qH hz;have HE40:=qH e40;have HGG:=qH hgg;have HTT:=qH ht;have HF:=qH hf;clear hz e40 hgg ht hf;have HP:=qH hP;have HE:=qH hE;have HE0:=qH e0;have HE1:=qH e1;have hi:(Tryz.prog.info? 97).map (·.size)=some C.size:=by rw[hs];exact info97
 have HI:=qH hi;have HS:=qH hs;have H1:=qH h1;have hix0:=name_at false;have hix1:=name_at true;simp only[if_true,if_false,Bool.false_eq_true] at hix0 hix1;have w1:IntKind.i64.wrap 1=1:=by kernel_rfl
 have w0:IntKind.i64.wrap 0=0:=by kernel_rfl
 clear hP hE e0 e1 hi hs h1;unfold ptrV;go_enter Tryz.func14,Tryz.ntmps14;go_wp2_with fail;go_loopw [6] (fun i wr=>(i = .int .i64 0∧wr=w)∨(i = .int .i64 1∧Hid (Blk wr g 33 (prC pa pb va vb ua true { n with fb:=z0,gb:=n.gb+1 })∧Only [g] w wr))) (fun i _=>1-(intOf i).toNat)
 case atStart=>exact .inl ⟨rfl,rfl⟩
 case round=>
  rcases hrel with ⟨rfl,rfl⟩|⟨rfl,HD⟩
  ·
   go_upto_region 4 with
    (first
     | (refine wpList_load_blk rfl 97 _ rfl b rfl C 97 _ HE.out Tryz.underlying97 rfl HI.out ?_)
     | (refine wpList_store_blk rfl 97 _ _ rfl rfl _ C _ 97 rfl rfl (Blk.new _ _ _) (HS.out.trans rfl) HI.out H1.out ?_))
   intro w2 hb2 ho2;obtain⟨x0,hx0⟩:∃ q,q=wr.heap.size:=⟨_,rfl⟩;rw[←hx0] at hb2 ho2 ⊢;have ne:g≠x0:=by have:=HP.out.lt;omega
   have P2:=(HP.out.alloc (.cells _ 97)).only ho2 (by simp[ne]);have O2:=qH (only_more (Only.alloc [g] wr (.cells _ 97)) ho2 (by simp[hx0]));have HX:=qH hb2;have HNE:=qH ne;have C0:w2.cell? ⟨x0,0,none⟩=some (.int .i64 2):=by rw[hb2.cell];exact HE0.out
   have g16:w2.cell? ⟨g,16,none⟩=some (.bool true):=P2.cell 16;have g4:w2.cell? ⟨g,5,none⟩=some (.bool true):=P2.cell 5;have f16:=P2.frozen 16;have f4:=P2.frozen 5;have C40:w2.cell? ⟨x0,40,none⟩=some (.slice (some ⟨bi,oi,none⟩) 2 ci):=by rw[hb2.cell];exact HE40.out
   have I2:=HZ.out w2 O2.out;have g5:w2.cell? ⟨g,11,none⟩=some (.int .i64 n.fb):=P2.cell 11;have g6:w2.cell? ⟨g,13,none⟩=some (.int .i64 n.gb):=P2.cell 13;have g7:w2.cell? ⟨g,15,none⟩=some (.int .i64 n.tb):=P2.cell 15;have HP2:=qH P2;have HX2:=qH hb2;clear hb2 ho2 hx0 ne P2 HX HP HE f4;go_upto_region 16 with fail
   clear C0 C40;simp only[List.append_eq,List.cons_append,List.nil_append];obtain⟨F,hF⟩:∃ q,q=n.fb:=⟨_,rfl⟩;rw[←hF] at g5;have HFQ:=qH hF.symm;have HFF:Hid (F=0∨z0=F):=qH (by rw[hF];exact HF.out.imp id Eq.symm);refine wp_region_held_drew (S:=(fun w'=>w'.cell? ⟨g,16,none⟩=some (.bool true)∧w'.cell? ⟨g,5,none⟩=some (.bool true)∧w'.cell? ⟨bi,oi+9+1,none⟩=some (.int .i64 n.gb)∧w'.cell? ⟨g,13,none⟩=some (.int .i64 n.gb)∧w'.cell? ⟨bi,oi+1,none⟩=some (.int .i64 z0)∧w'.cell? ⟨g,15,none⟩=some (.int .i64 n.tb)∧w'.cell? ⟨g,11,none⟩=some (.int .i64 F))) (by kernel_rfl) (⟨g16,g4,I2.2,g6,I2.1,g7,g5⟩) (fun hS=>?_)
   replace HP2:=qH HP2.out.drew;replace HX2:=qH HX2.out.drew;replace O2:=qH (O2.out.trans (Only.drew [g] w2));have f16:=HP2.out.frozen 16;generalize w2.drew=wd at *;clear g16 g4 I2 g5 g6 g7 hF;have hbq:(n.gb==n.gb)=true:=beq_self_eq_true _;have hgt:n.tb<z0:=HTT.out.2;have hlq:((2:Int)==2)=true:=rfl;refine tl 0 120 (v:=?_) rfl ?_ ?_;rotate_left
   ·
    intro w hSw;go_simp
    with_reducible rfl
   simp only[PU];refine tl 1 121 (v:=?_) rfl ?_ ?_;rotate_left
   ·
    intro w hSw;go_simp
    with_reducible rfl
   simp only[PU];refine tl 2 122 (v:=?_) rfl ?_ ?_;rotate_left
   ·
    intro w hSw;go_simp
    with_reducible rfl
   simp only[PU];refine tl 3 123 (v:=?_) rfl ?_ ?_;rotate_left
   ·
    intro w hSw;go_simp
    with_reducible rfl
   simp only[PU];refine tl 4 124 (v:=?_) rfl ?_ ?_;rotate_left
   ·
    intro w hSw;have a0:=hSw.1;go_simp
    with_reducible rfl
   simp only[PU];refine tl 5 125 (v:=?_) rfl ?_ ?_;rotate_left
   ·
    intro w hSw;go_simp
    with_reducible rfl
   simp only[PU];refine tl 6 126 (v:=?_) rfl ?_ ?_;rotate_left
   ·
    intro w hSw;go_simp
    with_reducible rfl
   simp only[PU];refine tl 7 127 (v:=?_) rfl ?_ ?_;rotate_left
   ·
    intro w hSw;go_simp
    with_reducible rfl
   simp only[PU];refine tl 8 128 (v:=?_) rfl ?_ ?_;rotate_left
   ·
    intro w hSw;go_simp
    with_reducible rfl
   simp only[PU];refine tl 9 129 (v:=?_) rfl ?_ ?_;rotate_left
   ·
    intro w hSw;go_simp
    with_reducible rfl
   simp only[PU];refine tl 10 130 (v:=?_) rfl ?_ ?_;rotate_left
   ·
    intro w hSw;go_simp
    with_reducible rfl
   simp only[PU];refine tl 11 131 (v:=?_) rfl ?_ ?_;rotate_left
   ·
    intro w hSw;have a0:=hSw.2.1;go_simp
    with_reducible rfl
   simp only[PU];refine tl 12 132 (v:=?_) rfl ?_ ?_;rotate_left
   ·
    intro w hSw;go_simp
    with_reducible rfl
   simp only[PU];refine tl 13 133 (v:=?_) rfl ?_ ?_;rotate_left
   ·
    intro w hSw;go_simp
    with_reducible rfl
   simp only[PU];refine tl 14 134 (v:=?_) rfl ?_ ?_;rotate_left
   ·
    intro w hSw;go_simp
    with_reducible rfl
   simp only[PU];refine tl 15 135 (v:=?_) rfl ?_ ?_;rotate_left
   ·
    intro w hSw;go_simp
    with_reducible rfl
   simp only[PU];refine tl 16 136 (v:=?_) rfl ?_ ?_;rotate_left
   ·
    intro w hSw;go_simp
    with_reducible rfl
   simp only[PU];refine tl 17 137 (v:=?_) rfl ?_ ?_;rotate_left
   ·
    intro w hSw;go_simp
    with_reducible rfl
   simp only[PU];refine tl 18 138 (v:=?_) rfl ?_ ?_;rotate_left
   ·
    intro w hSw;go_simp
    with_reducible rfl
   simp only[PU];refine tl 19 139 (v:=?_) rfl ?_ ?_;rotate_left
   ·
    intro w hSw;go_simp
    with_reducible rfl
   simp only[PU];refine tl 20 140 (v:=?_) rfl ?_ ?_;rotate_left
   ·
    intro w hSw;go_simp
    with_reducible rfl
   simp only[PU];refine tl 21 141 (v:=?_) rfl ?_ ?_;rotate_left
   ·
    intro w hSw;go_simp
    with_reducible rfl
   simp only[PU];refine tl 22 142 (v:=?_) rfl ?_ ?_;rotate_left
   ·
    intro w hSw;have a0:=hSw.2.2.1;go_simp
    with_reducible rfl
   simp only[PU];refine tl 23 143 (v:=?_) rfl ?_ ?_;rotate_left
   ·
    intro w hSw;go_simp
    with_reducible rfl
   simp only[PU];refine tl 24 144 (v:=?_) rfl ?_ ?_;rotate_left
   ·
    intro w hSw;go_simp
    with_reducible rfl
   simp only[PU];refine tl 25 145 (v:=?_) rfl ?_ ?_;rotate_left
   ·
    intro w hSw;go_simp
    with_reducible rfl
   simp only[PU]
   as_aux_lemma=>
    refine tl 26 146 (v:=?_) rfl ?_ ?_;rotate_left
    ·
     intro w hSw;go_simp
     with_reducible rfl
    simp only[PU];refine tl 27 147 (v:=?_) rfl ?_ ?_;rotate_left
    ·
     intro w hSw;go_simp
     with_reducible rfl
    simp only[PU];refine tl 28 148 (v:=?_) rfl ?_ ?_;rotate_left
    ·
     intro w hSw;have a0:=hSw.2.2.2.1;go_simp
     with_reducible rfl
    simp only[PU];refine tl 29 149 (v:=?_) rfl ?_ ?_;rotate_left
    ·
     intro w hSw;go_simp
     with_reducible rfl
    simp only[PU];refine tl 30 150 (v:=?_) rfl ?_ ?_;rotate_left
    ·
     intro w hSw;go_simp
     with_reducible rfl
    simp only[PU];refine tl 31 151 (v:=?_) rfl ?_ ?_;rotate_left
    ·
     intro w hSw;go_simp
     with_reducible rfl
    simp only[PU];refine tl 32 152 (v:=?_) rfl ?_ ?_;rotate_left
    ·
     intro w hSw;go_simp
     with_reducible rfl
    simp only[PU];refine tl 33 153 (v:=?_) rfl ?_ ?_;rotate_left
    ·
     intro w hSw;go_simp
     with_reducible rfl
    simp only[PU];refine tl 34 154 (v:=?_) rfl ?_ ?_;rotate_left
    ·
     intro w hSw;go_simp
     with_reducible rfl
    simp only[PU];refine tl 35 155 (v:=?_) rfl ?_ ?_;rotate_left
    ·
     intro w hSw;have a0:=hSw.2.2.2.2.1;go_simp
     with_reducible rfl
    simp only[PU];refine tl 36 156 (v:=?_) rfl ?_ ?_;rotate_left
    ·
     intro w hSw;go_simp
     with_reducible rfl
    simp only[PU];refine tl 37 157 (v:=?_) rfl ?_ ?_;rotate_left
    ·
     intro w hSw;go_simp
     with_reducible rfl
    simp only[PU];refine tl 38 158 (v:=?_) rfl ?_ ?_;rotate_left
    ·
     intro w hSw;go_simp
     with_reducible rfl
    simp only[PU];refine tl 39 159 (v:=?_) rfl ?_ ?_;rotate_left
    ·
     intro w hSw;go_simp
     with_reducible rfl
    simp only[PU];refine tl 40 160 (v:=?_) rfl ?_ ?_;rotate_left
    ·
     intro w hSw;go_simp
     with_reducible rfl
    simp only[PU];refine tl 41 161 (v:=?_) rfl ?_ ?_;rotate_left
    ·
     intro w hSw;have a0:=hSw.2.2.2.2.2.1;go_simp
     with_reducible rfl
    simp only[PU];refine tl 42 162 (v:=?_) rfl ?_ ?_;rotate_left
    ·
     intro w hSw;go_simp
     with_reducible rfl
    simp only[PU];refine tl 43 163 (v:=?_) rfl ?_ ?_;rotate_left
    ·
     intro w hSw;go_simp
     with_reducible rfl
    simp only[PU];refine tl 44 164 (v:=?_) rfl ?_ ?_;rotate_left
    ·
     intro w hSw;go_simp
     with_reducible rfl
    simp only[PU];refine tl 45 165 (v:=?_) rfl ?_ ?_;rotate_left
    ·
     intro w hSw;go_simp
     with_reducible rfl
    simp only[PU];refine tl 46 166 (v:=?_) rfl ?_ ?_;rotate_left
    ·
     intro w hSw;go_simp
     with_reducible rfl
    simp only[PU];refine tl 47 167 (v:=?_) rfl ?_ ?_;rotate_left
    ·
     intro w hSw;go_simp
     with_reducible rfl
    simp only[PU];refine tl 48 168 (v:=?_) rfl ?_ ?_;rotate_left
    ·
     intro w hSw;go_simp
     with_reducible rfl
    simp only[PU];refine tl 49 169 (v:=?_) rfl ?_ ?_;rotate_left
    ·
     intro w hSw;go_simp
     with_reducible rfl
    simp only[PU];refine tl 50 170 (v:=?_) rfl ?_ ?_;rotate_left
    ·
     intro w hSw;have a0:=hSw.2.2.2.2.2.2;go_simp
     with_reducible rfl
    simp only[PU];rcases HFF.out with rfl|rfl
    case' inl=>
     have h00:((0:Int)==0)=true:=rfl;refine tl 51 171 (v:=?_) rfl ?_ ?_;rotate_left
     ·
      intro w hSw;go_simp
      with_reducible rfl
     simp only[PU];refine tl 52 172 (v:=?_) rfl ?_ ?_;rotate_left
     ·
      intro w hSw;go_simp
      with_reducible rfl
     simp only[PU];refine tks (i:=53) rfl (by rfl) (by assumption) ?_;change wpAnyH _ _ _ _ _ _ _ (Act.put _ (some 173) _) _;simp only[PU];refine tks (i:=54) rfl (by rfl) (by assumption) ?_;change wpAnyH _ _ _ _ _ _ _ (Act.put _ (some 174) _) _;simp only[PU];refine tks (i:=55) rfl (by rfl) (by assumption) ?_;change wpAnyH _ _ _ _ _ _ _ (Act.put _ (some 175) _) _;simp only[PU];refine tks (i:=56) rfl (by rfl) (by assumption) ?_
     change wpAnyH _ _ _ _ _ _ _ (Act.put _ (some 176) _) _;simp only[PU];refine tks (i:=57) rfl (by rfl) (by assumption) ?_;change wpAnyH _ _ _ _ _ _ _ (Act.put _ (some 177) _) _;simp only[PU];refine tks (i:=58) rfl (by rfl) (by assumption) ?_;change wpAnyH _ _ _ _ _ _ _ (Act.put _ (some 178) _) _;simp only[PU];refine tks (i:=59) rfl (by rfl) (by assumption) ?_;change wpAnyH _ _ _ _ _ _ _ (Act.put _ (some 179) _) _
     simp only[PU];refine tks (i:=60) rfl (by rfl) (by assumption) ?_;change wpAnyH _ _ _ _ _ _ _ (Act.put _ (some 180) _) _;simp only[PU];refine tks (i:=61) rfl (by rfl) (by assumption) ?_;change wpAnyH _ _ _ _ _ _ _ (Act.put _ (some 181) _) _;simp only[PU];refine tks (i:=62) rfl (by rfl) (by assumption) ?_;change wpAnyH _ _ _ _ _ _ _ (Act.put _ (some 182) _) _;simp only[PU];refine tks (i:=63) rfl (by rfl) (by assumption) ?_
     change wpAnyH _ _ _ _ _ _ _ (Act.put _ (some 183) _) _;simp only[PU];refine tl 64 184 (v:=?_) rfl ?_ ?_;rotate_left
     ·
      intro w hSw;go_simp
      with_reducible rfl
     simp only[PU];refine tl 65 185 (v:=?_) rfl ?_ ?_;rotate_left
     ·
      intro w hSw;go_simp
      with_reducible rfl
     simp only[PU];refine tl 66 186 (v:=?_) rfl ?_ ?_;rotate_left
     ·
      intro w hSw;go_simp
      with_reducible rfl
     simp only[PU];refine tl 67 187 (v:=?_) rfl ?_ ?_;rotate_left
     ·
      intro w hSw;go_simp
      with_reducible rfl
     simp only[PU]
    case' inr=>
     have h00:(z0==0)=false:=by rw[beq_eq_false_iff_ne];have:=HTT.out;omega
     have hzz:(z0==z0)=true:=beq_self_eq_true _;refine tl 51 171 (v:=?_) rfl ?_ ?_;rotate_left
     ·
      intro w hSw;go_simp
      with_reducible rfl
     simp only[PU];refine tl 52 172 (v:=?_) rfl ?_ ?_;rotate_left
     ·
      intro w hSw;go_simp
      with_reducible rfl
     simp only[PU];refine tl 53 173 (v:=?_) rfl ?_ ?_;rotate_left
     ·
      intro w hSw;go_simp
      with_reducible rfl
     simp only[PU];refine tl 54 174 (v:=?_) rfl ?_ ?_;rotate_left
     ·
      intro w hSw;go_simp
      with_reducible rfl
     simp only[PU];refine tl 55 175 (v:=?_) rfl ?_ ?_;rotate_left
     ·
      intro w hSw;go_simp
      with_reducible rfl
     simp only[PU];refine tl 56 176 (v:=?_) rfl ?_ ?_;rotate_left
     ·
      intro w hSw;go_simp
      with_reducible rfl
     simp only[PU];refine tl 57 177 (v:=?_) rfl ?_ ?_;rotate_left
     ·
      intro w hSw;go_simp
      with_reducible rfl
     simp only[PU];refine tl 58 178 (v:=?_) rfl ?_ ?_;rotate_left
     ·
      intro w hSw;have a0:=hSw.2.2.2.2.2.2;go_simp
      with_reducible rfl
     simp only[PU];refine tl 59 179 (v:=?_) rfl ?_ ?_;rotate_left
     ·
      intro w hSw;go_simp
      with_reducible rfl
     simp only[PU];refine tl 60 180 (v:=?_) rfl ?_ ?_;rotate_left
     ·
      intro w hSw;go_simp
      with_reducible rfl
     simp only[PU];refine tl 61 181 (v:=?_) rfl ?_ ?_;rotate_left
     ·
      intro w hSw;go_simp
      with_reducible rfl
     simp only[PU];refine tl 62 182 (v:=?_) rfl ?_ ?_;rotate_left
     ·
      intro w hSw;have a0:=hSw.2.2.2.2.1;go_simp
      with_reducible rfl
     simp only[PU];refine tl 63 183 (v:=?_) rfl ?_ ?_;rotate_left
     ·
      intro w hSw;go_simp
      with_reducible rfl
     simp only[PU];refine tl 64 184 (v:=?_) rfl ?_ ?_;rotate_left
     ·
      intro w hSw;go_simp
      with_reducible rfl
     simp only[PU];refine tl 65 185 (v:=?_) rfl ?_ ?_;rotate_left
     ·
      intro w hSw;go_simp
      with_reducible rfl
     simp only[PU];refine tl 66 186 (v:=?_) rfl ?_ ?_;rotate_left
     ·
      intro w hSw;go_simp
      with_reducible rfl
     simp only[PU];refine tl 67 187 (v:=?_) rfl ?_ ?_;rotate_left
     ·
      intro w hSw;go_simp
      with_reducible rfl
     simp only[PU]
    all_goals
     refine wpAnyH_ready (rs:=[68]) (by kernel_rfl) (by simp) ?_;refine AllReadyH.cons rfl (fun K hK=>?_) AllReadyH.nil;go_simp;have HP3:Hid (Blk (wd.setCell ⟨g,16,none⟩ (.bool true)) g 33 (prC pa pb va vb ua true n)):=qH (HP2.out.set_ 16 (.bool true));have O3:Hid (Only [g] wr (wd.setCell ⟨g,16,none⟩ (.bool true))):=qH (O2.out.trans (Only.setCell wd ⟨g,16,none⟩ (.bool true) (by simp)));have X3:=qH (HX2.out.far (p:=⟨g,16,none⟩) (Ne.symm HNE.out) (.bool true))
     have I3:=qH (HZ.out _ O3.out);refine hK.out _ _ ⟨HP3.out.cell 16,HP3.out.cell 5,I3.out.2,HP3.out.cell 13,I3.out.1,HP3.out.cell 15,(by rw[HP3.out.cell 11];exact congrArg (fun z=>some (Value.int .i64 z)) HFQ.out)⟩ (fun hS=>?_);clear hK K
     try simp only[PU]
     refine wpAnyH_done (by kernel_rfl) ?_ _;clear hS HP2 O2 HX2 f16;generalize wd.setCell ⟨g,16,none⟩ (.bool true)=w3 at *
     as_aux_lemma=>
      have i0:w3.cell? ⟨bi,oi+1,none⟩=some (.int .i64 z0):=I3.out.1;have f5:=HP3.out.frozen 11;have g5:w3.cell? ⟨g,11,none⟩=some (.int .i64 n.fb):=HP3.out.cell 11;go_upto_region 18 with fail
      have HP4:Hid (Blk (w3.setCell ⟨g,11,none⟩ (.int .i64 z0)).drew g 33 (prC pa pb va vb ua true { n with fb:=z0 })):=qH (HP3.out.drew.set_ 11 (.int .i64 z0));have O4:Hid (Only [g] wr (w3.setCell ⟨g,11,none⟩ (.int .i64 z0)).drew):=qH ((O3.out.trans (Only.drew _ w3)).trans (Only.setCell w3.drew ⟨g,11,none⟩ (.int .i64 z0) (by simp)));have X4:Hid (Blk (w3.setCell ⟨g,11,none⟩ (.int .i64 z0)).drew x0 97 C):=qH (X3.out.drew.far (p:=⟨g,11,none⟩) (Ne.symm HNE.out) (.int .i64 z0))
      clear HP3 O3 X3 I3;go_still_tail 9,(by kernel_rfl);change wpList _ _ _ _ _ w3.drew;go_upto_region 19 with fail
      clear i0 f5 g5;generalize (w3.setCell ⟨g,11,none⟩ (.int .i64 z0)).drew=w4 at *;have g6:w4.cell? ⟨g,13,none⟩=some (.int .i64 n.gb):=HP4.out.cell 13;have f6:=HP4.out.frozen 13;have hw6:IntKind.i64.wrap (n.gb+1)=n.gb+1:=by have:=HGG.out;rw[IntKind.wrap_i64]<;>omega
      have HP5:Hid (Blk (w4.setCell ⟨g,13,none⟩ (.int .i64 (n.gb+1))).drew g 33 (prC pa pb va vb ua true { n with fb:=z0,gb:=n.gb+1 })):=qH (HP4.out.drew.set_ 13 (.int .i64 (n.gb+1)));have O5:Hid (Only [g] wr (w4.setCell ⟨g,13,none⟩ (.int .i64 (n.gb+1))).drew):=qH ((O4.out.trans (Only.drew _ w4)).trans (Only.setCell w4.drew ⟨g,13,none⟩ (.int .i64 (n.gb+1)) (by simp)));have X5:Hid (Blk (w4.setCell ⟨g,13,none⟩ (.int .i64 (n.gb+1))).drew x0 97 C):=qH (X4.out.drew.far (p:=⟨g,13,none⟩) (Ne.symm HNE.out) (.int .i64 (n.gb+1)))
      clear HP4 O4 X4;go_still_tail 10,(by kernel_rfl);change wpList _ _ _ _ _ w4.drew;go_upto_region 20 with fail
      clear g6 f6 hw6;generalize (w4.setCell ⟨g,13,none⟩ (.int .i64 (n.gb+1))).drew=w5 at *;have c16:w5.cell? ⟨g,16,none⟩=some (.bool true):=HP5.out.cell 16;have c1:w5.cell? ⟨x0,1,none⟩=some (.string exA):=by rw[X5.out.cell];exact HE1.out
      have hq:(exA.toList==exA.toList)=true:=by simp
      go_region_held3 (fun w'=>w'.cell? ⟨g,16,none⟩=some (.bool true)∧w'.cell? ⟨x0,1,none⟩=some (.string exA)) (first|exact⟨c16,c1⟩|exact⟨m16,m1⟩|exact⟨k16,k1⟩)
       ((first
        | (go_at_call 11;refine(names_any _).mono ?_;rintro e w6 ⟨rfl,b6⟩;have HP6:=qH (HP5.out.drew.below b6 HP5.out.lt);have X6:=qH (X5.out.drew.below b6 X5.out.lt);have O6:=qH ((O5.out.trans (Only.drew _ w5)).trans (Only.of_below b6));have m16:w6.cell? ⟨g,16,none⟩=some (.bool true):=HP6.out.cell 16;have m1:w6.cell? ⟨x0,1,none⟩=some (.string exA):=X6.out.cell 1 |>.trans HE1.out;have f16:=HP6.out.frozen 16;have HP7:Hid (Blk (w6.setCell ⟨g,16,none⟩ (.bool true)) g 33 (prC pa pb va vb ua true { n with fb:=z0,gb:=n.gb+1 })):=qH (HP6.out.set_ 16 (.bool true));have X7:=qH (X6.out.far (p:=⟨g,16,none⟩) (Ne.symm HNE.out) (.bool true));have k16:(w6.setCell ⟨g,16,none⟩ (.bool true)).cell? ⟨g,16,none⟩=some (.bool true):=HP7.out.cell 16;have k1:(w6.setCell ⟨g,16,none⟩ (.bool true)).cell? ⟨x0,1,none⟩=some (.string exA):=X7.out.cell 1 |>.trans HE1.out;clear b6)))
      have HD:Hid (Blk (w6.setCell ⟨g,16,none⟩ (.bool true)) g 33 (prC pa pb va vb ua true { n with fb:=z0,gb:=n.gb+1 })∧Only [g] wr (w6.setCell ⟨g,16,none⟩ (.bool true))):=qH ⟨HP7.out,O6.out.trans (Only.setCell w6 ⟨g,16,none⟩ (.bool true) (by simp))⟩;clear HP7 X7 HP6 X6 O6 m16 m1 f16 k16 k1 c16 c1 HP5 X5 O5;go_wp2_with fail;go_roundw
      case rel=>exact .inr ⟨rfl,HD⟩
      case measure=>simp[intOf]
  ·
   go_wp2_with fail;go_end0;exact⟨rfl,HD.out⟩
end Go.Proofs.YtoaimoemaoinhaaGreatDoor
