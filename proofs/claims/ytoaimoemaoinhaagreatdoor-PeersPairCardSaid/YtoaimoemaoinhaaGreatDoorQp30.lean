/- PeersX: a part of the proof. No condition beyond the premises of each theorem. -/
import Derived.Test.YtoaimoemaoinhaaGreatDoorQp29
import Derived.Test.YtoaimoemaoinhaaGreatDoorQp00
set_option maxRecDepth 100000
namespace Go.Proofs.YtoaimoemaoinhaaGreatDoor
open Go.RowKit Go.Rt Go.Rw Go.Mp
set_option maxHeartbeats 8000000 in
theorem events_none (g:Nat) (i:Int) (w:World):Calls Tryz.prog 14 #[ptrV g,.int .i64 i,.slice none 0 0] w fun e w'=>e = .returned (.tuple #[])∧w'=w:=by
 unfold ptrV;go_enter Tryz.func14,Tryz.ntmps14;go_wp2_with fail;go_loopw [6] (fun i wr=>i = .int .i64 0∧wr=w) (fun i _=>(intOf i).toNat)
 case atStart=>exact⟨rfl,rfl⟩
 case round=>
  obtain⟨rfl,rfl⟩:=hrel;go_wp2_with fail;go_end0;exact⟨rfl,rfl⟩
theorem info97 : (Tryz.prog.info? 97).map (·.size)=some 43:=by kernel_rfl
theorem ft_one {S:Nat→Prop} {w:World} {s:Tm} {x:Ft} (h:TmAt S w s x):x.v.oneCell'=true:=by
 obtain⟨-,Fs,h1,-,-⟩:=h.its;obtain⟨-,sa,cap,e⟩:=h1.len;rw[e];rfl
theorem ev_one {S:Nat→Prop} {w:World} {e:Ev} {x:Sf} (h:SgAt S w e.s x):(evL e x).toArray.all (·.oneCell')=true:=by
 have a:=ft_one h.fr;have b:=ft_one h.tt;have c:=ft_one h.ref;have d:=ft_one h.val;simp only[evL,sgC,ftC,List.cons_append,List.nil_append,List.all_toArray,List.all_cons,List.all_nil,a,b,c,d];rfl
theorem ev_size (e:Ev) (x:Sf):(evL e x).toArray.size=43:=rfl
set_option maxHeartbeats 8000000 in
theorem events_upa {w:World} {g b:Nat} {pa pb:Nat} {va vb:Value} {ub:Bool} {n:Nu} {C:Array Value} (hP:Blk w g 33 (prC pa pb va vb false ub n)) (hE:Blk w b 97 C) (hs:C.size=43) (h1:C.all (·.oneCell')=true)
  (e0:C[0]? = some (.int .i64 1)) (e1:C[1]? = some (.string exB)) (e2:C[2]? = some (.int .i64 1)) (hep:0≤n.ea∧n.ea≤1000000) :
  Calls Tryz.prog 14 #[ptrV g,.int .i64 0,.slice (some ⟨b,0,none⟩) 1 1] w fun e w'=>e = .returned (.tuple #[])∧Blk w' g 33 (prC pa pb va vb true ub { n with ea:=n.ea+1,sa:=0,fa:=0,ga:=0 })∧Only [g] w w':=by
 have HP:=qH hP;have HE:=qH hE;have HEP:=qH hep;have HE0:=qH e0;have HE1:=qH e1;have HE2:=qH e2;have hi:(Tryz.prog.info? 97).map (·.size)=some C.size:=by rw[hs];exact info97
 have HI:=qH hi;have HS:=qH hs;have H1:=qH h1;have hix0:=name_at false;have hix1:=name_at true;simp only[if_true,if_false,Bool.false_eq_true] at hix0 hix1;have w1:IntKind.i64.wrap 1=1:=by kernel_rfl
 have w0:IntKind.i64.wrap 0=0:=by kernel_rfl
 clear hP hE hep e0 e1 e2 hi hs h1;unfold ptrV;go_enter Tryz.func14,Tryz.ntmps14;go_wp2_with fail;go_loopw [6] (fun i wr=>(i = .int .i64 0∧wr=w)∨(i = .int .i64 1∧Hid (Blk wr g 33 (prC pa pb va vb true ub { n with ea:=n.ea+1,sa:=0,fa:=0,ga:=0 })∧Only [g] w wr))) (fun i _=>1-(intOf i).toNat)
 case atStart=>exact .inl ⟨rfl,rfl⟩
 case round=>
  rcases hrel with ⟨rfl,rfl⟩|⟨rfl,HD⟩
  ·
   go_upto_region 4 with
    (first
     | (refine wpList_load_blk rfl 97 _ rfl b rfl C 97 _ HE.out Tryz.underlying97 rfl HI.out ?_)
     | (refine wpList_store_blk rfl 97 _ _ rfl rfl _ C _ 97 rfl rfl (Blk.new _ _ _) (HS.out.trans rfl) HI.out H1.out ?_))
   intro w2 hb2 ho2;obtain⟨x0,hx0⟩:∃ q,q=wr.heap.size:=⟨_,rfl⟩;rw[←hx0] at hb2 ho2 ⊢;have ne:g≠x0:=by have:=HP.out.lt;omega
   have P2:=(HP.out.alloc (.cells _ 97)).only ho2 (by simp[ne]);have O2:=qH (only_more (Only.alloc [g] wr (.cells _ 97)) ho2 (by simp[hx0]));have HX:=qH hb2;have HNE:=qH ne;have C0:w2.cell? ⟨x0,0,none⟩=some (.int .i64 1):=by rw[hb2.cell];exact HE0.out
   have C2:w2.cell? ⟨x0,2,none⟩=some (.int .i64 1):=by rw[hb2.cell];exact HE2.out
   have g16:w2.cell? ⟨g,16,none⟩=some (.bool true):=P2.cell 16;have g4:w2.cell? ⟨g,4,none⟩=some (.bool false):=P2.cell 4;have f16:=P2.frozen 16;have f4:=P2.frozen 4;have HP3:Hid (Blk ((w2.setCell ⟨g,16,none⟩ (.bool true)).setCell ⟨g,4,none⟩ (.bool true)) g 33 (prC pa pb va vb true ub n)):=qH ((P2.set_ 16 (.bool true)).set_ 4 (.bool true));have O3:=qH ((O2.out.trans (Only.setCell w2 ⟨g,16,none⟩ (.bool true) (by simp))).trans (Only.setCell _ ⟨g,4,none⟩ (.bool true) (by simp)))
   have X3:=qH (((HX.out.far (p:=⟨g,16,none⟩) (Ne.symm ne) (.bool true))).far (p:=⟨g,4,none⟩) (Ne.symm ne) (.bool true));clear hb2 ho2 hx0 ne P2 O2 HX HP HE;go_upto_region 8 with fail
   clear C0 C2 g16 g4 f16 f4;generalize (w2.setCell ⟨g,16,none⟩ (.bool true)).setCell ⟨g,4,none⟩ (.bool true)=w3 at *;have g6:w3.cell? ⟨g,6,none⟩=some (.int .i64 n.ea):=HP3.out.cell 6;have f6:=HP3.out.frozen 6;have hw6:IntKind.i64.wrap (n.ea+1)=n.ea+1:=by have:=HEP.out;rw[IntKind.wrap_i64]<;>omega
   have HP4:Hid (Blk (w3.setCell ⟨g,6,none⟩ (.int .i64 (n.ea+1))).drew g 33 (prC pa pb va vb true ub { n with ea:=n.ea+1 })):=qH (HP3.out.drew.set_ 6 (.int .i64 (n.ea+1)));have O4:Hid (Only [g] wr (w3.setCell ⟨g,6,none⟩ (.int .i64 (n.ea+1))).drew):=qH ((O3.out.trans (Only.drew _ w3)).trans (Only.setCell w3.drew ⟨g,6,none⟩ (.int .i64 (n.ea+1)) (by simp)));have X4:Hid (Blk (w3.setCell ⟨g,6,none⟩ (.int .i64 (n.ea+1))).drew x0 97 C):=qH (X3.out.drew.far (p:=⟨g,6,none⟩) (Ne.symm HNE.out) (.int .i64 (n.ea+1)))
   clear HP3 O3 X3;go_still_tail 10,(by kernel_rfl);change wpList _ _ _ _ _ w3.drew;go_upto_region 9 with fail
   clear g6 f6 hw6;generalize (w3.setCell ⟨g,6,none⟩ (.int .i64 (n.ea+1))).drew=w4 at *;have g8:w4.cell? ⟨g,8,none⟩=some (.int .i64 n.sa):=HP4.out.cell 8;have g10:w4.cell? ⟨g,10,none⟩=some (.int .i64 n.fa):=HP4.out.cell 10;have g12:w4.cell? ⟨g,12,none⟩=some (.int .i64 n.ga):=HP4.out.cell 12;have f8:=HP4.out.frozen 8;have f10:=HP4.out.frozen 10;have f12:=HP4.out.frozen 12;go_region_held3 (fun _=>True) (trivial) (fail)
   have HP5:Hid (Blk ((((w4.setCell ⟨g,8,none⟩ (.int .i64 0)).setCell ⟨g,12,none⟩ (.int .i64 0)).setCell ⟨g,10,none⟩ (.int .i64 0)).drew) g 33 (prC pa pb va vb true ub { n with ea:=n.ea+1,sa:=0,fa:=0,ga:=0 })):=qH (((HP4.out.set_ 8 (.int .i64 0)).set_ 12 (.int .i64 0)).set_ 10 (.int .i64 0));have O5:Hid (Only [g] wr ((((w4.setCell ⟨g,8,none⟩ (.int .i64 0)).setCell ⟨g,12,none⟩ (.int .i64 0)).setCell ⟨g,10,none⟩ (.int .i64 0)).drew)):=qH ((((O4.out.trans (Only.setCell (bs:=[g]) _ ⟨g,8,none⟩ (.int .i64 0) (by simp))).trans (Only.setCell (bs:=[g]) _ ⟨g,12,none⟩ (.int .i64 0) (by simp))).trans (Only.setCell (bs:=[g]) _ ⟨g,10,none⟩ (.int .i64 0) (by simp))).trans (Only.drew _ _))
   have X5:Hid (Blk ((((w4.setCell ⟨g,8,none⟩ (.int .i64 0)).setCell ⟨g,12,none⟩ (.int .i64 0)).setCell ⟨g,10,none⟩ (.int .i64 0)).drew) x0 97 C):=qH (((X4.out.far (p:=⟨g,8,none⟩) (Ne.symm HNE.out) (.int .i64 0)).far (p:=⟨g,12,none⟩) (Ne.symm HNE.out) (.int .i64 0)).far (p:=⟨g,10,none⟩) (Ne.symm HNE.out) (.int .i64 0));clear g8 g10 g12 f8 f10 f12 HP4 O4 X4;generalize (((w4.setCell ⟨g,8,none⟩ (.int .i64 0)).setCell ⟨g,12,none⟩ (.int .i64 0)).setCell ⟨g,10,none⟩ (.int .i64 0)).drew=w5 at *
   have c16:w5.cell? ⟨g,16,none⟩=some (.bool true):=HP5.out.cell 16;have c1:w5.cell? ⟨x0,1,none⟩=some (.string exB):=by rw[X5.out.cell];exact HE1.out
   have hq:(exB.toList==exB.toList)=true:=by simp
   go_upto_region 20 with fail
   go_region_held3 (fun w'=>w'.cell? ⟨g,16,none⟩=some (.bool true)∧w'.cell? ⟨x0,1,none⟩=some (.string exB)) (first|exact⟨c16,c1⟩|exact⟨m16,m1⟩|exact⟨k16,k1⟩)
    ((first
     | (go_at_call 11;refine(names_any _).mono ?_;rintro e w6 ⟨rfl,b6⟩;have HP6:=qH (HP5.out.drew.below b6 HP5.out.lt);have X6:=qH (X5.out.drew.below b6 X5.out.lt);have O6:=qH ((O5.out.trans (Only.drew _ w5)).trans (Only.of_below b6));have m16:w6.cell? ⟨g,16,none⟩=some (.bool true):=HP6.out.cell 16;have m1:w6.cell? ⟨x0,1,none⟩=some (.string exB):=X6.out.cell 1 |>.trans HE1.out;have f16:=HP6.out.frozen 16;have HP7:Hid (Blk (w6.setCell ⟨g,16,none⟩ (.bool true)) g 33 (prC pa pb va vb true ub { n with ea:=n.ea+1,sa:=0,fa:=0,ga:=0 })):=qH (HP6.out.set_ 16 (.bool true));have X7:=qH (X6.out.far (p:=⟨g,16,none⟩) (Ne.symm HNE.out) (.bool true));have k16:(w6.setCell ⟨g,16,none⟩ (.bool true)).cell? ⟨g,16,none⟩=some (.bool true):=HP7.out.cell 16;have k1:(w6.setCell ⟨g,16,none⟩ (.bool true)).cell? ⟨x0,1,none⟩=some (.string exB):=X7.out.cell 1 |>.trans HE1.out;clear b6)))
   have HD:Hid (Blk (w6.setCell ⟨g,16,none⟩ (.bool true)) g 33 (prC pa pb va vb true ub { n with ea:=n.ea+1,sa:=0,fa:=0,ga:=0 })∧Only [g] wr (w6.setCell ⟨g,16,none⟩ (.bool true))):=qH ⟨HP7.out,O6.out.trans (Only.setCell w6 ⟨g,16,none⟩ (.bool true) (by simp))⟩;clear HP7 X7 HP6 X6 O6 m16 m1 f16 k16 k1 c16 c1 HP5 X5 O5;go_wp2_with fail;go_roundw
   case rel=>exact .inr ⟨rfl,HD⟩
   case measure=>simp[intOf]
  ·
   go_wp2_with fail;go_end0;exact⟨rfl,HD.out⟩
set_option maxHeartbeats 8000000 in
theorem events_upb {w:World} {g b:Nat} {pa pb:Nat} {va vb:Value} {ua:Bool} {n:Nu} {C:Array Value} (hP:Blk w g 33 (prC pa pb va vb ua false n)) (hE:Blk w b 97 C) (hs:C.size=43) (h1:C.all (·.oneCell')=true)
  (e0:C[0]? = some (.int .i64 1)) (e1:C[1]? = some (.string exA)) (e2:C[2]? = some (.int .i64 1)) (hep:0≤n.eb∧n.eb≤1000000) :
  Calls Tryz.prog 14 #[ptrV g,.int .i64 1,.slice (some ⟨b,0,none⟩) 1 1] w fun e w'=>e = .returned (.tuple #[])∧Blk w' g 33 (prC pa pb va vb ua true { n with eb:=n.eb+1,sb:=0,fb:=0,gb:=0 })∧Only [g] w w':=by
 have HP:=qH hP;have HE:=qH hE;have HEP:=qH hep;have HE0:=qH e0;have HE1:=qH e1;have HE2:=qH e2;have hi:(Tryz.prog.info? 97).map (·.size)=some C.size:=by rw[hs];exact info97
 have HI:=qH hi;have HS:=qH hs;have H1:=qH h1;have hix0:=name_at false;have hix1:=name_at true;simp only[if_true,if_false,Bool.false_eq_true] at hix0 hix1;have w1:IntKind.i64.wrap 1=1:=by kernel_rfl
 have w0:IntKind.i64.wrap 0=0:=by kernel_rfl
 clear hP hE hep e0 e1 e2 hi hs h1;unfold ptrV;go_enter Tryz.func14,Tryz.ntmps14;go_wp2_with fail;go_loopw [6] (fun i wr=>(i = .int .i64 0∧wr=w)∨(i = .int .i64 1∧Hid (Blk wr g 33 (prC pa pb va vb ua true { n with eb:=n.eb+1,sb:=0,fb:=0,gb:=0 })∧Only [g] w wr))) (fun i _=>1-(intOf i).toNat)
 case atStart=>exact .inl ⟨rfl,rfl⟩
 case round=>
  rcases hrel with ⟨rfl,rfl⟩|⟨rfl,HD⟩
  ·
   go_upto_region 4 with
    (first
     | (refine wpList_load_blk rfl 97 _ rfl b rfl C 97 _ HE.out Tryz.underlying97 rfl HI.out ?_)
     | (refine wpList_store_blk rfl 97 _ _ rfl rfl _ C _ 97 rfl rfl (Blk.new _ _ _) (HS.out.trans rfl) HI.out H1.out ?_))
   intro w2 hb2 ho2;obtain⟨x0,hx0⟩:∃ q,q=wr.heap.size:=⟨_,rfl⟩;rw[←hx0] at hb2 ho2 ⊢;have ne:g≠x0:=by have:=HP.out.lt;omega
   have P2:=(HP.out.alloc (.cells _ 97)).only ho2 (by simp[ne]);have O2:=qH (only_more (Only.alloc [g] wr (.cells _ 97)) ho2 (by simp[hx0]));have HX:=qH hb2;have HNE:=qH ne;have C0:w2.cell? ⟨x0,0,none⟩=some (.int .i64 1):=by rw[hb2.cell];exact HE0.out
   have C2:w2.cell? ⟨x0,2,none⟩=some (.int .i64 1):=by rw[hb2.cell];exact HE2.out
   have g16:w2.cell? ⟨g,16,none⟩=some (.bool true):=P2.cell 16;have g4:w2.cell? ⟨g,5,none⟩=some (.bool false):=P2.cell 5;have f16:=P2.frozen 16;have f4:=P2.frozen 5;have HP3:Hid (Blk ((w2.setCell ⟨g,16,none⟩ (.bool true)).setCell ⟨g,5,none⟩ (.bool true)) g 33 (prC pa pb va vb ua true n)):=qH ((P2.set_ 16 (.bool true)).set_ 5 (.bool true));have O3:=qH ((O2.out.trans (Only.setCell w2 ⟨g,16,none⟩ (.bool true) (by simp))).trans (Only.setCell _ ⟨g,5,none⟩ (.bool true) (by simp)))
   have X3:=qH (((HX.out.far (p:=⟨g,16,none⟩) (Ne.symm ne) (.bool true))).far (p:=⟨g,5,none⟩) (Ne.symm ne) (.bool true));clear hb2 ho2 hx0 ne P2 O2 HX HP HE;go_upto_region 8 with fail
   clear C0 C2 g16 g4 f16 f4;generalize (w2.setCell ⟨g,16,none⟩ (.bool true)).setCell ⟨g,5,none⟩ (.bool true)=w3 at *;have g6:w3.cell? ⟨g,7,none⟩=some (.int .i64 n.eb):=HP3.out.cell 7;have f6:=HP3.out.frozen 7;have hw6:IntKind.i64.wrap (n.eb+1)=n.eb+1:=by have:=HEP.out;rw[IntKind.wrap_i64]<;>omega
   have HP4:Hid (Blk (w3.setCell ⟨g,7,none⟩ (.int .i64 (n.eb+1))).drew g 33 (prC pa pb va vb ua true { n with eb:=n.eb+1 })):=qH (HP3.out.drew.set_ 7 (.int .i64 (n.eb+1)));have O4:Hid (Only [g] wr (w3.setCell ⟨g,7,none⟩ (.int .i64 (n.eb+1))).drew):=qH ((O3.out.trans (Only.drew _ w3)).trans (Only.setCell w3.drew ⟨g,7,none⟩ (.int .i64 (n.eb+1)) (by simp)));have X4:Hid (Blk (w3.setCell ⟨g,7,none⟩ (.int .i64 (n.eb+1))).drew x0 97 C):=qH (X3.out.drew.far (p:=⟨g,7,none⟩) (Ne.symm HNE.out) (.int .i64 (n.eb+1)))
   clear HP3 O3 X3;go_still_tail 10,(by kernel_rfl);change wpList _ _ _ _ _ w3.drew;go_upto_region 9 with fail
   clear g6 f6 hw6;generalize (w3.setCell ⟨g,7,none⟩ (.int .i64 (n.eb+1))).drew=w4 at *;have g8:w4.cell? ⟨g,9,none⟩=some (.int .i64 n.sb):=HP4.out.cell 9;have g10:w4.cell? ⟨g,11,none⟩=some (.int .i64 n.fb):=HP4.out.cell 11;have g12:w4.cell? ⟨g,13,none⟩=some (.int .i64 n.gb):=HP4.out.cell 13;have f8:=HP4.out.frozen 9;have f10:=HP4.out.frozen 11;have f12:=HP4.out.frozen 13;go_region_held3 (fun _=>True) (trivial) (fail)
   have HP5:Hid (Blk ((((w4.setCell ⟨g,9,none⟩ (.int .i64 0)).setCell ⟨g,13,none⟩ (.int .i64 0)).setCell ⟨g,11,none⟩ (.int .i64 0)).drew) g 33 (prC pa pb va vb ua true { n with eb:=n.eb+1,sb:=0,fb:=0,gb:=0 })):=qH (((HP4.out.set_ 9 (.int .i64 0)).set_ 13 (.int .i64 0)).set_ 11 (.int .i64 0));have O5:Hid (Only [g] wr ((((w4.setCell ⟨g,9,none⟩ (.int .i64 0)).setCell ⟨g,13,none⟩ (.int .i64 0)).setCell ⟨g,11,none⟩ (.int .i64 0)).drew)):=qH ((((O4.out.trans (Only.setCell (bs:=[g]) _ ⟨g,9,none⟩ (.int .i64 0) (by simp))).trans (Only.setCell (bs:=[g]) _ ⟨g,13,none⟩ (.int .i64 0) (by simp))).trans (Only.setCell (bs:=[g]) _ ⟨g,11,none⟩ (.int .i64 0) (by simp))).trans (Only.drew _ _))
   have X5:Hid (Blk ((((w4.setCell ⟨g,9,none⟩ (.int .i64 0)).setCell ⟨g,13,none⟩ (.int .i64 0)).setCell ⟨g,11,none⟩ (.int .i64 0)).drew) x0 97 C):=qH (((X4.out.far (p:=⟨g,9,none⟩) (Ne.symm HNE.out) (.int .i64 0)).far (p:=⟨g,13,none⟩) (Ne.symm HNE.out) (.int .i64 0)).far (p:=⟨g,11,none⟩) (Ne.symm HNE.out) (.int .i64 0));clear g8 g10 g12 f8 f10 f12 HP4 O4 X4;generalize (((w4.setCell ⟨g,9,none⟩ (.int .i64 0)).setCell ⟨g,13,none⟩ (.int .i64 0)).setCell ⟨g,11,none⟩ (.int .i64 0)).drew=w5 at *
   have c16:w5.cell? ⟨g,16,none⟩=some (.bool true):=HP5.out.cell 16;have c1:w5.cell? ⟨x0,1,none⟩=some (.string exA):=by rw[X5.out.cell];exact HE1.out
   have hq:(exA.toList==exA.toList)=true:=by simp
   go_upto_region 20 with fail
   go_region_held3 (fun w'=>w'.cell? ⟨g,16,none⟩=some (.bool true)∧w'.cell? ⟨x0,1,none⟩=some (.string exA)) (first|exact⟨c16,c1⟩|exact⟨m16,m1⟩|exact⟨k16,k1⟩)
    ((first
     | (go_at_call 11;refine(names_any _).mono ?_;rintro e w6 ⟨rfl,b6⟩;have HP6:=qH (HP5.out.drew.below b6 HP5.out.lt);have X6:=qH (X5.out.drew.below b6 X5.out.lt);have O6:=qH ((O5.out.trans (Only.drew _ w5)).trans (Only.of_below b6));have m16:w6.cell? ⟨g,16,none⟩=some (.bool true):=HP6.out.cell 16;have m1:w6.cell? ⟨x0,1,none⟩=some (.string exA):=X6.out.cell 1 |>.trans HE1.out;have f16:=HP6.out.frozen 16;have HP7:Hid (Blk (w6.setCell ⟨g,16,none⟩ (.bool true)) g 33 (prC pa pb va vb ua true { n with eb:=n.eb+1,sb:=0,fb:=0,gb:=0 })):=qH (HP6.out.set_ 16 (.bool true));have X7:=qH (X6.out.far (p:=⟨g,16,none⟩) (Ne.symm HNE.out) (.bool true));have k16:(w6.setCell ⟨g,16,none⟩ (.bool true)).cell? ⟨g,16,none⟩=some (.bool true):=HP7.out.cell 16;have k1:(w6.setCell ⟨g,16,none⟩ (.bool true)).cell? ⟨x0,1,none⟩=some (.string exA):=X7.out.cell 1 |>.trans HE1.out;clear b6)))
   have HD:Hid (Blk (w6.setCell ⟨g,16,none⟩ (.bool true)) g 33 (prC pa pb va vb ua true { n with eb:=n.eb+1,sb:=0,fb:=0,gb:=0 })∧Only [g] wr (w6.setCell ⟨g,16,none⟩ (.bool true))):=qH ⟨HP7.out,O6.out.trans (Only.setCell w6 ⟨g,16,none⟩ (.bool true) (by simp))⟩;clear HP7 X7 HP6 X6 O6 m16 m1 f16 k16 k1 c16 c1 HP5 X5 O5;go_wp2_with fail;go_roundw
   case rel=>exact .inr ⟨rfl,HD⟩
   case measure=>simp[intOf]
  ·
   go_wp2_with fail;go_end0;exact⟨rfl,HD.out⟩
set_option maxHeartbeats 8000000 in
theorem events_downa {w:World} {g b:Nat} {pa pb:Nat} {va vb:Value} {ub:Bool} {n:Nu} {C:Array Value} (hP:Blk w g 33 (prC pa pb va vb true ub n)) (hE:Blk w b 97 C) (hs:C.size=43) (h1:C.all (·.oneCell')=true)
  (e0:C[0]? = some (.int .i64 3)) (e1:C[1]? = some (.string exB)) :
  Calls Tryz.prog 14 #[ptrV g,.int .i64 0,.slice (some ⟨b,0,none⟩) 1 1] w fun e w'=>e = .returned (.tuple #[])∧Blk w' g 33 (prC pa pb va vb false ub { n with ta:=max n.ta n.fa })∧Only [g] w w':=by
 have HP:=qH hP;have HE:=qH hE;have HE0:=qH e0;have HE1:=qH e1;have hi:(Tryz.prog.info? 97).map (·.size)=some C.size:=by rw[hs];exact info97
 have HI:=qH hi;have HS:=qH hs;have H1:=qH h1;have hix0:=name_at false;have hix1:=name_at true;simp only[if_true,if_false,Bool.false_eq_true] at hix0 hix1;have w1:IntKind.i64.wrap 1=1:=by kernel_rfl
 have w0:IntKind.i64.wrap 0=0:=by kernel_rfl
 clear hP hE e0 e1 hi hs h1;unfold ptrV;go_enter Tryz.func14,Tryz.ntmps14;go_wp2_with fail;go_loopw [6] (fun i wr=>(i = .int .i64 0∧wr=w)∨(i = .int .i64 1∧Hid (Blk wr g 33 (prC pa pb va vb false ub { n with ta:=max n.ta n.fa })∧Only [g] w wr))) (fun i _=>1-(intOf i).toNat)
 case atStart=>exact .inl ⟨rfl,rfl⟩
 case round=>
  rcases hrel with ⟨rfl,rfl⟩|⟨rfl,HD⟩
  ·
   go_upto_region 4 with
    (first
     | (refine wpList_load_blk rfl 97 _ rfl b rfl C 97 _ HE.out Tryz.underlying97 rfl HI.out ?_)
     | (refine wpList_store_blk rfl 97 _ _ rfl rfl _ C _ 97 rfl rfl (Blk.new _ _ _) (HS.out.trans rfl) HI.out H1.out ?_))
   intro w2 hb2 ho2;obtain⟨x0,hx0⟩:∃ q,q=wr.heap.size:=⟨_,rfl⟩;rw[←hx0] at hb2 ho2 ⊢;have ne:g≠x0:=by have:=HP.out.lt;omega
   have P2:=(HP.out.alloc (.cells _ 97)).only ho2 (by simp[ne]);have O2:=qH (only_more (Only.alloc [g] wr (.cells _ 97)) ho2 (by simp[hx0]));have HX:=qH hb2;have HNE:=qH ne;have C0:w2.cell? ⟨x0,0,none⟩=some (.int .i64 3):=by rw[hb2.cell];exact HE0.out
   have g16:w2.cell? ⟨g,16,none⟩=some (.bool true):=P2.cell 16;have g4:w2.cell? ⟨g,4,none⟩=some (.bool true):=P2.cell 4;have f16:=P2.frozen 16;have f4:=P2.frozen 4;have HP3:Hid (Blk ((w2.setCell ⟨g,16,none⟩ (.bool true)).setCell ⟨g,4,none⟩ (.bool false)) g 33 (prC pa pb va vb false ub n)):=qH ((P2.set_ 16 (.bool true)).set_ 4 (.bool false));have O3:=qH ((O2.out.trans (Only.setCell w2 ⟨g,16,none⟩ (.bool true) (by simp))).trans (Only.setCell _ ⟨g,4,none⟩ (.bool false) (by simp)))
   have X3:=qH (((HX.out.far (p:=⟨g,16,none⟩) (Ne.symm ne) (.bool true))).far (p:=⟨g,4,none⟩) (Ne.symm ne) (.bool false));clear hb2 ho2 hx0 ne P2 O2 HX HP HE;go_upto_region 13 with fail
   clear C0 g16 g4 f16 f4;generalize (w2.setCell ⟨g,16,none⟩ (.bool true)).setCell ⟨g,4,none⟩ (.bool false)=w3 at *;have g14:w3.cell? ⟨g,14,none⟩=some (.int .i64 n.ta):=HP3.out.cell 14;have g10:w3.cell? ⟨g,10,none⟩=some (.int .i64 n.fa):=HP3.out.cell 10;have f14:=HP3.out.frozen 14;have HP5:Hid (Blk (w3.setCell ⟨g,14,none⟩ (.int .i64 (max n.ta n.fa))).drew g 33 (prC pa pb va vb false ub { n with ta:=max n.ta n.fa })):=qH (HP3.out.drew.set_ 14 (.int .i64 (max n.ta n.fa)))
   have O5:Hid (Only [g] wr (w3.setCell ⟨g,14,none⟩ (.int .i64 (max n.ta n.fa))).drew):=qH ((O3.out.trans (Only.drew _ w3)).trans (Only.setCell w3.drew ⟨g,14,none⟩ (.int .i64 (max n.ta n.fa)) (by simp)));have X5:Hid (Blk (w3.setCell ⟨g,14,none⟩ (.int .i64 (max n.ta n.fa))).drew x0 97 C):=qH (X3.out.drew.far (p:=⟨g,14,none⟩) (Ne.symm HNE.out) (.int .i64 (max n.ta n.fa)));clear HP3 O3 X3;go_still_tail 18,(by kernel_rfl)
   change wpList _ _ _ _ _ w3.drew;go_upto_region 20 with fail
   clear g14 g10 f14;generalize (w3.setCell ⟨g,14,none⟩ (.int .i64 (max n.ta n.fa))).drew=w5 at *;have c16:w5.cell? ⟨g,16,none⟩=some (.bool true):=HP5.out.cell 16;have c1:w5.cell? ⟨x0,1,none⟩=some (.string exB):=by rw[X5.out.cell];exact HE1.out
   have hq:(exB.toList==exB.toList)=true:=by simp
   go_region_held3 (fun w'=>w'.cell? ⟨g,16,none⟩=some (.bool true)∧w'.cell? ⟨x0,1,none⟩=some (.string exB)) (first|exact⟨c16,c1⟩|exact⟨m16,m1⟩|exact⟨k16,k1⟩)
    ((first
     | (go_at_call 11;refine(names_any _).mono ?_;rintro e w6 ⟨rfl,b6⟩;have HP6:=qH (HP5.out.drew.below b6 HP5.out.lt);have X6:=qH (X5.out.drew.below b6 X5.out.lt);have O6:=qH ((O5.out.trans (Only.drew _ w5)).trans (Only.of_below b6));have m16:w6.cell? ⟨g,16,none⟩=some (.bool true):=HP6.out.cell 16;have m1:w6.cell? ⟨x0,1,none⟩=some (.string exB):=X6.out.cell 1 |>.trans HE1.out;have f16:=HP6.out.frozen 16;have HP7:Hid (Blk (w6.setCell ⟨g,16,none⟩ (.bool true)) g 33 (prC pa pb va vb false ub { n with ta:=max n.ta n.fa })):=qH (HP6.out.set_ 16 (.bool true));have X7:=qH (X6.out.far (p:=⟨g,16,none⟩) (Ne.symm HNE.out) (.bool true));have k16:(w6.setCell ⟨g,16,none⟩ (.bool true)).cell? ⟨g,16,none⟩=some (.bool true):=HP7.out.cell 16;have k1:(w6.setCell ⟨g,16,none⟩ (.bool true)).cell? ⟨x0,1,none⟩=some (.string exB):=X7.out.cell 1 |>.trans HE1.out;clear b6)))
   have HD:Hid (Blk (w6.setCell ⟨g,16,none⟩ (.bool true)) g 33 (prC pa pb va vb false ub { n with ta:=max n.ta n.fa })∧Only [g] wr (w6.setCell ⟨g,16,none⟩ (.bool true))):=qH ⟨HP7.out,O6.out.trans (Only.setCell w6 ⟨g,16,none⟩ (.bool true) (by simp))⟩;clear HP7 X7 HP6 X6 O6 m16 m1 f16 k16 k1 c16 c1 HP5 X5 O5;go_wp2_with fail;go_roundw
   case rel=>exact .inr ⟨rfl,HD⟩
   case measure=>simp[intOf]
  ·
   go_wp2_with fail;go_end0;exact⟨rfl,HD.out⟩
set_option maxHeartbeats 8000000 in
theorem events_downb {w:World} {g b:Nat} {pa pb:Nat} {va vb:Value} {ua:Bool} {n:Nu} {C:Array Value} (hP:Blk w g 33 (prC pa pb va vb ua true n)) (hE:Blk w b 97 C) (hs:C.size=43) (h1:C.all (·.oneCell')=true)
  (e0:C[0]? = some (.int .i64 3)) (e1:C[1]? = some (.string exA)) :
  Calls Tryz.prog 14 #[ptrV g,.int .i64 1,.slice (some ⟨b,0,none⟩) 1 1] w fun e w'=>e = .returned (.tuple #[])∧Blk w' g 33 (prC pa pb va vb ua false { n with tb:=max n.tb n.fb })∧Only [g] w w':=by
 have HP:=qH hP;have HE:=qH hE;have HE0:=qH e0;have HE1:=qH e1;have hi:(Tryz.prog.info? 97).map (·.size)=some C.size:=by rw[hs];exact info97
 have HI:=qH hi;have HS:=qH hs;have H1:=qH h1;have hix0:=name_at false;have hix1:=name_at true;simp only[if_true,if_false,Bool.false_eq_true] at hix0 hix1;have w1:IntKind.i64.wrap 1=1:=by kernel_rfl
 have w0:IntKind.i64.wrap 0=0:=by kernel_rfl
 clear hP hE e0 e1 hi hs h1;unfold ptrV;go_enter Tryz.func14,Tryz.ntmps14;go_wp2_with fail;go_loopw [6] (fun i wr=>(i = .int .i64 0∧wr=w)∨(i = .int .i64 1∧Hid (Blk wr g 33 (prC pa pb va vb ua false { n with tb:=max n.tb n.fb })∧Only [g] w wr))) (fun i _=>1-(intOf i).toNat)
 case atStart=>exact .inl ⟨rfl,rfl⟩
 case round=>
  rcases hrel with ⟨rfl,rfl⟩|⟨rfl,HD⟩
  ·
   go_upto_region 4 with
    (first
     | (refine wpList_load_blk rfl 97 _ rfl b rfl C 97 _ HE.out Tryz.underlying97 rfl HI.out ?_)
     | (refine wpList_store_blk rfl 97 _ _ rfl rfl _ C _ 97 rfl rfl (Blk.new _ _ _) (HS.out.trans rfl) HI.out H1.out ?_))
   intro w2 hb2 ho2;obtain⟨x0,hx0⟩:∃ q,q=wr.heap.size:=⟨_,rfl⟩;rw[←hx0] at hb2 ho2 ⊢;have ne:g≠x0:=by have:=HP.out.lt;omega
   have P2:=(HP.out.alloc (.cells _ 97)).only ho2 (by simp[ne]);have O2:=qH (only_more (Only.alloc [g] wr (.cells _ 97)) ho2 (by simp[hx0]));have HX:=qH hb2;have HNE:=qH ne;have C0:w2.cell? ⟨x0,0,none⟩=some (.int .i64 3):=by rw[hb2.cell];exact HE0.out
   have g16:w2.cell? ⟨g,16,none⟩=some (.bool true):=P2.cell 16;have g4:w2.cell? ⟨g,5,none⟩=some (.bool true):=P2.cell 5;have f16:=P2.frozen 16;have f4:=P2.frozen 5;have HP3:Hid (Blk ((w2.setCell ⟨g,16,none⟩ (.bool true)).setCell ⟨g,5,none⟩ (.bool false)) g 33 (prC pa pb va vb ua false n)):=qH ((P2.set_ 16 (.bool true)).set_ 5 (.bool false));have O3:=qH ((O2.out.trans (Only.setCell w2 ⟨g,16,none⟩ (.bool true) (by simp))).trans (Only.setCell _ ⟨g,5,none⟩ (.bool false) (by simp)))
   have X3:=qH (((HX.out.far (p:=⟨g,16,none⟩) (Ne.symm ne) (.bool true))).far (p:=⟨g,5,none⟩) (Ne.symm ne) (.bool false));clear hb2 ho2 hx0 ne P2 O2 HX HP HE;go_upto_region 13 with fail
   clear C0 g16 g4 f16 f4;generalize (w2.setCell ⟨g,16,none⟩ (.bool true)).setCell ⟨g,5,none⟩ (.bool false)=w3 at *;have g14:w3.cell? ⟨g,15,none⟩=some (.int .i64 n.tb):=HP3.out.cell 15;have g10:w3.cell? ⟨g,11,none⟩=some (.int .i64 n.fb):=HP3.out.cell 11;have f14:=HP3.out.frozen 15;have HP5:Hid (Blk (w3.setCell ⟨g,15,none⟩ (.int .i64 (max n.tb n.fb))).drew g 33 (prC pa pb va vb ua false { n with tb:=max n.tb n.fb })):=qH (HP3.out.drew.set_ 15 (.int .i64 (max n.tb n.fb)))
   have O5:Hid (Only [g] wr (w3.setCell ⟨g,15,none⟩ (.int .i64 (max n.tb n.fb))).drew):=qH ((O3.out.trans (Only.drew _ w3)).trans (Only.setCell w3.drew ⟨g,15,none⟩ (.int .i64 (max n.tb n.fb)) (by simp)));have X5:Hid (Blk (w3.setCell ⟨g,15,none⟩ (.int .i64 (max n.tb n.fb))).drew x0 97 C):=qH (X3.out.drew.far (p:=⟨g,15,none⟩) (Ne.symm HNE.out) (.int .i64 (max n.tb n.fb)));clear HP3 O3 X3;go_still_tail 18,(by kernel_rfl)
   change wpList _ _ _ _ _ w3.drew;go_upto_region 20 with fail
   clear g14 g10 f14;generalize (w3.setCell ⟨g,15,none⟩ (.int .i64 (max n.tb n.fb))).drew=w5 at *;have c16:w5.cell? ⟨g,16,none⟩=some (.bool true):=HP5.out.cell 16;have c1:w5.cell? ⟨x0,1,none⟩=some (.string exA):=by rw[X5.out.cell];exact HE1.out
   have hq:(exA.toList==exA.toList)=true:=by simp
   go_region_held3 (fun w'=>w'.cell? ⟨g,16,none⟩=some (.bool true)∧w'.cell? ⟨x0,1,none⟩=some (.string exA)) (first|exact⟨c16,c1⟩|exact⟨m16,m1⟩|exact⟨k16,k1⟩)
    ((first
     | (go_at_call 11;refine(names_any _).mono ?_;rintro e w6 ⟨rfl,b6⟩;have HP6:=qH (HP5.out.drew.below b6 HP5.out.lt);have X6:=qH (X5.out.drew.below b6 X5.out.lt);have O6:=qH ((O5.out.trans (Only.drew _ w5)).trans (Only.of_below b6));have m16:w6.cell? ⟨g,16,none⟩=some (.bool true):=HP6.out.cell 16;have m1:w6.cell? ⟨x0,1,none⟩=some (.string exA):=X6.out.cell 1 |>.trans HE1.out;have f16:=HP6.out.frozen 16;have HP7:Hid (Blk (w6.setCell ⟨g,16,none⟩ (.bool true)) g 33 (prC pa pb va vb ua false { n with tb:=max n.tb n.fb })):=qH (HP6.out.set_ 16 (.bool true));have X7:=qH (X6.out.far (p:=⟨g,16,none⟩) (Ne.symm HNE.out) (.bool true));have k16:(w6.setCell ⟨g,16,none⟩ (.bool true)).cell? ⟨g,16,none⟩=some (.bool true):=HP7.out.cell 16;have k1:(w6.setCell ⟨g,16,none⟩ (.bool true)).cell? ⟨x0,1,none⟩=some (.string exA):=X7.out.cell 1 |>.trans HE1.out;clear b6)))
   have HD:Hid (Blk (w6.setCell ⟨g,16,none⟩ (.bool true)) g 33 (prC pa pb va vb ua false { n with tb:=max n.tb n.fb })∧Only [g] wr (w6.setCell ⟨g,16,none⟩ (.bool true))):=qH ⟨HP7.out,O6.out.trans (Only.setCell w6 ⟨g,16,none⟩ (.bool true) (by simp))⟩;clear HP7 X7 HP6 X6 O6 m16 m1 f16 k16 k1 c16 c1 HP5 X5 O5;go_wp2_with fail;go_roundw
   case rel=>exact .inr ⟨rfl,HD⟩
   case measure=>simp[intOf]
  ·
   go_wp2_with fail;go_end0;exact⟨rfl,HD.out⟩
end Go.Proofs.YtoaimoemaoinhaaGreatDoor
