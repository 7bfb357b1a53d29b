/- PeersX: a part of the proof. No condition beyond the premises of each theorem. -/
import Derived.Test.YtoaimoemaoinhaaGreatDoorQp08
import Derived.Test.YtoaimoemaoinhaaGreatDoorQp21
import Derived.Test.YtoaimoemaoinhaaGreatDoorQp22
import Derived.Test.YtoaimoemaoinhaaGreatDoorQp00
set_option maxRecDepth 100000
namespace Go.Proofs.YtoaimoemaoinhaaGreatDoor
open Go.RowKit Go.Rt Go.Rw Go.Mp
theorem ptr_nil1 (a:Addr) (W:World):(binOp .neq 86 (.pointer (some a)) (.pointer none)).run Tryz.prog W = .ok (.bool true) W:=by kernel_rfl
theorem ptr_nil0 (W:World):(binOp .neq 86 (.pointer none) (.pointer none)).run Tryz.prog W = .ok (.bool false) W:=by kernel_rfl
set_option maxHeartbeats 4000000 in
theorem pdial_arg {w:World} {g mc mo ml:Nat} {nm:ByteArray} {gen:Nat} {ck:ByteArray} {ch di:Nat} {C:List (ByteArray×Nat)} {O:List (ByteArray×Value)} {L:List (ByteArray×Int)} (h:PM w g mc mo ml nm (gen:Int) ck ch di C O L) (node:ByteArray) (ho:(nameF node && !(node.toList==nm.toList))=false) :
  Calls Tryz.prog 10 #[.pointer (some ⟨g,0,none⟩),.string node] w fun e w'=>e = .returned (.int .i64 2)∧Below w.heap.size w w':=by
 have c0:w.cell? ⟨g,0,none⟩=some (.string nm):=h.blk.cell 0;have c5:w.cell? ⟨g,5,none⟩=some (.map (some mc)):=h.blk.cell 5;have CN:=qH (none_no g mc w c5);have CO:=qH (other_any g nm node w c0);rw[ho] at CO;go_enter Tryz.func10,Tryz.ntmps10;go_wp2_with fail;refine CN.out.mono ?_;rintro e w0 ⟨rfl,rfl⟩;clear CN;go_wp2_with fail;refine CO.out.mono ?_;rintro e w1 ⟨rfl,b1⟩;have B1:=qH b1;clear b1 CO c0 c5
 go_wp2_with fail;go_ret;exact⟨rfl,B1.out⟩
set_option maxHeartbeats 4000000 in
theorem pdial_twice {w:World} {g mc mo ml:Nat} {nm:ByteArray} {gen:Nat} {ck:ByteArray} {ch di:Nat} {C:List (ByteArray×Nat)} {O:List (ByteArray×Value)} {L:List (ByteArray×Int)} (h:PM w g mc mo ml nm (gen:Int) ck ch di C O L) (node:ByteArray) (ho:(nameF node && !(node.toList==nm.toList))=true) (c:Nat) (hg:get C node=some c) :
  Calls Tryz.prog 10 #[.pointer (some ⟨g,0,none⟩),.string node] w fun e w'=>e = .returned (.int .i64 8)∧Below w.heap.size w w':=by
 have H:=qH h;have HLK:=qH (show conV C node = .pointer (some ⟨c,0,none⟩) by unfold conV;rw[hg];rfl);have c0:w.cell? ⟨g,0,none⟩=some (.string nm):=h.blk.cell 0;have c5:w.cell? ⟨g,5,none⟩=some (.map (some mc)):=h.blk.cell 5;have CN:=qH (none_no g mc w c5);have CO:=qH (other_any g nm node w c0);rw[ho] at CO;clear h ho hg;go_enter Tryz.func10,Tryz.ntmps10;go_wp2_with fail;refine CN.out.mono ?_;rintro e w0 ⟨rfl,rfl⟩
 clear CN;go_wp2_with fail;refine CO.out.mono ?_;rintro e w1 ⟨rfl,b1⟩;have B1:=qH b1;have H1:=qH (H.out.below b1);clear b1 CO c0 c5;have d5:w1.cell? ⟨g,5,none⟩=some (.map (some mc)):=H1.out.blk.cell 5;have hl:=look_con H1.out.cm node;rw[HLK.out] at hl;have hp:=ptr_nil1 ⟨c,0,none⟩;go_wp2_with fail;go_ret;exact⟨rfl,B1.out⟩
def Dialed (w:World) (base g mc mo ml:Nat) (nm:ByteArray) (gen:Nat) (ck:ByteArray) (ch di:Nat) (C:List (ByteArray×Nat)) (O:List (ByteArray×Value)) (L:List (ByteArray×Int)) (node:ByteArray) (l:List ByteArray) (w':World):Prop:=
 ∃ B c v',Blk w' B 141 (Sk.sdC (Sk.dialS ⟨nm,gen⟩ node ck ch))∧Blk w' c 93 (cnC node true (di+1) (ptrV B) 0 (.pointer none) 0)∧w.heap.size≤B∧w.heap.size≤c ∧
  PM w' g mc mo ml nm (gen:Int) ck (ch+1) (di+1) (put C node c) (put O node v') L∧Sl w' base 9 1 strC v' (l ++ [pkF true (di+1) 72 (Sk.helloF ⟨nm,gen⟩ node)]) ∧
  Only (g::mc::mo::(outV O node).ownBlock.toList) w w'∧(v'.ownBlock=(outV O node).ownBlock∨∀ q,v'.ownBlock=some q→w.heap.size≤q)
theorem hello_size (nm:ByteArray) (gen:Nat) (node:ByteArray):(Sk.helloF ⟨nm,gen⟩ node).size=2+(nm.size+5)+(node.size+1):=by
 unfold Sk.helloF;rw[ByteArray.size_append,ByteArray.size_append,Sk.encF_size,Sk.lenF_size];rfl
set_option maxHeartbeats 4000000 in
theorem pdial_yes {w:World} {g mc mo ml:Nat} {nm:ByteArray} {gen:Nat} {ck:ByteArray} {ch di:Nat} {C:List (ByteArray×Nat)} {O:List (ByteArray×Value)} {L:List (ByteArray×Int)} (h:PM w g mc mo ml nm (gen:Int) ck ch di C O L) (base:Nat) (hbs:base≤w.heap.size) (node:ByteArray) (hn:newOk nm (gen:Int)=true) (ho:(nameF node && !(node.toList==nm.toList))=true) (hg:get C node=none)
  (hch:ch+1<18446744073709551616) (hdi:di+1<18446744073709551616) (l:List ByteArray) (hS:Sl w base 9 1 strC (outV O node) l) (hl:l.length≤100000000) :
  Calls Tryz.prog 10 #[.pointer (some ⟨g,0,none⟩),.string node] w fun e w'=>e = .returned (.int .i64 0)∧Dialed w base g mc mo ml nm gen ck ch di C O L node l w':=by
 have H:=qH h;have HBS:=qH hbs;have HLK:=qH (show conV C node = .pointer none by unfold conV;rw[hg]);have hdb:Sk.dialB nm (gen:Int) node=true:=by
  unfold newOk at hn;simp only[Bool.and_eq_true,Bool.not_eq_true'] at hn ho;unfold Sk.dialB Sk.seqB;rw[hn.1,hn.2,ho.1,ho.2];rfl
 have hns:=nameF_size nm (by unfold newOk at hn;rw[Bool.and_eq_true] at hn;exact hn.1);have hds:=nameF_size node (by rw[Bool.and_eq_true] at ho;exact ho.1);have CD:=qH (fun(W:World)=>Sk.dial_yes nm gen node ck ch hdb W);have hhz:=hello_size nm gen node;obtain⟨HE,hHE⟩:∃ q,q=Sk.helloF ⟨nm,gen⟩ node:=⟨_,rfl⟩;have HHE:=qH hHE.symm;rw[←hHE] at CD hhz
 try dsimp only at hhz
 have hhs:HE.size≤1000000000:=by omega
 clear hHE hhz hns hds hdb hn;obtain⟨V,hV⟩:∃ q,q=outV O node:=⟨_,rfl⟩;have HV:Hid (outV O node=V):=qH hV.symm;rw[←hV] at hS;clear hV;have c0:w.cell? ⟨g,0,none⟩=some (.string nm):=h.blk.cell 0;have c5:w.cell? ⟨g,5,none⟩=some (.map (some mc)):=h.blk.cell 5;have CN:=qH (none_no g mc w c5);have CO:=qH (other_any g nm node w c0);rw[ho] at CO;clear ho hg;go_enter Tryz.func10,Tryz.ntmps10;clear h;go_wp2_with fail
 refine CN.out.mono ?_;rintro e w0 ⟨rfl,rfl⟩;clear CN;go_wp2_with fail;refine CO.out.mono ?_;rintro e w1 ⟨rfl,b1⟩;have OO:=qH (Only.of_below (bs:=g::mc::mo::V.ownBlock.toList) b1);replace H:=qH (H.out.below b1);have S:=qH (hS.below b1 (fun q hq=>(hS.lt q hq).2));clear b1 CO c0 c5 hS hbs;have d5:w1.cell? ⟨g,5,none⟩=some (.map (some mc)):=H.out.blk.cell 5;have hlk:=look_con H.out.cm node;rw[HLK.out] at hlk
 have hp:=ptr_nil0;go_upto_region 7 with fail
 clear d5 hlk hp;refine wp_region_held_drew (S:=(fun w'=>w'.cell? ⟨g,0,none⟩=some (.string nm)∧w'.cell? ⟨g,1,none⟩=some (.int .i64 (gen:Int))∧w'.cell? ⟨g,2,none⟩=some (.string ck))) (by kernel_rfl) (⟨H.out.blk.cell 0,H.out.blk.cell 1,H.out.blk.cell 2⟩) (fun hS=>?_);replace H:Hid (PM w1.drew g mc mo ml nm (gen:Int) ck ch di C O L):=qH (H.out.below (Below.refl _ _).drew);replace S:Hid (Sl w1.drew base 9 1 strC V l):=qH (S.out.below (Below.refl w1.heap.size w1).drew (fun q hq=>(S.out.lt q hq).2))
 replace OO:=qH (OO.out.trans (Only.drew _ w1));generalize w1.drew=wd at *;refine tl 0 26 (v:=?_) rfl ?_ ?_;rotate_left
 ·
  intro w hSw;go_simp
  with_reducible rfl
 simp only[PU];refine tl 1 27 (v:=?_) rfl ?_ ?_;rotate_left
 ·
  intro w hSw;go_simp
  with_reducible rfl
 simp only[PU];refine tl 2 28 (v:=?_) rfl ?_ ?_;rotate_left
 ·
  intro w hSw;go_simp
  with_reducible rfl
 simp only[PU];refine tl 3 29 (v:=?_) rfl ?_ ?_;rotate_left
 ·
  intro w hSw;have a0:=hSw.1;have a1:=hSw.2.1;have a2:=hSw.2.2;go_simp
  with_reducible rfl
 simp only[PU];refine tl 4 30 (v:=?_) rfl ?_ ?_;rotate_left
 ·
  intro w hSw;go_simp
  with_reducible rfl
 simp only[PU];refine tl 5 31 (v:=?_) rfl ?_ ?_;rotate_left
 ·
  intro w hSw;go_simp
  with_reducible rfl
 simp only[PU];refine tl 6 32 (v:=?_) rfl ?_ ?_;rotate_left
 ·
  intro w hSw;go_simp
  with_reducible rfl
 simp only[PU];refine tl 7 33 (v:=?_) rfl ?_ ?_;rotate_left
 ·
  intro w hSw;go_simp
  with_reducible rfl
 simp only[PU];refine tl 8 34 (v:=?_) rfl ?_ ?_;rotate_left
 ·
  intro w hSw;have a0:=hSw.1;have a1:=hSw.2.1;have a2:=hSw.2.2;go_simp
  with_reducible rfl
 simp only[PU];refine tl 9 35 (v:=?_) rfl ?_ ?_;rotate_left
 ·
  intro w hSw;go_simp
  with_reducible rfl
 simp only[PU];refine wpAnyH_ready (rs:=[10]) (by kernel_rfl) (by simp) ?_;refine AllReadyH.cons rfl (fun K hK=>?_) AllReadyH.nil;go_simp;refine(next_any g nm (gen:Int) ck ch di mc mo ml (by omega) wd H.out.blk).mono ?_;rintro e w2 ⟨rfl,e2⟩;have o2:Only [g] wd w2:=by rw[e2];exact Only.setCell wd ⟨g,3,none⟩ _ (by simp)
 have hsp:=H.out.sep;have kk:=sl_off S.out H.out.blk (by decide);have HB:Hid (Blk w2 g 58 (pC nm (gen:Int) ck (ch+1) di mc mo ml)):=qH (by rw[e2];exact H.out.blk.set_ 3 _);replace H:Hid (PM w2 g mc mo ml nm (gen:Int) ck (ch+1) di C O L):=qH ⟨HB.out,H.out.cm.of_heap (o2.block _ H.out.cm.lt (by simp;omega)),H.out.om.of_heap (o2.block _ H.out.om.lt (by simp;omega)),H.out.lm.of_heap (o2.block _ H.out.lm.lt (by simp;omega)),hsp⟩
 replace S:=qH (S.out.only o2 (fun q hq=>by simp;exact kk q hq));replace OO:=qH (OO.out.trans (o2.mono (fun b hb=>.inl (by rw[List.mem_singleton.1 hb];exact List.mem_cons_self))));clear e2 o2 hsp kk HB;go_wp2_with fail;refine hK.out _ _ (⟨H.out.blk.cell 0,H.out.blk.cell 1,H.out.blk.cell 2⟩) (fun hS=>?_);clear hK K
 try simp only[PU]
 refine wpAnyH_ready (rs:=[11]) (by kernel_rfl) (by simp) ?_;refine AllReadyH.cons rfl (fun K hK=>?_) AllReadyH.nil;go_simp;refine(CD.out w2).mono ?_;rintro e w3 ⟨B,rfl,hB,xB,b3⟩;replace H:=qH (H.out.below b3);replace S:=qH (S.out.below b3 (fun q hq=>(S.out.lt q hq).2));have HBG:=qH (Nat.le_trans OO.out.size hB);replace OO:=qH (OO.out.trans (Only.of_below b3));have XB:=qH xB;clear hB xB b3 CD;go_wp2_with fail
 refine hK.out _ _ (⟨H.out.blk.cell 0,H.out.blk.cell 1,H.out.blk.cell 2⟩) (fun hS=>?_);clear hK K
 try simp only[PU]
 refine tl 12 25 (v:=?_) rfl ?_ ?_;rotate_left
 ·
  intro w hSw;go_simp
  with_reducible rfl
 simp only[PU];refine tl 13 38 (v:=?_) rfl ?_ ?_;rotate_left
 ·
  intro w hSw;go_simp
  with_reducible rfl
 simp only[PU];refine tl 14 39 (v:=?_) rfl ?_ ?_;rotate_left
 ·
  intro w hSw;go_simp
  with_reducible rfl
 simp only[PU];refine tl 15 40 (v:=?_) rfl ?_ ?_;rotate_left
 ·
  intro w hSw;go_simp
  with_reducible rfl
 simp only[PU];refine tl 16 5 (v:=?_) rfl ?_ ?_;rotate_left
 ·
  intro w hSw;go_simp
  with_reducible rfl
 simp only[PU];refine tl 17 6 (v:=?_) rfl ?_ ?_;rotate_left
 ·
  intro w hSw;go_simp
  with_reducible rfl
 simp only[PU];refine tl 18 7 (v:=?_) rfl ?_ ?_;rotate_left
 ·
  intro w hSw;go_simp
  with_reducible rfl
 simp only[PU];refine wpAnyH_done (by kernel_rfl) ?_ _;clear hS;have d4:w3.cell? ⟨g,4,none⟩=some (.int .u64 (di:Int)):=H.out.blk.cell 4;have f4:=H.out.blk.frozen 4;have o4:Only [g] w3 (w3.setCell ⟨g,4,none⟩ (.int .u64 ((di+1:Nat):Int))):=Only.setCell w3 ⟨g,4,none⟩ _ (by simp);have hsp:=H.out.sep;have kk:=sl_off S.out H.out.blk (by decide);have kb:=XB.out.ne_ H.out.blk (by decide);replace H:Hid (PM (w3.setCell ⟨g,4,none⟩ (.int .u64 ((di+1:Nat):Int))) g mc mo ml nm (gen:Int) ck (ch+1) (di+1) C O L):=qH ⟨H.out.blk.set_ 4 _,H.out.cm.of_heap (o4.block _ H.out.cm.lt (by simp;omega)),H.out.om.of_heap (o4.block _ H.out.om.lt (by simp;omega)),H.out.lm.of_heap (o4.block _ H.out.lm.lt (by simp;omega)),hsp⟩
 replace S:=qH (S.out.only o4 (fun q hq=>by simp;exact kk q hq));replace OO:=qH (OO.out.trans (o4.mono (fun b hb=>.inl (by rw[List.mem_singleton.1 hb];exact List.mem_cons_self))));replace XB:=qH (XB.out.only o4 (by simpa using kb));clear o4 hsp kk kb;go_upto_region 11 with fail
 clear d4 f4;have ew:w3.setCell ⟨g,4,none⟩ (.int .u64 ((di:Int)+1))=w3.setCell ⟨g,4,none⟩ (.int .u64 ((di+1:Nat):Int)):=rfl
 try rw[ew]
 clear ew;generalize w3.setCell ⟨g,4,none⟩ (.int .u64 ((di+1:Nat):Int))=w4 at *;obtain⟨dn,hdn⟩:∃ q,q=di+1:=⟨_,rfl⟩;have HDN:=qH hdn;rw[←hdn] at H;clear hdn;have d4:w4.cell? ⟨g,4,none⟩=some (.int .u64 (dn:Int)):=H.out.blk.cell 4;obtain⟨c,hc⟩:∃ q,q=w4.heap.size:=⟨_,rfl⟩;have HC:=qH (show w0.heap.size≤c by rw[hc];exact OO.out.size);have AL:=(Below.refl w4.heap.size w4).alloc (Nat.le_refl _) (.cells (cnC node true dn (ptrV B) 0 (.pointer none) 0) 93)
 have XC:=qH (Blk.new w4 93 (cnC node true dn (ptrV B) 0 (.pointer none) 0));rw[←hc] at XC;replace H:=qH (H.out.below AL);replace S:=qH (S.out.below AL (fun q hq=>(S.out.lt q hq).2));replace OO:=qH (OO.out.trans (Only.of_below AL));replace XB:=qH (XB.out.below AL XB.out.lt);clear AL;unfold cnC ptrV at XC H S OO XB;go_upto_region 12 with fail
 try rw[←hc]
 clear d4 hc;generalize w4.alloc (.cells #[.string node,.bool true,.int .u64 (dn:Int),.pointer (some ⟨B,0,none⟩),.int .i64 0,.pointer none,.int .i64 0] 93)=w5 at *;have d5:w5.cell? ⟨g,5,none⟩=some (.map (some mc)):=H.out.blk.cell 5;obtain⟨o,hu,hm⟩:=run_update (P:=Tryz.prog) (str_emb undS) und75 H.out.cm node c;replace hu:(Instr.mapUpdate 54 (.map (some mc)) (.string node) (.pointer (some ⟨c,0,none⟩))).run Tryz.prog w5 = .ok () (w5.putObj mc o):=hu
 have HMM:=qH hm;clear hm;go_upto_region 13 with fail
 clear d5 hu;have op:Only [mc] w5 (w5.putObj mc o):=Only.putObj w5 mc o (by simp);have hsp:=H.out.sep;have k3:=sl_offm S.out H.out.cm;have hmb:B≠mc:=by
  rintro rfl;obtain⟨es,cc,hb,_⟩:=H.out.cm
  have:=XB.out
  unfold Blk at this;rw[this] at hb;cases hb
 have hmcc:c≠mc:=by
  rintro rfl;obtain⟨es,cc,hb,_⟩:=H.out.cm
  have:=XC.out
  unfold Blk at this;rw[this] at hb;cases hb
 replace H:Hid (PM (w5.putObj mc o) g mc mo ml nm (gen:Int) ck (ch+1) dn (put C node c) O L):=qH ⟨H.out.blk.only op (by simp;omega),HMM.out,H.out.om.of_heap (op.block _ H.out.om.lt (by simp;omega)),H.out.lm.of_heap (op.block _ H.out.lm.lt (by simp;omega)),hsp⟩;replace S:=qH (S.out.only op (fun q hq=>by simp;exact k3 q hq));replace OO:=qH (OO.out.trans (op.mono (fun b hb=>.inl (by rw[List.mem_singleton.1 hb];exact List.mem_cons_of_mem _ List.mem_cons_self))))
 replace XB:=qH (XB.out.only op (by simpa using hmb));replace XC:=qH (XC.out.only op (by simpa using hmcc));clear op hsp k3 hmb hmcc HMM;generalize w5.putObj mc o=w6 at *;have S2:Hid (Sl w6 base 9 1 strC (outV O node) l):=qH (by rw[HV.out];exact S.out);have CT:=qH (tell_any H.out base (by have:=HBS.out;have:=OO.out.size;omega) c node true dn (ptrV B) 0 (.pointer none) 0 XC.out 72 HE hhs l S2.out hl)
 go_wp2_with fail;refine CT.out.mono ?_;rintro e w7 ⟨rfl,v',h1,h2,h3,h4⟩;obtain rfl:=HDN.out;have HF:Hid (Dialed w0 base g mc mo ml nm gen ck ch di C O L node l w7):=qH (by
  have n1:∀ b,b=B∨b=c→b∉mo::(outV O node).ownBlock.toList:=by
   intro b hb;have k1:=sl_off S2.out XB.out (by decide);have k2:=sl_off S2.out XC.out (by decide);have k3:B≠mo:=by
    rintro rfl;obtain⟨es,cc,hb,_⟩:=H.out.om
    have:=XB.out
    unfold Blk at this;rw[this] at hb;cases hb
   have k4:c≠mo:=by
    rintro rfl;obtain⟨es,cc,hb,_⟩:=H.out.om
    have:=XC.out
    unfold Blk at this;rw[this] at hb;cases hb
   simp only[List.mem_cons,Option.mem_toList,not_or];rcases hb with rfl|rfl
   ·
    exact⟨k3,fun hq=>k1 _ hq rfl⟩
   ·
    exact⟨k4,fun hq=>k2 _ hq rfl⟩
  refine⟨B,c,v',XB.out.only h3 (n1 B (.inl rfl)),XC.out.only h3 (n1 c (.inr rfl)),HBG.out,HC.out,h1,?_,?_,?_⟩
  ·
   rw[HHE.out];exact h2
  ·
   rw[HV.out] at h3 ⊢;exact OO.out.trans (h3.mono (fun b hb=>.inl (List.mem_cons_of_mem _ (List.mem_cons_of_mem _ hb))))
  ·
   rcases h4 with h|h
   ·
    exact .inl h
   ·
    exact .inr (fun q hq=>Nat.le_trans OO.out.size (h q hq)))
 clear h1 h2 h3 h4 CT S2 H S OO XB XC;go_wp2_with fail;go_ret;exact⟨rfl,HF.out⟩
end Go.Proofs.YtoaimoemaoinhaaGreatDoor
namespace Go.Proofs.YtoaimoemaoinhaaGreatDoor
open Go.RowKit Go.Rt Go.Rw Go.Mp
theorem exec_load_blk {P:Program} {op:Oper} {ev:Operand→Value} {w:World} (ty:TypeId) (x:Operand) (ho:op.op = .load ty x) (b:Nat) (hx:ev x = .pointer (some ⟨b,0,none⟩)) (cs:Array Value) (t:TypeId) (d:TypeDesc) (hc:Blk w b t cs)
  (hu:P.underlying ty=some d) (hd:d.isRow=true) (hi:(P.info? ty).map (·.size)=some cs.size):(execOp ev op).run P w = .ok (.value (.agg cs)) w:=by
 have:=run_loadVar_mid (P:=P) w b 0 ty cs.toList d hc.range hu hd (by simpa using hi)
 unfold execOp;simp[ho,hx,Instr.loadAt,Instr.sureAddr,this,Result.andThen]
def srcS (s:Sg):ByteArray:=if hasU (usesF s.k) 0 then s.fr.f.nm else s.node
def tgtS (s:Sg):ByteArray:=if hasU (usesF s.k) 1 then s.tt.f.nm else s.node
set_option maxHeartbeats 4000000 in
theorem srcS_any (S:Nat→Prop) (s:Sg) (x:Sf) (w:World) (h:SgAt S w s x):Calls Tryz.prog 47 #[sgV s x] w fun e w'=>e = .returned (.string (srcS s))∧Below w.heap.size w w':=by
 obtain⟨RV,hRV⟩:∃ q,q=srcS s:=⟨_,rfl⟩;rw[←hRV];unfold srcS at hRV;obtain⟨u,hu⟩:∃ u,u=usesF s.k:=⟨_,rfl⟩;rw[←hu] at hRV;have HRV:=qH hRV;have CU:=qH (fun(W:World)=>uses21 s.k W);rw[←hu] at CU;obtain⟨CS,hCS⟩:∃ q,q=(sgC s x).toArray:=⟨_,rfl⟩;have HSV:Hid (sgV s x = .agg CS):=qH (by rw[hCS];rfl);have HC0:Hid (CS[0]? = some (.int .i64 s.k)):=qH (by rw[hCS];rfl);have HC1:Hid (CS[4]? = some (.string s.fr.f.nm)):=qH (by rw[hCS,←h.fr.its.1];rfl)
 have HC2:Hid (CS[19]? = some (.string s.node)):=qH (by rw[hCS];rfl);rw[HSV.out];clear hRV hu hCS h;obtain⟨m,hm⟩:∃ q,q=w.heap.size:=⟨_,rfl⟩;have HM:=qH hm;have X:=qH (Blk.new w 50 CS);have B:=qH ((Below.refl w.heap.size w).alloc (Nat.le_refl _) (.cells CS 50));rw[←hm] at X B;have HTR:Hid (∀ W W',Below m w W→Below W.heap.size W W'→Below m w W'):=qH (fun W W' h1 h2=>h1.trans (h2.mono (by have:=h1.size;have:=HM.out;omega)))
 go_enter Tryz.func47,Tryz.ntmps47;go_upto_region 1 with fail
 rw[←hm];generalize w.alloc (.cells CS 50)=w1 at X B ⊢;clear hm;have q0:w1.cell? ⟨m,0,none⟩=some (.int .i64 s.k):=(X.out.cell 0).trans HC0.out;go_wp2_with fail;refine(CU.out _).mono ?_;rintro e w2 ⟨rfl,b2⟩;replace X:=qH (X.out.below b2 X.out.lt);replace B:=qH (HTR.out _ _ B.out b2);clear b2 q0;have q1:w2.cell? ⟨m,4,none⟩=some (.string s.fr.f.nm):=(X.out.cell 4).trans HC1.out;have q2:w2.cell? ⟨m,19,none⟩=some (.string s.node):=(X.out.cell 19).trans HC2.out
 obtain⟨hb,hhb⟩:∃ q,q=(bits BinOp.and IntKind.i64 u 1==0):=⟨_,rfl⟩;have hbe:(bits BinOp.and IntKind.i64 u 1 != 0) = !hb:=by rw[hhb];rfl
 have HU:Hid (hasU u 0 = !hb):=qH (by rw[hhb];rfl);clear hhb;cases hb with
 | true=>
  obtain rfl:RV=s.node:=by rw[HRV.out,HU.out];rfl
  clear HRV;go_wp2_with fail;go_ret;exact⟨rfl,by rw[←HM.out];exact B.out⟩
 | false=>
  obtain rfl:RV=s.fr.f.nm:=by rw[HRV.out,HU.out];rfl
  clear HRV;go_wp2_with fail;go_ret;exact⟨rfl,by rw[←HM.out];exact B.out⟩
set_option maxHeartbeats 4000000 in
theorem tgtS_any (S:Nat→Prop) (s:Sg) (x:Sf) (w:World) (h:SgAt S w s x):Calls Tryz.prog 48 #[sgV s x] w fun e w'=>e = .returned (.string (tgtS s))∧Below w.heap.size w w':=by
 obtain⟨RV,hRV⟩:∃ q,q=tgtS s:=⟨_,rfl⟩;rw[←hRV];unfold tgtS at hRV;obtain⟨u,hu⟩:∃ u,u=usesF s.k:=⟨_,rfl⟩;rw[←hu] at hRV;have HRV:=qH hRV;have CU:=qH (fun(W:World)=>uses21 s.k W);rw[←hu] at CU;obtain⟨CS,hCS⟩:∃ q,q=(sgC s x).toArray:=⟨_,rfl⟩;have HSV:Hid (sgV s x = .agg CS):=qH (by rw[hCS];rfl);have HC0:Hid (CS[0]? = some (.int .i64 s.k)):=qH (by rw[hCS];rfl);have HC1:Hid (CS[13]? = some (.string s.tt.f.nm)):=qH (by rw[hCS,←h.tt.its.1];rfl)
 have HC2:Hid (CS[19]? = some (.string s.node)):=qH (by rw[hCS];rfl);rw[HSV.out];clear hRV hu hCS h;obtain⟨m,hm⟩:∃ q,q=w.heap.size:=⟨_,rfl⟩;have HM:=qH hm;have X:=qH (Blk.new w 50 CS);have B:=qH ((Below.refl w.heap.size w).alloc (Nat.le_refl _) (.cells CS 50));rw[←hm] at X B;have HTR:Hid (∀ W W',Below m w W→Below W.heap.size W W'→Below m w W'):=qH (fun W W' h1 h2=>h1.trans (h2.mono (by have:=h1.size;have:=HM.out;omega)))
 go_enter Tryz.func48,Tryz.ntmps48;go_upto_region 1 with fail
 rw[←hm];generalize w.alloc (.cells CS 50)=w1 at X B ⊢;clear hm;have q0:w1.cell? ⟨m,0,none⟩=some (.int .i64 s.k):=(X.out.cell 0).trans HC0.out;go_wp2_with fail;refine(CU.out _).mono ?_;rintro e w2 ⟨rfl,b2⟩;replace X:=qH (X.out.below b2 X.out.lt);replace B:=qH (HTR.out _ _ B.out b2);clear b2 q0;have q1:w2.cell? ⟨m,13,none⟩=some (.string s.tt.f.nm):=(X.out.cell 13).trans HC1.out;have q2:w2.cell? ⟨m,19,none⟩=some (.string s.node):=(X.out.cell 19).trans HC2.out
 obtain⟨hb,hhb⟩:∃ q,q=(bits BinOp.and IntKind.i64 u 2==0):=⟨_,rfl⟩;have hbe:(bits BinOp.and IntKind.i64 u 2 != 0) = !hb:=by rw[hhb];rfl
 have HU:Hid (hasU u 1 = !hb):=qH (by rw[hhb];rfl);clear hhb;cases hb with
 | true=>
  obtain rfl:RV=s.node:=by rw[HRV.out,HU.out];rfl
  clear HRV;go_wp2_with fail;go_ret;exact⟨rfl,by rw[←HM.out];exact B.out⟩
 | false=>
  obtain rfl:RV=s.tt.f.nm:=by rw[HRV.out,HU.out];rfl
  clear HRV;go_wp2_with fail;go_ret;exact⟨rfl,by rw[←HM.out];exact B.out⟩
theorem ptr_eq0 (a:Addr) (W:World):(binOp .eql 86 (.pointer (some a)) (.pointer none)).run Tryz.prog W = .ok (.bool false) W:=by kernel_rfl
set_option maxHeartbeats 4000000 in
theorem send_down {w:World} {g mc mo ml:Nat} {nm:ByteArray} {gen:Int} {ck:ByteArray} {ch di:Nat} {C:List (ByteArray×Nat)} {O:List (ByteArray×Value)} {L:List (ByteArray×Int)} (h:PM w g mc mo ml nm gen ck ch di C O L) (S:Nat→Prop) (s:Sg) (x:Sf) (hx:SgAt S w s x) (hf:FitE s) (hv:validS s=true) (hs:srcS s=nm) (hu0:hasU (usesF s.k) 0=true) (hgn:s.fr.f.g=gen)
  (c:Nat) (hg:get C (tgtS s)=some c) (hc:w.cell? ⟨c,4,none⟩=some (.int .i64 0)) :
  Calls Tryz.prog 20 #[.pointer (some ⟨g,0,none⟩),sgV s x] w fun e w'=>e = .returned (.int .i64 9)∧Below w.heap.size w w':=by
 obtain⟨u,hu⟩:∃ u,u=usesF s.k:=⟨_,rfl⟩;have CU:=qH (fun(W:World)=>uses21 s.k W);rw[←hu] at CU hu0;obtain⟨CS,hCS⟩:∃ q,q=(sgC s x).toArray:=⟨_,rfl⟩;have HSV:Hid (sgV s x = .agg CS):=qH (by rw[hCS];rfl);have HSZ:Hid (CS.size=40):=qH (by rw[hCS];rfl);have HC0:Hid (CS[0]? = some (.int .i64 s.k)):=qH (by rw[hCS];rfl);have HC3:Hid (CS[3]? = some (.int .i64 gen)):=qH (by rw[hCS,←hgn,←hx.fr.its.1];rfl);have CV:=qH (fun(W:World) (hW:Below w.heap.size w W)=>pvalid19 S s x W (hx.below hW (fun b _ h=>h)) hf.fit)
 have CSR:=qH (fun(W:World) (hW:Below w.heap.size w W)=>srcS_any S s x W (hx.below hW (fun b _ h=>h)));have CTG:=qH (fun(W:World) (hW:Below w.heap.size w W)=>tgtS_any S s x W (hx.below hW (fun b _ h=>h)));rw[HSV.out] at CV CSR CTG ⊢;rw[hv] at CV;rw[hs] at CSR;obtain⟨TG,hTG⟩:∃ q,q=tgtS s:=⟨_,rfl⟩;rw[←hTG] at CTG hg;have HLK:=qH (show conV C TG = .pointer (some ⟨c,0,none⟩) by unfold conV;rw[hg];rfl)
 have hlc:=World.block_lt_of_cell? _ _ hc;dsimp only at hlc;have HLC:=qH hlc;have HC:=qH hc;have hb1:(bits BinOp.and IntKind.i64 u 1 != 0)=true:=by
  have:hasU u 0=(bits BinOp.and IntKind.i64 u 1 != 0):=rfl
  rw[←this];exact hu0
 have hnn:(nm.toList==nm.toList)=true:=beq_self_eq_true _;have c5:w.cell? ⟨g,5,none⟩=some (.map (some mc)):=h.blk.cell 5;have hlg:=h.blk.lt;clear hu hx hf hv hs hu0 hgn hCS hTG hg hc hlc;obtain⟨m,hm⟩:∃ q,q=w.heap.size:=⟨_,rfl⟩;have HM:=qH hm;have X:=qH (Blk.new w 50 CS);have B:=qH ((Below.refl w.heap.size w).alloc (Nat.le_refl _) (.cells CS 50));have H:=qH (h.below B.out);rw[←hm] at X B;have HTR:Hid (∀ W W',Below m w W→Below W.heap.size W W'→Below m w W'):=qH (fun W W' h1 h2=>h1.trans (h2.mono (by have:=h1.size;have:=HM.out;omega)))
 clear h;go_enter Tryz.func20,Tryz.ntmps20;go_upto_region 1 with fail
 rw[←hm];generalize w.alloc (.cells CS 50)=w1 at X B H ⊢;have e5:w1.cell? ⟨g,5,none⟩=some (.map (some mc)):=H.out.blk.cell 5;have CN:=qH (none_no g mc w1 e5);clear hm c5 e5;go_wp2_with fail;refine CN.out.mono ?_;rintro e w0 ⟨rfl,rfl⟩;clear CN;have q0:w0.cell? ⟨m,0,none⟩=some (.int .i64 s.k):=(X.out.cell 0).trans HC0.out;go_wp2_with fail;refine(CU.out _).mono ?_;rintro e w2 ⟨rfl,b2⟩;replace X:=qH (X.out.below b2 X.out.lt)
 replace B:=qH (HTR.out _ _ B.out b2);replace H:=qH (H.out.below b2);clear b2 q0 CU hlg;go_upto_region 4 with fail
 refine wp_region_held_drew (S:=(fun w'=>Blk w' m 50 CS∧Blk w' g 58 (pC nm gen ck ch di mc mo ml))) (by kernel_rfl) (⟨X.out.drew,H.out.blk.drew⟩) (fun hS=>?_);have X2:=qH X.out.drew;have B2:=qH B.out.drew;have H2:=qH (H.out.below (Below.refl w2.heap.size w2).drew);clear X B H;generalize w2.drew=wd at *;refine tl 0 20 (v:=?_) rfl ?_ ?_;rotate_left
 ·
  intro w hSw;refine exec_load_blk 50 (.tmp 3) ?_ m ?_ CS 50 _ hSw.1 Tryz.underlying50 rfl (by rw[HSZ.out];exact info26)
  all_goals rfl
 simp only[PU];refine wpAnyH_ready (rs:=[1]) (by kernel_rfl) (by simp) ?_;refine AllReadyH.cons rfl (fun K hK=>?_) AllReadyH.nil;go_simp;refine(CV.out wd (by rw[←HM.out];exact B2.out)).mono ?_;rintro e w3 ⟨rfl,b3⟩;replace X2:=qH (X2.out.below b3 X2.out.lt);replace B2:=qH (HTR.out _ _ B2.out b3);replace H2:=qH (H2.out.below b3);clear b3;go_wp2_with fail;refine hK.out _ _ (⟨X2.out,H2.out.blk⟩) (fun hS=>?_)
 clear hK K
 try simp only[PU]
 refine tl 2 22 (v:=?_) rfl ?_ ?_;rotate_left
 ·
  intro w hSw;go_simp
  with_reducible rfl
 simp only[PU];refine tl 3 23 (v:=?_) rfl ?_ ?_;rotate_left
 ·
  intro w hSw;go_simp
  with_reducible rfl
 simp only[PU];refine tl 4 24 (v:=?_) rfl ?_ ?_;rotate_left
 ·
  intro w hSw;refine exec_load_blk 50 (.tmp 3) ?_ m ?_ CS 50 _ hSw.1 Tryz.underlying50 rfl (by rw[HSZ.out];exact info26)
  all_goals rfl
 simp only[PU];refine tl 6 26 (v:=?_) rfl ?_ ?_;rotate_left
 ·
  intro w hSw;go_simp
  with_reducible rfl
 simp only[PU];refine tl 7 27 (v:=?_) rfl ?_ ?_;rotate_left
 ·
  intro w hSw;go_simp
  with_reducible rfl
 simp only[PU];refine tl 8 28 (v:=?_) rfl ?_ ?_;rotate_left
 ·
  intro w hSw;go_simp
  with_reducible rfl
 simp only[PU];refine tl 9 29 (v:=?_) rfl ?_ ?_;rotate_left
 ·
  intro w hSw;go_simp
  with_reducible rfl
 simp only[PU];refine tl 10 30 (v:=?_) rfl ?_ ?_;rotate_left
 ·
  intro w hSw;have a0:w.cell? ⟨g,0,none⟩=some (.string nm):=hSw.2.cell 0;go_simp
  with_reducible rfl
 simp only[PU];refine wpAnyH_ready (rs:=[5]) (by kernel_rfl) (by simp) ?_;refine AllReadyH.cons rfl (fun K hK=>?_) AllReadyH.nil;go_simp;refine(CSR.out w3 (by rw[←HM.out];exact B2.out)).mono ?_;rintro e w4 ⟨rfl,b4⟩;replace X2:=qH (X2.out.below b4 X2.out.lt);replace B2:=qH (HTR.out _ _ B2.out b4);replace H2:=qH (H2.out.below b4);clear b4;go_wp2_with fail;refine hK.out _ _ (⟨X2.out,H2.out.blk⟩) (fun hS=>?_)
 clear hK K
 try simp only[PU]
 refine tl 11 31 (v:=?_) rfl ?_ ?_;rotate_left
 ·
  intro w hSw;go_simp
  with_reducible rfl
 simp only[PU];refine tl 12 32 (v:=?_) rfl ?_ ?_;rotate_left
 ·
  intro w hSw;go_simp
  with_reducible rfl
 simp only[PU];refine tl 13 33 (v:=?_) rfl ?_ ?_;rotate_left
 ·
  intro w hSw;go_simp
  with_reducible rfl
 simp only[PU];refine tl 14 34 (v:=?_) rfl ?_ ?_;rotate_left
 ·
  intro w hSw;go_simp
  with_reducible rfl
 simp only[PU];refine tl 15 35 (v:=?_) rfl ?_ ?_;rotate_left
 ·
  intro w hSw;go_simp
  with_reducible rfl
 simp only[PU];refine tl 16 36 (v:=?_) rfl ?_ ?_;rotate_left
 ·
  intro w hSw;go_simp
  with_reducible rfl
 simp only[PU];refine tl 17 37 (v:=?_) rfl ?_ ?_;rotate_left
 ·
  intro w hSw;go_simp
  with_reducible rfl
 simp only[PU];refine tl 18 38 (v:=?_) rfl ?_ ?_;rotate_left
 ·
  intro w hSw;go_simp
  with_reducible rfl
 simp only[PU];refine tl 19 39 (v:=?_) rfl ?_ ?_;rotate_left
 ·
  intro w hSw;go_simp
  with_reducible rfl
 simp only[PU];refine tl 20 40 (v:=?_) rfl ?_ ?_;rotate_left
 ·
  intro w hSw;have a0:w.cell? ⟨m,3,none⟩=some (.int .i64 gen):=(hSw.1.cell 3).trans HC3.out;go_simp
  with_reducible rfl
 simp only[PU];refine tl 21 41 (v:=?_) rfl ?_ ?_;rotate_left
 ·
  intro w hSw;go_simp
  with_reducible rfl
 simp only[PU];refine tl 22 42 (v:=?_) rfl ?_ ?_;rotate_left
 ·
  intro w hSw;go_simp
  with_reducible rfl
 simp only[PU];refine tl 23 43 (v:=?_) rfl ?_ ?_;rotate_left
 ·
  intro w hSw;go_simp
  with_reducible rfl
 simp only[PU];refine tl 24 44 (v:=?_) rfl ?_ ?_;rotate_left
 ·
  intro w hSw;go_simp
  with_reducible rfl
 simp only[PU];refine tl 25 45 (v:=?_) rfl ?_ ?_;rotate_left
 ·
  intro w hSw;have a0:w.cell? ⟨g,1,none⟩=some (.int .i64 gen):=hSw.2.cell 1;go_simp
  with_reducible rfl
 simp only[PU];refine tl 26 46 (v:=?_) rfl ?_ ?_;rotate_left
 ·
  intro w hSw;go_simp
  with_reducible rfl
 simp only[PU];refine tl 27 47 (v:=?_) rfl ?_ ?_;rotate_left
 ·
  intro w hSw;go_simp
  with_reducible rfl
 simp only[PU];refine tl 28 48 (v:=?_) rfl ?_ ?_;rotate_left
 ·
  intro w hSw;go_simp
  with_reducible rfl
 simp only[PU];refine wpAnyH_done (by kernel_rfl) ?_ _;clear hS;go_upto_region 6 with fail
 refine wp_region_held_drew (S:=(fun w'=>Blk w' m 50 CS∧Blk w' g 58 (pC nm gen ck ch di mc mo ml)∧MapAt w' mc strK ptrV C)) (by kernel_rfl) (⟨X2.out.drew,H2.out.blk.drew,H2.out.cm⟩) (fun hS=>?_);have X:=qH X2.out.drew;have B:=qH B2.out.drew;have H:=qH (H2.out.below (Below.refl w4.heap.size w4).drew);clear X2 B2 H2;generalize w4.drew=wd at *;refine tl 0 49 (v:=?_) rfl ?_ ?_;rotate_left
 ·
  intro w hSw;go_simp
  with_reducible rfl
 simp only[PU];refine tl 1 50 (v:=?_) rfl ?_ ?_;rotate_left
 ·
  intro w hSw;go_simp
  with_reducible rfl
 simp only[PU];refine tl 2 51 (v:=?_) rfl ?_ ?_;rotate_left
 ·
  intro w hSw;go_simp
  with_reducible rfl
 simp only[PU];refine tl 3 52 (v:=?_) rfl ?_ ?_;rotate_left
 ·
  intro w hSw;have a0:w.cell? ⟨g,5,none⟩=some (.map (some mc)):=hSw.2.1.cell 5;go_simp
  with_reducible rfl
 simp only[PU];refine tl 4 53 (v:=?_) rfl ?_ ?_;rotate_left
 ·
  intro w hSw;refine exec_load_blk 50 (.tmp 3) ?_ m ?_ CS 50 _ hSw.1 Tryz.underlying50 rfl (by rw[HSZ.out];exact info26)
  all_goals rfl
 simp only[PU];refine wpAnyH_ready (rs:=[5]) (by kernel_rfl) (by simp) ?_;refine AllReadyH.cons rfl (fun K hK=>?_) AllReadyH.nil;go_simp;refine(CTG.out wd (by rw[←HM.out];exact B.out)).mono ?_;rintro e w5 ⟨rfl,b5⟩;replace X:=qH (X.out.below b5 X.out.lt);replace B:=qH (HTR.out _ _ B.out b5);replace H:=qH (H.out.below b5);clear b5;go_wp2_with fail;refine hK.out _ _ (⟨X.out,H.out.blk,H.out.cm⟩) (fun hS=>?_)
 clear hK K
 try simp only[PU]
 refine tl 6 55 (v:=?_) rfl ?_ ?_;rotate_left
 ·
  intro w hSw;have a0:=look_con hSw.2.2 TG;rw[HLK.out] at a0;go_simp
  with_reducible rfl
 simp only[PU];refine tl 7 6 (v:=?_) rfl ?_ ?_;rotate_left
 ·
  intro w hSw;go_simp
  with_reducible rfl
 simp only[PU];refine wpAnyH_done (by kernel_rfl) ?_ _;clear hS;have XC5:Hid (w5.cell? ⟨c,4,none⟩=some (.int .i64 0)):=qH ((B.out.cell (p:=⟨c,4,none⟩) (by have:=HM.out;have:=HLC.out;show c<m;omega)).trans HC.out);clear H X hb1 hnn;go_upto_region 7 with fail
 refine wp_region_held_drew (S:=(fun w'=>w'.cell? ⟨c,4,none⟩=some (.int .i64 0))) (by kernel_rfl) (XC5.out) (fun hS=>?_);replace B:=qH B.out.drew;generalize w5.drew=wd at *;refine tl 0 56 (v:=?_) rfl ?_ ?_;rotate_left
 ·
  intro w hSw;go_simp
  with_reducible rfl
 simp only[PU];refine tl 1 57 (v:=?_) rfl ?_ ?_;rotate_left
 ·
  intro w hSw;have a0:=ptr_eq0 ⟨c,0,none⟩;go_simp
  with_reducible rfl
 simp only[PU];refine tl 2 58 (v:=?_) rfl ?_ ?_;rotate_left
 ·
  intro w hSw;go_simp
  with_reducible rfl
 simp only[PU];refine tl 3 59 (v:=?_) rfl ?_ ?_;rotate_left
 ·
  intro w hSw;go_simp
  with_reducible rfl
 simp only[PU];refine tl 4 60 (v:=?_) rfl ?_ ?_;rotate_left
 ·
  intro w hSw;go_simp
  with_reducible rfl
 simp only[PU];refine tl 5 61 (v:=?_) rfl ?_ ?_;rotate_left
 ·
  intro w hSw;go_simp
  with_reducible rfl
 simp only[PU];refine tl 6 62 (v:=?_) rfl ?_ ?_;rotate_left
 ·
  intro w hSw;have a0:=hSw;go_simp
  with_reducible rfl
 simp only[PU];refine tl 7 63 (v:=?_) rfl ?_ ?_;rotate_left
 ·
  intro w hSw;go_simp
  with_reducible rfl
 simp only[PU];refine tl 8 64 (v:=?_) rfl ?_ ?_;rotate_left
 ·
  intro w hSw;go_simp
  with_reducible rfl
 simp only[PU];refine tl 9 65 (v:=?_) rfl ?_ ?_;rotate_left
 ·
  intro w hSw;go_simp
  with_reducible rfl
 simp only[PU];refine tks (i:=10) rfl (by rfl) (by assumption) ?_;change wpAnyH _ _ _ _ _ _ _ (Act.put _ (some 66) _) _;simp only[PU];refine tks (i:=11) rfl (by rfl) (by assumption) ?_;change wpAnyH _ _ _ _ _ _ _ (Act.put _ (some 67) _) _;simp only[PU];refine tks (i:=12) rfl (by rfl) (by assumption) ?_;change wpAnyH _ _ _ _ _ _ _ (Act.put _ (some 68) _) _;simp only[PU];refine tks (i:=13) rfl (by rfl) (by assumption) ?_
 change wpAnyH _ _ _ _ _ _ _ (Act.put _ (some 69) _) _;simp only[PU];refine tks (i:=14) rfl (by rfl) (by assumption) ?_;change wpAnyH _ _ _ _ _ _ _ (Act.put _ (some 70) _) _;simp only[PU];refine tks (i:=15) rfl (by rfl) (by assumption) ?_;change wpAnyH _ _ _ _ _ _ _ (Act.put _ (some 71) _) _;simp only[PU];refine tks (i:=16) rfl (by rfl) (by assumption) ?_;change wpAnyH _ _ _ _ _ _ _ (Act.put _ (some 72) _) _
 simp only[PU];refine tks (i:=17) rfl (by rfl) (by assumption) ?_;change wpAnyH _ _ _ _ _ _ _ (Act.put _ (some 73) _) _;simp only[PU];refine tks (i:=18) rfl (by rfl) (by assumption) ?_;change wpAnyH _ _ _ _ _ _ _ (Act.put _ (some 74) _) _;simp only[PU];refine tks (i:=19) rfl (by rfl) (by assumption) ?_;change wpAnyH _ _ _ _ _ _ _ (Act.put _ (some 75) _) _;simp only[PU];refine tks (i:=20) rfl (by rfl) (by assumption) ?_
 change wpAnyH _ _ _ _ _ _ _ (Act.put _ (some 76) _) _;simp only[PU];refine tks (i:=21) rfl (by rfl) (by assumption) ?_;change wpAnyH _ _ _ _ _ _ _ (Act.put _ (some 77) _) _;simp only[PU];refine tks (i:=22) rfl (by rfl) (by assumption) ?_;change wpAnyH _ _ _ _ _ _ _ (Act.put _ (some 78) _) _;simp only[PU];refine tl 23 79 (v:=?_) rfl ?_ ?_;rotate_left
 ·
  intro w hSw;go_simp
  with_reducible rfl
 simp only[PU];refine wpAnyH_done (by kernel_rfl) ?_ _;clear hS;go_wp2_with fail;go_ret;exact⟨rfl,by rw[←HM.out];exact B.out⟩
end Go.Proofs.YtoaimoemaoinhaaGreatDoor
namespace Go.Proofs.YtoaimoemaoinhaaGreatDoor
open Go.RowKit Go.Rt Go.Rw
def sigEq (s t:Sg):Bool:=decide (s.k=t.k)&&(eqT s.fr t.fr&&(eqT s.tt t.tt&&(decide (s.node=t.node)&&(decide (s.name=t.name)&&(eqT s.ref t.ref&&(decide (s.num=t.num)&&eqT s.val t.val))))))
theorem sigEq_iff (s t:Sg):sigEq s t=true↔s=t:=by
 unfold sigEq;obtain⟨k,a,b,c,d,e,f,g⟩:=s;obtain⟨k2,a2,b2,c2,d2,e2,f2,g2⟩:=t;simp only[Bool.and_eq_true,decide_eq_true_eq,eqT_iff,Sg.mk.injEq]
set_option maxHeartbeats 8000000 in
theorem same12 (S S2:Nat→Prop) (s t:Sg) (x y:Sf) (w:World) (h:SgAt S w s x) (h2:SgAt S2 w t y):Calls Tryz.prog 29 #[sgV s x,sgV t y] w fun e w'=>e = .returned (.bool (sigEq s t))∧Below w.heap.size w w':=by
 obtain⟨k,fr,tt,node,name,ref,num,val⟩:=s;obtain⟨⟨fa,va⟩,⟨fb,vb⟩,⟨fc,vc⟩,⟨fd,vd⟩⟩:=x;obtain⟨_,sa,ca,ea⟩:=h.fr.its.2.form;obtain⟨_,sb,cb,eb⟩:=h.tt.its.2.form;obtain⟨_,sc,cc,ec⟩:=h.ref.its.2.form;obtain⟨_,sd,cd,ed⟩:=h.val.its.2.form;dsimp only at ea eb ec ed;obtain⟨na,hna⟩:∃ q,q=fr.l.length:=⟨_,rfl⟩;rw[←hna] at ea;clear hna;obtain⟨nb,hnb⟩:∃ q,q=tt.l.length:=⟨_,rfl⟩;rw[←hnb] at eb;clear hnb;obtain⟨nc,hnc⟩:∃ q,q=ref.l.length:=⟨_,rfl⟩
 rw[←hnc] at ec;clear hnc;obtain⟨nd,hnd⟩:∃ q,q=val.l.length:=⟨_,rfl⟩;rw[←hnd] at ed;clear hnd;subst ea eb ec ed;obtain⟨k',fr',tt',node',name',ref',num',val'⟩:=t;obtain⟨⟨fa',va'⟩,⟨fb',vb'⟩,⟨fc',vc'⟩,⟨fd',vd'⟩⟩:=y;obtain⟨_,sa',ca',ea'⟩:=h2.fr.its.2.form;obtain⟨_,sb',cb',eb'⟩:=h2.tt.its.2.form;obtain⟨_,sc',cc',ec'⟩:=h2.ref.its.2.form;obtain⟨_,sd',cd',ed'⟩:=h2.val.its.2.form;dsimp only at ea' eb' ec' ed'
 obtain⟨na',hna'⟩:∃ q,q=fr'.l.length:=⟨_,rfl⟩;rw[←hna'] at ea';clear hna';obtain⟨nb',hnb'⟩:∃ q,q=tt'.l.length:=⟨_,rfl⟩;rw[←hnb'] at eb';clear hnb';obtain⟨nc',hnc'⟩:∃ q,q=ref'.l.length:=⟨_,rfl⟩;rw[←hnc'] at ec';clear hnc';obtain⟨nd',hnd'⟩:∃ q,q=val'.l.length:=⟨_,rfl⟩;rw[←hnd'] at ed';clear hnd';subst ea' eb' ec' ed';simp only[sgV,sgC,ftC,List.cons_append,List.nil_append];have W2:=qH (((Below.refl w.heap.size w).alloc (Nat.le_refl _) (.cells #[.int .i64 k,.int .i64 fa.k,.int .i64 fa.n,.int .i64 fa.g,.string fa.nm,.string fa.fn,.int .i64 fa.ar,.slice sa na ca,.string fa.bs,.int .i64 fa.bt,.int .i64 fb.k,.int .i64 fb.n,.int .i64 fb.g,.string fb.nm,.string fb.fn,.int .i64 fb.ar,.slice sb nb cb,.string fb.bs,.int .i64 fb.bt,.string node,.string name,.int .i64 fc.k,.int .i64 fc.n,.int .i64 fc.g,.string fc.nm,.string fc.fn,.int .i64 fc.ar,.slice sc nc cc,.string fc.bs,.int .i64 fc.bt,.int .i64 num,.int .i64 fd.k,.int .i64 fd.n,.int .i64 fd.g,.string fd.nm,.string fd.fn,.int .i64 fd.ar,.slice sd nd cd,.string fd.bs,.int .i64 fd.bt] 50)).alloc (by simp) (.cells #[.int .i64 k',.int .i64 fa'.k,.int .i64 fa'.n,.int .i64 fa'.g,.string fa'.nm,.string fa'.fn,.int .i64 fa'.ar,.slice sa' na' ca',.string fa'.bs,.int .i64 fa'.bt,.int .i64 fb'.k,.int .i64 fb'.n,.int .i64 fb'.g,.string fb'.nm,.string fb'.fn,.int .i64 fb'.ar,.slice sb' nb' cb',.string fb'.bs,.int .i64 fb'.bt,.string node',.string name',.int .i64 fc'.k,.int .i64 fc'.n,.int .i64 fc'.g,.string fc'.nm,.string fc'.fn,.int .i64 fc'.ar,.slice sc' nc' cc',.string fc'.bs,.int .i64 fc'.bt,.int .i64 num',.int .i64 fd'.k,.int .i64 fd'.n,.int .i64 fd'.g,.string fd'.nm,.string fd'.fn,.int .i64 fd'.ar,.slice sd' nd' cd',.string fd'.bs,.int .i64 fd'.bt] 50))
 have X:=qH ((Blk.new w 50 #[.int .i64 k,.int .i64 fa.k,.int .i64 fa.n,.int .i64 fa.g,.string fa.nm,.string fa.fn,.int .i64 fa.ar,.slice sa na ca,.string fa.bs,.int .i64 fa.bt,.int .i64 fb.k,.int .i64 fb.n,.int .i64 fb.g,.string fb.nm,.string fb.fn,.int .i64 fb.ar,.slice sb nb cb,.string fb.bs,.int .i64 fb.bt,.string node,.string name,.int .i64 fc.k,.int .i64 fc.n,.int .i64 fc.g,.string fc.nm,.string fc.fn,.int .i64 fc.ar,.slice sc nc cc,.string fc.bs,.int .i64 fc.bt,.int .i64 num,.int .i64 fd.k,.int .i64 fd.n,.int .i64 fd.g,.string fd.nm,.string fd.fn,.int .i64 fd.ar,.slice sd nd cd,.string fd.bs,.int .i64 fd.bt]).alloc (.cells #[.int .i64 k',.int .i64 fa'.k,.int .i64 fa'.n,.int .i64 fa'.g,.string fa'.nm,.string fa'.fn,.int .i64 fa'.ar,.slice sa' na' ca',.string fa'.bs,.int .i64 fa'.bt,.int .i64 fb'.k,.int .i64 fb'.n,.int .i64 fb'.g,.string fb'.nm,.string fb'.fn,.int .i64 fb'.ar,.slice sb' nb' cb',.string fb'.bs,.int .i64 fb'.bt,.string node',.string name',.int .i64 fc'.k,.int .i64 fc'.n,.int .i64 fc'.g,.string fc'.nm,.string fc'.fn,.int .i64 fc'.ar,.slice sc' nc' cc',.string fc'.bs,.int .i64 fc'.bt,.int .i64 num',.int .i64 fd'.k,.int .i64 fd'.n,.int .i64 fd'.g,.string fd'.nm,.string fd'.fn,.int .i64 fd'.ar,.slice sd' nd' cd',.string fd'.bs,.int .i64 fd'.bt] 50))
 have Y:=qH (Blk.new (w.alloc (.cells #[.int .i64 k,.int .i64 fa.k,.int .i64 fa.n,.int .i64 fa.g,.string fa.nm,.string fa.fn,.int .i64 fa.ar,.slice sa na ca,.string fa.bs,.int .i64 fa.bt,.int .i64 fb.k,.int .i64 fb.n,.int .i64 fb.g,.string fb.nm,.string fb.fn,.int .i64 fb.ar,.slice sb nb cb,.string fb.bs,.int .i64 fb.bt,.string node,.string name,.int .i64 fc.k,.int .i64 fc.n,.int .i64 fc.g,.string fc.nm,.string fc.fn,.int .i64 fc.ar,.slice sc nc cc,.string fc.bs,.int .i64 fc.bt,.int .i64 num,.int .i64 fd.k,.int .i64 fd.n,.int .i64 fd.g,.string fd.nm,.string fd.fn,.int .i64 fd.ar,.slice sd nd cd,.string fd.bs,.int .i64 fd.bt] 50)) 50 #[.int .i64 k',.int .i64 fa'.k,.int .i64 fa'.n,.int .i64 fa'.g,.string fa'.nm,.string fa'.fn,.int .i64 fa'.ar,.slice sa' na' ca',.string fa'.bs,.int .i64 fa'.bt,.int .i64 fb'.k,.int .i64 fb'.n,.int .i64 fb'.g,.string fb'.nm,.string fb'.fn,.int .i64 fb'.ar,.slice sb' nb' cb',.string fb'.bs,.int .i64 fb'.bt,.string node',.string name',.int .i64 fc'.k,.int .i64 fc'.n,.int .i64 fc'.g,.string fc'.nm,.string fc'.fn,.int .i64 fc'.ar,.slice sc' nc' cc',.string fc'.bs,.int .i64 fc'.bt,.int .i64 num',.int .i64 fd'.k,.int .i64 fd'.n,.int .i64 fd'.g,.string fd'.nm,.string fd'.fn,.int .i64 fd'.ar,.slice sd' nd' cd',.string fd'.bs,.int .i64 fd'.bt])
 rw[World.size_alloc] at Y;have H1:=qH (h.below W2.out (fun b _ h=>h));have H2:=qH (h2.below W2.out (fun b _ h=>h));obtain⟨R,hR⟩:∃ q,q=sigEq ⟨k,fr,tt,node,name,ref,num,val⟩ ⟨k',fr',tt',node',name',ref',num',val'⟩:=⟨_,rfl⟩;rw[←hR];unfold sigEq at hR;dsimp only at hR;clear h h2;have HRR:=qH hR;clear hR;go_enter Tryz.func29,Tryz.ntmps29;go_upto_region 1 with fail
 generalize ((w.alloc (.cells #[.int .i64 k,.int .i64 fa.k,.int .i64 fa.n,.int .i64 fa.g,.string fa.nm,.string fa.fn,.int .i64 fa.ar,.slice sa na ca,.string fa.bs,.int .i64 fa.bt,.int .i64 fb.k,.int .i64 fb.n,.int .i64 fb.g,.string fb.nm,.string fb.fn,.int .i64 fb.ar,.slice sb nb cb,.string fb.bs,.int .i64 fb.bt,.string node,.string name,.int .i64 fc.k,.int .i64 fc.n,.int .i64 fc.g,.string fc.nm,.string fc.fn,.int .i64 fc.ar,.slice sc nc cc,.string fc.bs,.int .i64 fc.bt,.int .i64 num,.int .i64 fd.k,.int .i64 fd.n,.int .i64 fd.g,.string fd.nm,.string fd.fn,.int .i64 fd.ar,.slice sd nd cd,.string fd.bs,.int .i64 fd.bt] 50)).alloc (.cells #[.int .i64 k',.int .i64 fa'.k,.int .i64 fa'.n,.int .i64 fa'.g,.string fa'.nm,.string fa'.fn,.int .i64 fa'.ar,.slice sa' na' ca',.string fa'.bs,.int .i64 fa'.bt,.int .i64 fb'.k,.int .i64 fb'.n,.int .i64 fb'.g,.string fb'.nm,.string fb'.fn,.int .i64 fb'.ar,.slice sb' nb' cb',.string fb'.bs,.int .i64 fb'.bt,.string node',.string name',.int .i64 fc'.k,.int .i64 fc'.n,.int .i64 fc'.g,.string fc'.nm,.string fc'.fn,.int .i64 fc'.ar,.slice sc' nc' cc',.string fc'.bs,.int .i64 fc'.bt,.int .i64 num',.int .i64 fd'.k,.int .i64 fd'.n,.int .i64 fd'.g,.string fd'.nm,.string fd'.fn,.int .i64 fd'.ar,.slice sd' nd' cd',.string fd'.bs,.int .i64 fd'.bt] 50))=w1 at X Y W2 H1 H2 ⊢
 obtain⟨m,hm⟩:∃ q,q=w.heap.size:=⟨_,rfl⟩;rw[←hm] at X Y ⊢;have HM:=qH hm;clear hm;have p0:=X.out.cell 0;simp only[List.getElem?_toArray,List.getElem?_cons_zero] at p0;have r0:=Y.out.cell 0;simp only[List.getElem?_toArray,List.getElem?_cons_zero] at r0
 by_cases q0:k=k'
 ·
  subst q0;have a0:=X.out.cell 1;have a1:=X.out.cell 2;have a2:=X.out.cell 3;have a3:=X.out.cell 4;have a4:=X.out.cell 5;have a5:=X.out.cell 6;have a6:=X.out.cell 7;have a7:=X.out.cell 8;have a8:=X.out.cell 9;simp only[List.getElem?_toArray,List.getElem?_cons_zero,List.getElem?_cons_succ] at a0 a1 a2 a3 a4 a5 a6 a7 a8;have b0:=Y.out.cell 1;have b1:=Y.out.cell 2;have b2:=Y.out.cell 3;have b3:=Y.out.cell 4
  have b4:=Y.out.cell 5;have b5:=Y.out.cell 6;have b6:=Y.out.cell 7;have b7:=Y.out.cell 8;have b8:=Y.out.cell 9;simp only[List.getElem?_toArray,List.getElem?_cons_zero,List.getElem?_cons_succ] at b0 b1 b2 b3 b4 b5 b6 b7 b8;have CC:=qH (same_any fr fr' S S2 _ _ w1 H1.out.fr H2.out.fr);obtain⟨g,hg⟩:∃ q,q=eqT fr fr':=⟨_,rfl⟩;rw[←hg] at CC;have HG1:=qH hg;clear hg;unfold ftV at CC;dsimp only at CC;go_wp2_with fail
  refine CC.out.mono ?_;rintro e w2 ⟨rfl,bb⟩;clear a0 a1 a2 a3 a4 a5 a6 a7 a8 b0 b1 b2 b3 b4 b5 b6 b7 b8 p0 r0 CC;replace X:=qH (X.out.below bb X.out.lt);replace Y:=qH (Y.out.below bb Y.out.lt);replace H1:=qH (H1.out.below bb (fun b _ h=>h));replace H2:=qH (H2.out.below bb (fun b _ h=>h));replace W2:=qH (W2.out.trans (bb.mono W2.out.size));clear bb;cases g with
  | false=>
   obtain rfl:R=false:=by rw[HRR.out,←HG1.out];simp
   go_wp2_with fail;go_ret;exact⟨rfl,W2.out⟩
  | true=>
   have a0:=X.out.cell 10;have a1:=X.out.cell 11;have a2:=X.out.cell 12;have a3:=X.out.cell 13;have a4:=X.out.cell 14;have a5:=X.out.cell 15;have a6:=X.out.cell 16;have a7:=X.out.cell 17;have a8:=X.out.cell 18;simp only[List.getElem?_toArray,List.getElem?_cons_zero,List.getElem?_cons_succ] at a0 a1 a2 a3 a4 a5 a6 a7 a8;have b0:=Y.out.cell 10;have b1:=Y.out.cell 11;have b2:=Y.out.cell 12;have b3:=Y.out.cell 13
   have b4:=Y.out.cell 14;have b5:=Y.out.cell 15;have b6:=Y.out.cell 16;have b7:=Y.out.cell 17;have b8:=Y.out.cell 18;simp only[List.getElem?_toArray,List.getElem?_cons_zero,List.getElem?_cons_succ] at b0 b1 b2 b3 b4 b5 b6 b7 b8;have CC:=qH (same_any tt tt' S S2 _ _ w2 H1.out.tt H2.out.tt);obtain⟨g,hg⟩:∃ q,q=eqT tt tt':=⟨_,rfl⟩;rw[←hg] at CC;have HG2:=qH hg;clear hg;unfold ftV at CC;dsimp only at CC
   go_wp2_with fail;refine CC.out.mono ?_;rintro e w3 ⟨rfl,bb⟩;clear a0 a1 a2 a3 a4 a5 a6 a7 a8 b0 b1 b2 b3 b4 b5 b6 b7 b8 CC;replace X:=qH (X.out.below bb X.out.lt);replace Y:=qH (Y.out.below bb Y.out.lt);replace H1:=qH (H1.out.below bb (fun b _ h=>h));replace H2:=qH (H2.out.below bb (fun b _ h=>h));replace W2:=qH (W2.out.trans (bb.mono W2.out.size));clear bb;cases g with
   | false=>
    obtain rfl:R=false:=by rw[HRR.out,←HG2.out];simp
    go_wp2_with fail;go_ret;exact⟨rfl,W2.out⟩
   | true=>
    have p3:=X.out.cell 19;simp only[List.getElem?_toArray,List.getElem?_cons_zero,List.getElem?_cons_succ] at p3;have r3:=Y.out.cell 19;simp only[List.getElem?_toArray,List.getElem?_cons_zero,List.getElem?_cons_succ] at r3
    by_cases q3:node=node'
    ·
     subst q3;have p4:=X.out.cell 20;simp only[List.getElem?_toArray,List.getElem?_cons_zero,List.getElem?_cons_succ] at p4;have r4:=Y.out.cell 20;simp only[List.getElem?_toArray,List.getElem?_cons_zero,List.getElem?_cons_succ] at r4
     by_cases q4:name=name'
     ·
      subst q4;have a0:=X.out.cell 21;have a1:=X.out.cell 22;have a2:=X.out.cell 23;have a3:=X.out.cell 24;have a4:=X.out.cell 25;have a5:=X.out.cell 26;have a6:=X.out.cell 27;have a7:=X.out.cell 28;have a8:=X.out.cell 29;simp only[List.getElem?_toArray,List.getElem?_cons_zero,List.getElem?_cons_succ] at a0 a1 a2 a3 a4 a5 a6 a7 a8;have b0:=Y.out.cell 21;have b1:=Y.out.cell 22;have b2:=Y.out.cell 23
      have b3:=Y.out.cell 24;have b4:=Y.out.cell 25;have b5:=Y.out.cell 26;have b6:=Y.out.cell 27;have b7:=Y.out.cell 28;have b8:=Y.out.cell 29;simp only[List.getElem?_toArray,List.getElem?_cons_zero,List.getElem?_cons_succ] at b0 b1 b2 b3 b4 b5 b6 b7 b8;have CC:=qH (same_any ref ref' S S2 _ _ w3 H1.out.ref H2.out.ref);obtain⟨g,hg⟩:∃ q,q=eqT ref ref':=⟨_,rfl⟩;rw[←hg] at CC;have HG5:=qH hg;clear hg
      unfold ftV at CC;dsimp only at CC;go_wp2_with fail;refine CC.out.mono ?_;rintro e w4 ⟨rfl,bb⟩;clear a0 a1 a2 a3 a4 a5 a6 a7 a8 b0 b1 b2 b3 b4 b5 b6 b7 b8 p3 r3 p4 r4 CC;replace X:=qH (X.out.below bb X.out.lt);replace Y:=qH (Y.out.below bb Y.out.lt);replace H1:=qH (H1.out.below bb (fun b _ h=>h));replace H2:=qH (H2.out.below bb (fun b _ h=>h));replace W2:=qH (W2.out.trans (bb.mono W2.out.size))
      clear bb;cases g with
      | false=>
       obtain rfl:R=false:=by rw[HRR.out,←HG5.out];simp
       go_wp2_with fail;go_ret;exact⟨rfl,W2.out⟩
      | true=>
       have p6:=X.out.cell 30;simp only[List.getElem?_toArray,List.getElem?_cons_zero,List.getElem?_cons_succ] at p6;have r6:=Y.out.cell 30;simp only[List.getElem?_toArray,List.getElem?_cons_zero,List.getElem?_cons_succ] at r6
       by_cases q6:num=num'
       ·
        subst q6;have a0:=X.out.cell 31;have a1:=X.out.cell 32;have a2:=X.out.cell 33;have a3:=X.out.cell 34;have a4:=X.out.cell 35;have a5:=X.out.cell 36;have a6:=X.out.cell 37;have a7:=X.out.cell 38;have a8:=X.out.cell 39;simp only[List.getElem?_toArray,List.getElem?_cons_zero,List.getElem?_cons_succ] at a0 a1 a2 a3 a4 a5 a6 a7 a8;have b0:=Y.out.cell 31;have b1:=Y.out.cell 32;have b2:=Y.out.cell 33
        have b3:=Y.out.cell 34;have b4:=Y.out.cell 35;have b5:=Y.out.cell 36;have b6:=Y.out.cell 37;have b7:=Y.out.cell 38;have b8:=Y.out.cell 39;simp only[List.getElem?_toArray,List.getElem?_cons_zero,List.getElem?_cons_succ] at b0 b1 b2 b3 b4 b5 b6 b7 b8;have CC:=qH (same_any val val' S S2 _ _ w4 H1.out.val H2.out.val);obtain⟨g,hg⟩:∃ q,q=eqT val val':=⟨_,rfl⟩;rw[←hg] at CC;have HG7:=qH hg;clear hg
        unfold ftV at CC;dsimp only at CC;go_wp2_with fail;refine CC.out.mono ?_;rintro e w5 ⟨rfl,bb⟩;clear a0 a1 a2 a3 a4 a5 a6 a7 a8 b0 b1 b2 b3 b4 b5 b6 b7 b8 p6 r6 CC;replace X:=qH (X.out.below bb X.out.lt);replace Y:=qH (Y.out.below bb Y.out.lt);replace H1:=qH (H1.out.below bb (fun b _ h=>h));replace H2:=qH (H2.out.below bb (fun b _ h=>h));replace W2:=qH (W2.out.trans (bb.mono W2.out.size));clear bb
        cases g with
        | false=>
         obtain rfl:R=false:=by rw[HRR.out,←HG7.out];simp
         go_wp2_with fail;go_ret;exact⟨rfl,W2.out⟩
        | true=>
         obtain rfl:R=true:=by rw[HRR.out,←HG1.out,←HG2.out,←HG5.out,←HG7.out];simp
         go_wp2_with fail;go_ret;exact⟨rfl,W2.out⟩
       ·
        have d6:(num==num')=false:=by simpa using q6
        obtain rfl:R=false:=by rw[HRR.out];simp[q6]
        clear q6 HRR;go_wp2_with fail;go_ret;exact⟨rfl,W2.out⟩
     ·
      have d4:(name.toList==name'.toList)=false:=by rw[beq_eq_false_iff_ne];exact fun h=>q4 (bytes_ext h)
      obtain rfl:R=false:=by rw[HRR.out];simp[q4]
      clear q4 HRR;go_wp2_with fail;go_ret;exact⟨rfl,W2.out⟩
    ·
     have d3:(node.toList==node'.toList)=false:=by rw[beq_eq_false_iff_ne];exact fun h=>q3 (bytes_ext h)
     obtain rfl:R=false:=by rw[HRR.out];simp[q3]
     clear q3 HRR;go_wp2_with fail;go_ret;exact⟨rfl,W2.out⟩
 ·
  have d0:(k==k')=false:=by simpa using q0
  obtain rfl:R=false:=by rw[HRR.out];simp[q0]
  clear q0 HRR;go_wp2_with fail;go_ret;exact⟨rfl,W2.out⟩
def pidT (s:ByteArray) (n:Int):Tm:=.mk ⟨6,n,1,s,noB,0,noB,0⟩ []
def pidX (s:ByteArray) (n:Int):Ft:=⟨⟨6,n,1,s,noB,0,noB,0⟩,.slice none 0 0⟩
theorem pid_at (S:Nat→Prop) (w:World) (s:ByteArray) (n:Int):TmAt S w (pidT s n) (pidX s n):=TmAt.of rfl (ItsAt.nil none 0)
def linkS (a b:ByteArray):Sg:=⟨3,pidT a 1,pidT b 1,noB,noB,zerT,0,zerT⟩
def linkX (a b:ByteArray):Sf:=⟨pidX a 1,pidX b 1,zerX,zerX⟩
theorem link_at (S:Nat→Prop) (w:World) (a b:ByteArray):SgAt S w (linkS a b) (linkX a b):=⟨pid_at S w a 1,pid_at S w b 1,zer_at S w,zer_at S w⟩
set_option maxHeartbeats 8000000 in
theorem pid31 (s:ByteArray) (n:Int) (w:World):Calls Tryz.prog 35 #[.string s,.int .i64 n] w fun e w'=>e = .returned (ftV (pidX s n))∧Below w.heap.size w w':=by
 obtain⟨m,hm⟩:∃ q,q=w.heap.size:=⟨_,rfl⟩;have HM:=qH hm;have R:=qH (Blk.new w 48 zT);have O0:=qH (Only.alloc [m] w (.cells zT 48));rw[←hm] at R;go_enter Tryz.func35,Tryz.ntmps35;go_upto_region 1 with fail
 rw[←hm];generalize w.alloc (.cells zT 48)=w1 at R O0 ⊢;go_wp2_with (refine wpList_store_blk rfl 48 _ _ rfl rfl m #[.int .i64 6,.int .i64 n,.int .i64 1,.string s,.string ⟨#[]⟩,.int .i64 0,.slice none 0 0,.string ⟨#[]⟩,.int .i64 0] _ 48 rfl rfl R.out rfl info25 (by simp[Value.oneCell']) ?_;intro vz bz oz);exact bodyPost_ret (results_blk (a:=4) rfl _ _ m _ _ rfl bz Tryz.underlying48 rfl info25) rfl ⟨rfl,(O0.out.trans oz).below (by simp;have:=HM.out;omega) (by have:=HM.out;omega)⟩
set_option maxHeartbeats 8000000 in
theorem link13 (a b:ByteArray) (w:World):Calls Tryz.prog 26 #[.string a,.string b] w fun e w'=>e = .returned (sgV (linkS a b) (linkX a b))∧Below w.heap.size w w':=by
 obtain⟨m,hm⟩:∃ q,q=w.heap.size:=⟨_,rfl⟩;have HM:=qH hm;have R:=qH (Blk.new w 50 zG);have B:=qH ((Below.refl w.heap.size w).alloc (Nat.le_refl _) (.cells zG 50));rw[←hm] at R B;have HTR:Hid (∀ W W',Below m w W→Below W.heap.size W W'→Below m w W'):=qH (fun W W' h1 h2=>h1.trans (h2.mono (by have:=h1.size;have:=HM.out;omega)));have CA:=qH (fun(W:World)=>pid31 a 1 W);have CB:=qH (fun(W:World)=>pid31 b 1 W)
 unfold ftV pidX at CA CB;dsimp only[noB] at CA CB;go_enter Tryz.func26,Tryz.ntmps26;go_upto_region 1 with fail
 rw[←hm];generalize w.alloc (.cells zG 50)=w1 at R B ⊢;clear hm;go_wp2_with fail;refine(CA.out w1).mono ?_;rintro e w2 ⟨rfl,b2⟩;replace R:=qH (R.out.below b2 R.out.lt);replace B:=qH (HTR.out _ _ B.out b2);clear b2 CA;go_wp2_with fail;refine(CB.out w2).mono ?_;rintro e w3 ⟨rfl,b3⟩;replace R:=qH (R.out.below b3 R.out.lt);replace B:=qH (HTR.out _ _ B.out b3);clear b3 CB;go_wp2_with (refine wpList_store_blk rfl 50 _ _ rfl rfl m #[.int .i64 3,.int .i64 6,.int .i64 1,.int .i64 1,.string a,.string ⟨#[]⟩,.int .i64 0,.slice none 0 0,.string ⟨#[]⟩,.int .i64 0,.int .i64 6,.int .i64 1,.int .i64 1,.string b,.string ⟨#[]⟩,.int .i64 0,.slice none 0 0,.string ⟨#[]⟩,.int .i64 0,.string ⟨#[]⟩,.string ⟨#[]⟩,.int .i64 0,.int .i64 0,.int .i64 0,.string ⟨#[]⟩,.string ⟨#[]⟩,.int .i64 0,.slice none 0 0,.string ⟨#[]⟩,.int .i64 0,.int .i64 0,.int .i64 0,.int .i64 0,.int .i64 0,.string ⟨#[]⟩,.string ⟨#[]⟩,.int .i64 0,.slice none 0 0,.string ⟨#[]⟩,.int .i64 0] _ 50 rfl rfl R.out rfl info26 (by simp[Value.oneCell']) ?_;intro vz bz oz)
 exact bodyPost_ret (results_blk (a:=4) rfl _ _ m _ _ rfl bz Tryz.underlying50 rfl info26) rfl ⟨rfl,by rw[←HM.out];exact B.out.trans (oz.below (n:=m) (by simp) (by have:=B.out.size;have:=HM.out;omega))⟩
end Go.Proofs.YtoaimoemaoinhaaGreatDoor
namespace Go.Proofs.YtoaimoemaoinhaaGreatDoor
open Go.RowKit Go.Rt Go.Rw Go.Mp
def exA : ByteArray:=⟨#[97]⟩
def exB : ByteArray:=⟨#[98]⟩
def exL : ByteArray:=⟨#[3,88,119,1,97,0,0,0,1,0,0,0,0,0,0,0,1,88,119,1,98,0,0,0,1,0,0,0,0,0,0,0,1]⟩
theorem link_valid : validS (linkS exA exB)=true:=by decide +kernel
theorem link_enc : encB (linkS exA exB)=exL:=by
 have:(encB (linkS exA exB)).data=exL.data:=by decide +kernel
 exact ByteArray.ext this
theorem link_encE : encE (linkS exA exB)=0:=by decide +kernel
theorem pid_ok (s:ByteArray) (h:s.size≤200000):okT (pidT s 1):=by
 refine⟨?_,by unfold pidT;simp[cnt,cntL]⟩;unfold pidT;rw[fitT];refine⟨⟨⟨h,Nat.zero_le _,Nat.zero_le _⟩,?_,?_,?_,?_,?_⟩,trivial⟩
 all_goals
  dsimp only;omega
theorem link_fit : FitE (linkS exA exB):=⟨pid_ok _ (by decide),pid_ok _ (by decide),ok_zer,ok_zer,by decide,by decide,by decide⟩
theorem link_dec : decR exL=(linkS exA exB,0):=by
 unfold decR;rw[←link_enc,dec_enc link_valid link_fit]
theorem three_dec : decR ⟨#[3]⟩=(zeroSg,6):=by
 have:decS ⟨#[3]⟩=none:=by decide +kernel
 unfold decR;rw[this]
theorem link_src : srcS (linkS exA exB)=exA:=rfl
theorem link_tgt : tgtS (linkS exA exB)=exB:=rfl
theorem newOk_a : newOk exA 1=true:=by decide +kernel
theorem other_ab : (nameF exB && !(exB.toList==exA.toList))=true:=by decide +kernel
end Go.Proofs.YtoaimoemaoinhaaGreatDoor
namespace Go.Proofs.YtoaimoemaoinhaaGreatDoor
open Go.RowKit Go.Rt Go.Rw Go.Mp
theorem sl_one {w:World} {base:Nat} {v:Value} {s:ByteArray} (h:Sl w base 9 1 strC v [s]):∃ g cap,v = .slice (some ⟨g,0,none⟩) 1 cap:=by
 rcases h.form with ⟨_,h0⟩|⟨g,cap,rfl,_⟩
 ·
  cases h0
 ·
  exact⟨g,cap,rfl⟩
theorem out_put (b:ByteArray) (v:Value):outV (put [] b v) b=v:=by simp[outV,put,Mp.get]
theorem out_del (b:ByteArray) (v:Value):outV (del (put [] b v) b) b = .slice none 0 0:=by simp[outV,put,Mp.get,del]
theorem ptr_eq39 (a:Addr) (W:World):(binOp .eql 26 (.pointer (some a)) (.pointer none)).run Tryz.prog W = .ok (.bool false) W:=by kernel_rfl
theorem SgAt.old2s {S:Nat→Prop} {w:World} {s:Sg} {x:Sf} (h:SgAt S w s x):SgAt (fun b=>b<w.heap.size) w s x:=⟨h.fr.old2,h.tt.old2,h.ref.old2,h.val.old2⟩
set_option maxHeartbeats 8000000 in
theorem shown6 (w:World):Calls Tryz.prog 7 #[] w fun e w'=>e = .returned (.bool true)∧Below w.heap.size w w':=by
 have CL:Hid (∀ W,Calls Tryz.prog 26 #[.string ⟨#[97]⟩,.string ⟨#[98]⟩] W fun e w'=>e = .returned (sgV (linkS exA exB) (linkX exA exB))∧Below W.heap.size W w'):=qH (fun W=>link13 exA exB W);have CE:=qH (fun(W:World)=>pencode8 (fun _=>True) (linkS exA exB) (linkX exA exB) W (link_at _ _ _ _) link_fit (by decide +kernel));rw[link_enc,link_encE] at CE;obtain⟨LV,hLV⟩:∃ q,q=sgV (linkS exA exB) (linkX exA exB):=⟨_,rfl⟩
 have HLV:Hid (sgV (linkS exA exB) (linkX exA exB)=LV):=qH hLV.symm;rw[←hLV] at CL CE;clear hLV;have CD1:Hid (∀ W,Calls Tryz.prog 27 #[.string ⟨#[3,88,119,1,97,0,0,0,1,0,0,0,0,0,0,0,1,88,119,1,98,0,0,0,1,0,0,0,0,0,0,0,1]⟩] W (DecR (linkS exA exB,0) W)):=qH (fun W=>by
  have:=pdecode10 exL (by decide) W
  rw[link_dec] at this;exact this)
 have CD2:Hid (∀ W,Calls Tryz.prog 27 #[.string ⟨#[3]⟩] W (DecR (zeroSg,6) W)):=qH (fun W=>by
  have:=pdecode10 ⟨#[3]⟩ (by decide) W
  rw[three_dec] at this;exact this)
 have CNW:Hid (∀ W,Calls Tryz.prog 28 #[.string ⟨#[97]⟩,.int .i64 1,.string ⟨#[120]⟩,.int .u64 5] W fun e w'=>∃ g mc mo ml,e = .returned (.tuple #[.pointer (some ⟨g,0,none⟩),.int .i64 0])∧W.heap.size≤g∧W.heap.size≤mc∧W.heap.size≤mo∧W.heap.size≤ml∧PM w' g mc mo ml exA ((1:Nat):Int) ⟨#[120]⟩ 5 0 [] [] []∧Below W.heap.size W w'):=qH (fun W=>pnew_yes exA 1 ⟨#[120]⟩ 5 newOk_a W);have HTR:Hid (∀ W W',Below w.heap.size w W→Below W.heap.size W W'→Below w.heap.size w W'):=qH (fun W W' h1 h2=>h1.trans (h2.mono h1.size))
 unfold exL at CE;go_enter Tryz.func7,Tryz.ntmps7;go_wp2_with fail;refine(CL.out w).mono ?_;rintro e v1 ⟨rfl,b1⟩;have BB:=qH b1;clear b1;go_wp2_with fail;refine(CE.out v1).mono ?_;rintro e v2 ⟨rfl,b2⟩;replace BB:=qH (HTR.out _ _ BB.out b2);clear b2 CE;go_wp2_with fail;refine(CD1.out v2).mono ?_;rintro e v3 ⟨b3,x1,rfl,tx1⟩;replace BB:=qH (HTR.out _ _ BB.out b3);have TX1:=qH tx1.old2s;clear b3 tx1 CD1
 dsimp only;obtain⟨C1,hC1⟩:∃ q,q=(sgC (linkS exA exB) x1).toArray:=⟨_,rfl⟩;have HC1:Hid (sgV (linkS exA exB) x1 = .agg C1):=qH (by rw[hC1];rfl);have HZ1:Hid (C1.size=40):=qH (by rw[hC1];rfl);have HO1:=qH (sgC_one TX1.out);rw[←hC1] at HO1;rw[HC1.out];clear hC1;obtain⟨m1,hm1⟩:∃ q,q=v3.heap.size:=⟨_,rfl⟩;have HM1:=qH hm1;have X0:=qH (Blk.new v3 50 zG);have O0:=qH (Only.alloc [m1] v3 (.cells zG 50));rw[←hm1] at X0
 go_upto_region 3 with (rw[←hm1];refine wpList_store_blk rfl 50 _ _ rfl rfl m1 C1 _ 50 rfl rfl X0.out (by rw[HZ1.out];rfl) (by rw[HZ1.out];exact info26) HO1.out ?_;intro v4 b4 o4)
 have BV:=qH (show Below m1 v3 v4 from(O0.out.trans o4).below (by simp) (by rw[HM1.out];exact Nat.le_refl _));replace BB:=qH (HTR.out _ _ BB.out (by rw[←HM1.out];exact BV.out));replace TX1:=qH (TX1.out.below BV.out (fun b hb _=>by rw[HM1.out];exact hb));have X1:=qH b4;clear BV b4 o4 O0 X0 hm1;go_wp2_with fail;refine(CD2.out v4).mono ?_;rintro e v5 ⟨b5,x2,rfl,tx2⟩;replace BB:=qH (HTR.out _ _ BB.out b5)
 replace TX1:=qH (TX1.out.below b5 (fun b _ hb=>hb));replace X1:=qH (X1.out.below b5 X1.out.lt);have TX2:=qH tx2.old2s;clear b5 tx2 CD2;dsimp only;obtain⟨C2,hC2⟩:∃ q,q=(sgC zeroSg x2).toArray:=⟨_,rfl⟩;have HC2:Hid (sgV zeroSg x2 = .agg C2):=qH (by rw[hC2];rfl);have HZ2:Hid (C2.size=40):=qH (by rw[hC2];rfl);have HO2:=qH (sgC_one TX2.out);rw[←hC2] at HO2;rw[HC2.out];clear hC2 HC2 TX2;obtain⟨m2,hm2⟩:∃ q,q=v5.heap.size:=⟨_,rfl⟩
 have HM2:=qH hm2;have X0:=qH (Blk.new v5 50 zG);have O0:=qH (Only.alloc [m2] v5 (.cells zG 50));rw[←hm2] at X0;have hmm:m1<m2:=by rw[hm2];exact X1.out.lt
 go_upto_region 4 with (rw[←hm2];refine wpList_store_blk rfl 50 _ _ rfl rfl m2 C2 _ 50 rfl rfl X0.out (by rw[HZ2.out];rfl) (by rw[HZ2.out];exact info26) HO2.out ?_;intro v6 b6 o6)
 have BV:=qH (show Below m2 v5 v6 from(O0.out.trans o6).below (by simp) (by rw[HM2.out];exact Nat.le_refl _));replace BB:=qH (HTR.out _ _ BB.out (by rw[←HM2.out];exact BV.out));replace TX1:=qH (TX1.out.below BV.out (fun b _ hb=>by rw[HM2.out];exact hb));replace X1:=qH (X1.out.below BV.out hmm);clear BV b6 o6 O0 X0 hm2 HZ2 HO2;go_wp2_with fail;refine(CNW.out v6).mono ?_;rintro e v7 ⟨g,mc,mo,ml,rfl,g1,g2,g3,g4,h,b7⟩
 have H:=qH h;have GB:=qH (show w.heap.size≤g∧w.heap.size≤mc∧w.heap.size≤mo∧w.heap.size≤ml by have:=BB.out.size;omega);replace BB:=qH (HTR.out _ _ BB.out b7);replace TX1:=qH (TX1.out.below b7 (fun b _ hb=>hb));replace X1:=qH (X1.out.below b7 X1.out.lt);clear h b7 g1 g2 g3 g4 CNW;go_upto_region 5 with fail
 refine wp_region_held_drew (S:=(fun w'=>Blk w' m1 50 C1)) (by kernel_rfl) (X1.out.drew) (fun hS=>?_);replace BB:=qH BB.out.drew;replace TX1:=qH (TX1.out.below (Below.refl v7.heap.size v7).drew (fun b _ hb=>hb));replace X1:=qH X1.out.drew;replace H:=qH (H.out.below (Below.refl v7.heap.size v7).drew);generalize v7.drew=wd at *;refine tl 0 26 (v:=?_) rfl ?_ ?_;rotate_left
 ·
  intro w hSw;go_simp
  with_reducible rfl
 simp only[PU];refine tl 1 27 (v:=?_) rfl ?_ ?_;rotate_left
 ·
  intro w hSw;go_simp
  with_reducible rfl
 simp only[PU];refine tl 2 28 (v:=?_) rfl ?_ ?_;rotate_left
 ·
  intro w hSw;go_simp
  with_reducible rfl
 simp only[PU];refine tl 3 29 (v:=?_) rfl ?_ ?_;rotate_left
 ·
  intro w hSw;go_simp
  with_reducible rfl
 simp only[PU];refine tl 4 30 (v:=?_) rfl ?_ ?_;rotate_left
 ·
  intro w hSw;go_simp
  with_reducible rfl
 simp only[PU];refine tl 5 31 (v:=?_) rfl ?_ ?_;rotate_left
 ·
  intro w hSw;go_simp
  with_reducible rfl
 simp only[PU];refine tl 6 32 (v:=?_) rfl ?_ ?_;rotate_left
 ·
  intro w hSw;go_simp
  with_reducible rfl
 simp only[PU];refine tl 7 33 (v:=?_) rfl ?_ ?_;rotate_left
 ·
  intro w hSw;go_simp
  with_reducible rfl
 simp only[PU];refine tl 8 34 (v:=?_) rfl ?_ ?_;rotate_left
 ·
  intro w hSw;go_simp
  with_reducible rfl
 simp only[PU];refine tl 9 35 (v:=?_) rfl ?_ ?_;rotate_left
 ·
  intro w hSw;go_simp
  with_reducible rfl
 simp only[PU];refine tl 10 36 (v:=?_) rfl ?_ ?_;rotate_left
 ·
  intro w hSw;go_simp
  with_reducible rfl
 simp only[PU];refine tl 11 37 (v:=?_) rfl ?_ ?_;rotate_left
 ·
  intro w hSw;go_simp
  with_reducible rfl
 simp only[PU];refine tl 12 38 (v:=?_) rfl ?_ ?_;rotate_left
 ·
  intro w hSw;go_simp
  with_reducible rfl
 simp only[PU];refine tl 13 39 (v:=?_) rfl ?_ ?_;rotate_left
 ·
  intro w hSw;go_simp
  with_reducible rfl
 simp only[PU];refine tl 14 40 (v:=?_) rfl ?_ ?_;rotate_left
 ·
  intro w hSw;go_simp
  with_reducible rfl
 simp only[PU];refine tl 15 41 (v:=?_) rfl ?_ ?_;rotate_left
 ·
  intro w hSw;go_simp
  with_reducible rfl
 simp only[PU];refine tl 16 42 (v:=?_) rfl ?_ ?_;rotate_left
 ·
  intro w hSw;have a0:=ptr_eq39 ⟨g,0,none⟩;go_simp
  with_reducible rfl
 simp only[PU];refine tl 17 43 (v:=?_) rfl ?_ ?_;rotate_left
 ·
  intro w hSw;go_simp
  with_reducible rfl
 simp only[PU];refine tl 18 44 (v:=?_) rfl ?_ ?_;rotate_left
 ·
  intro w hSw;go_simp
  with_reducible rfl
 simp only[PU];refine tl 19 45 (v:=?_) rfl ?_ ?_;rotate_left
 ·
  intro w hSw;go_simp
  with_reducible rfl
 simp only[PU];refine tl 20 46 (v:=?_) rfl ?_ ?_;rotate_left
 ·
  intro w hSw;go_simp
  with_reducible rfl
 simp only[PU];refine tl 21 47 (v:=?_) rfl ?_ ?_;rotate_left
 ·
  intro w hSw;go_simp
  with_reducible rfl
 simp only[PU];refine tl 22 48 (v:=?_) rfl ?_ ?_;rotate_left
 ·
  intro w hSw;go_simp
  with_reducible rfl
 simp only[PU];refine tl 23 49 (v:=?_) rfl ?_ ?_;rotate_left
 ·
  intro w hSw;go_simp
  with_reducible rfl
 simp only[PU];refine tl 24 50 (v:=?_) rfl ?_ ?_;rotate_left
 ·
  intro w hSw;go_simp
  with_reducible rfl
 simp only[PU];refine tl 25 51 (v:=?_) rfl ?_ ?_;rotate_left
 ·
  intro w hSw;go_simp
  with_reducible rfl
 simp only[PU];refine tl 26 52 (v:=?_) rfl ?_ ?_;rotate_left
 ·
  intro w hSw;go_simp
  with_reducible rfl
 simp only[PU];refine tl 27 53 (v:=?_) rfl ?_ ?_;rotate_left
 ·
  intro w hSw;go_simp
  with_reducible rfl
 simp only[PU];refine tl 28 54 (v:=?_) rfl ?_ ?_;rotate_left
 ·
  intro w hSw;go_simp
  with_reducible rfl
 simp only[PU];refine tl 29 55 (v:=?_) rfl ?_ ?_;rotate_left
 ·
  intro w hSw;refine exec_load_blk 50 (.tmp 3) ?_ m1 ?_ C1 50 _ hSw Tryz.underlying50 rfl (by rw[HZ1.out];exact info26)
  all_goals rfl
 simp only[PU];refine wpAnyH_ready (rs:=[30]) (by kernel_rfl) (by simp) ?_;refine AllReadyH.cons rfl (fun K hK=>?_) AllReadyH.nil;go_simp;refine(CL.out wd).mono ?_;rintro e v8 ⟨rfl,b8⟩;replace BB:=qH (HTR.out _ _ BB.out b8);replace TX1:=qH (TX1.out.below b8 (fun b _ hb=>hb));replace X1:=qH (X1.out.below b8 X1.out.lt);replace H:=qH (H.out.below b8);clear b8;go_wp2_with fail;refine hK.out _ _ (X1.out) (fun hS=>?_)
 clear hK K
 try simp only[PU]
 refine wpAnyH_ready (rs:=[31]) (by kernel_rfl) (by simp) ?_;refine AllReadyH.cons rfl (fun K hK=>?_) AllReadyH.nil;go_simp;have CS:=qH (same12 _ _ (linkS exA exB) (linkS exA exB) x1 (linkX exA exB) v8 TX1.out (link_at (fun _=>True) v8 exA exB));rw[(sigEq_iff _ _).2 rfl,HC1.out,HLV.out] at CS;refine CS.out.mono ?_;rintro e v9 ⟨rfl,b9⟩;replace BB:=qH (HTR.out _ _ BB.out b9);replace X1:=qH (X1.out.below b9 X1.out.lt)
 replace H:=qH (H.out.below b9);clear b9 CS TX1;go_wp2_with fail;refine hK.out _ _ (X1.out) (fun hS=>?_);clear hK K
 try simp only[PU]
 refine tl 32 58 (v:=?_) rfl ?_ ?_;rotate_left
 ·
  intro w hSw;go_simp
  with_reducible rfl
 simp only[PU];refine tl 33 59 (v:=?_) rfl ?_ ?_;rotate_left
 ·
  intro w hSw;go_simp
  with_reducible rfl
 simp only[PU];refine wpAnyH_done (by kernel_rfl) ?_ _;clear hS X1 HC1 HZ1 HO1;have SN:Hid (Sl v9 w.heap.size 9 1 strC (outV [] exB) []):=qH (Sl.nil _ _ _ _ _);have CDL:=qH (pdial_yes (gen:=1) H.out w.heap.size BB.out.size exB newOk_a other_ab rfl (by omega) (by omega) [] SN.out (by simp));go_wp2_with fail;refine CDL.out.mono ?_;rintro e v10 ⟨rfl,B,c,v',xB,xC,hB,hC,h10,s10,o10,ow⟩;have XC:=qH xC;replace H:=qH h10
 have S10:=qH s10;replace BB:=qH (BB.out.trans (o10.below (n:=w.heap.size) (by have:=GB.out;simp[outV,Mp.get,Value.ownBlock];omega) BB.out.size));clear xB xC hB hC h10 s10 o10 ow CDL SN;have CTW:=qH (pdial_twice (gen:=1) H.out exB other_ab c (by simp[put,Mp.get]));go_wp2_with fail;refine CTW.out.mono ?_;rintro e v11 ⟨rfl,b11⟩;replace BB:=qH (HTR.out _ _ BB.out b11);replace H:=qH (H.out.below b11);replace XC:=qH (XC.out.below b11 XC.out.lt)
 replace S10:=qH (S10.out.below b11 (fun q hq=>(S10.out.lt q hq).2));clear b11 CTW;go_wp2_with fail;refine(CL.out v11).mono ?_;rintro e v12 ⟨rfl,b12⟩;replace BB:=qH (HTR.out _ _ BB.out b12);replace H:=qH (H.out.below b12);replace XC:=qH (XC.out.below b12 XC.out.lt);replace S10:=qH (S10.out.below b12 (fun q hq=>(S10.out.lt q hq).2));clear b12;have CSD:=qH (send_down H.out _ (linkS exA exB) (linkX exA exB) (link_at (fun _=>True) v12 exA exB) link_fit link_valid link_src (by decide +kernel) rfl c (by rw[link_tgt];simp[put,Mp.get]) (XC.out.cell 4))
 rw[HLV.out] at CSD;go_wp2_with fail;refine CSD.out.mono ?_;rintro e v13 ⟨rfl,b13⟩;replace BB:=qH (HTR.out _ _ BB.out b13);replace H:=qH (H.out.below b13);replace S10:=qH (S10.out.below b13 (fun q hq=>(S10.out.lt q hq).2));clear b13 CSD XC;have CO1:=qH (out_any H.out exB);rw[out_put] at CO1;obtain⟨gs,cap,hv⟩:=sl_one S10.out;rw[hv] at CO1 H;clear hv S10;go_wp2_with fail;refine CO1.out.mono ?_;rintro e v14 ⟨rfl,h14,o14⟩
 replace H:=qH h14;replace BB:=qH (BB.out.trans (o14.below (n:=w.heap.size) (by have:=GB.out;simp;omega) BB.out.size));clear h14 o14 CO1;have CO2:=qH (out_any H.out exB);rw[out_del] at CO2;go_wp2_with fail;refine CO2.out.mono ?_;rintro e v15 ⟨rfl,h15,o15⟩;replace BB:=qH (BB.out.trans (o15.below (n:=w.heap.size) (by have:=GB.out;simp;omega) BB.out.size));clear h15 o15 CO2 H;go_wp2_with fail;go_ret;exact⟨rfl,BB.out⟩
end Go.Proofs.YtoaimoemaoinhaaGreatDoor
