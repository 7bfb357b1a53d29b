/- PeersX: a part of the proof. No condition beyond the premises of each theorem. -/
import Derived.Test.YtoaimoemaoinhaaGreatDoorQp28
import Derived.Test.YtoaimoemaoinhaaGreatDoorQp00
set_option maxRecDepth 100000
namespace Go.Proofs.YtoaimoemaoinhaaGreatDoor
open Go.RowKit Go.Rt Go.Rw Go.Mp
theorem info37 : (Tryz.prog.info? 37).map (·.size)=some 2:=by kernel_rfl
set_option maxHeartbeats 4000000 in
theorem names_any (w:World):Calls Tryz.prog 11 #[] w fun e w'=>e = .returned (.agg #[.string exA,.string exB])∧Below w.heap.size w w':=by
 have B:=qH ((Below.refl w.heap.size w).alloc (Nat.le_refl _) (.cells #[.string ⟨#[97]⟩,.string ⟨#[98]⟩] 37));have X:=qH (Blk.new w 37 #[.string ⟨#[97]⟩,.string ⟨#[98]⟩]);go_enter Tryz.func11,Tryz.ntmps11;go_wp2_with fail;exact bodyPost_ret (results_blk (a:=0) (ty:=37) rfl _ _ w.heap.size #[.string exA,.string exB] _ rfl X.out Tryz.underlying37 rfl info37) rfl ⟨rfl,B.out⟩
theorem name_at (b:Bool) (W:World):(Instr.index 37 (.agg #[.string exA,.string exB]) (.int .i64 (if b then 1 else 0))).run Tryz.prog W = .ok (.string (if b then exB else exA)) W:=by cases b<;>kernel_rfl
theorem way_at (g:Nat) (W:World):(Instr.indexAt 29 (.pointer (some ⟨g,2,none⟩)) (.int .i64 1)).run Tryz.prog W = .ok (.pointer (some ⟨g,3,none⟩)) W:=by kernel_rfl
theorem way_at0 (g:Nat) (W:World):(Instr.indexAt 29 (.pointer (some ⟨g,2,none⟩)) (.int .i64 0)).run Tryz.prog W = .ok (.pointer (some ⟨g,2,none⟩)) W:=by kernel_rfl
def pickF (x n:Int):Int:=if x.tmod n<0 then x.tmod n+n else x.tmod n
set_option maxHeartbeats 4000000 in
theorem pick_any (x n:Int) (hn:0<n) (hn2:n≤1000) (_ : -9223372036854775808≤x∧x≤9223372036854775807) (w:World):Calls Tryz.prog 9 #[.int .i64 x,.int .i64 n] w fun e w'=>e = .returned (.int .i64 (pickF x n))∧w'=w:=by
 go_enter Tryz.func9,Tryz.ntmps9;go_wp2_with fail
 ·
  rename_i h;go_ret;refine⟨?_,rfl⟩;unfold pickF;rw[if_pos h]
  have:wrap64 (x.tmod n+n)=x.tmod n+n:=by
   have h1 : -n<x.tmod n:=Int.lt_tmod_of_pos x hn;unfold wrap64;omega
  rw[this];rfl
 ·
  rename_i h;go_ret;refine⟨?_,rfl⟩;unfold pickF;rw[if_neg (by omega)];rfl
theorem pickF_range (x n:Int) (hn:0<n):0≤pickF x n∧pickF x n<n:=by
 have h1 : -n<x.tmod n:=Int.lt_tmod_of_pos x hn;have h2:x.tmod n<n:=Int.tmod_lt_of_pos x hn;unfold pickF;split<;>omega
def colA (s:Ds):Ds:={ s with na:=dropO s.na exB,wb:=s.wb++outQ s.na exB }
def colB (s:Ds):Ds:={ s with nb:=dropO s.nb exA,wa:=s.wa++outQ s.nb exA }
def colS (s:Ds):Ds:=colB (colA s)
theorem PwAt.cells {w:World} {base:Nat} {s:Ds} {n:Nu} {P:Pb} (h:PwAt w base s n P):w.cell? ⟨P.g,0,none⟩=some (ptrV P.a.g)∧w.cell? ⟨P.g,1,none⟩=some (ptrV P.b.g)∧w.cell? ⟨P.g,2,none⟩=some P.va∧w.cell? ⟨P.g,3,none⟩=some P.vb∧w.frozen? ⟨P.g,2,none⟩=false∧w.frozen? ⟨P.g,3,none⟩=false:=
 ⟨h.blk.cell 0,h.blk.cell 1,h.blk.cell 2,h.blk.cell 3,h.blk.frozen 2,h.blk.frozen 3⟩
theorem PwAt.cpa {w:World} {base:Nat} {s:Ds} {n:Nu} {P:Pb} (h:PwAt w base s n P) {g:Nat} (e:P.g=g):w.cell? ⟨g,0,none⟩=some (.pointer (some ⟨P.a.g,0,none⟩)):=by subst e;exact h.blk.cell 0
theorem PwAt.cpb {w:World} {base:Nat} {s:Ds} {n:Nu} {P:Pb} (h:PwAt w base s n P) {g:Nat} (e:P.g=g):w.cell? ⟨g,1,none⟩=some (.pointer (some ⟨P.b.g,0,none⟩)):=by subst e;exact h.blk.cell 1
theorem PwAt.cwa {w:World} {base:Nat} {s:Ds} {n:Nu} {P:Pb} (h:PwAt w base s n P) {g:Nat} (e:P.g=g) {v:Value} (hv:P.va=v):w.cell? ⟨g,2,none⟩=some v:=by subst e;subst hv;exact h.blk.cell 2
theorem PwAt.cwb {w:World} {base:Nat} {s:Ds} {n:Nu} {P:Pb} (h:PwAt w base s n P) {g:Nat} (e:P.g=g) {v:Value} (hv:P.vb=v):w.cell? ⟨g,3,none⟩=some v:=by subst e;subst hv;exact h.blk.cell 3
theorem blk_at {w:World} {g g' t:Nat} {cs:Array Value} (h:Blk w g t cs) (i:Nat) (e:g=g') {v v':Value} (hv:v'=v) (hc:cs[i]? = some v'):w.cell? ⟨g',i,none⟩=some v:=by subst e;subst hv;rw[h.cell,hc]
def Col (w:World) (base:Nat) (s:Ds) (n:Nu) (P:Pb) (wr:World):Prop:=∃ P',P'.g=P.g∧PwAt wr base s n P'∧Below base w wr
set_option maxHeartbeats 8000000 in
theorem collect_any {w:World} {base:Nat} {s:Ds} {n:Nu} {P:Pb} (h:PwAt w base s n P) (ha:(outQ s.na exB).length≤1) (hb:(outQ s.nb exA).length≤1) (hla:s.wa.length≤1000) (hlb:s.wb.length≤1000) :
  Calls Tryz.prog 12 #[ptrV P.g] w fun e w'=>e = .returned (.tuple #[])∧Col w base (colS s) n P w':=by
 have HC0:Hid (Col w base s n P w):=qH ⟨P,rfl,h,Below.refl _ _⟩;have HA:=qH ha;have HB:=qH hb;have HLA:=qH hla;have HLB:=qH hlb;have hix0:=name_at false;have hix1:=name_at true;simp only[if_true,if_false,Bool.false_eq_true] at hix0 hix1;have HBS:=qH h.na.bz;clear h ha hb hla hlb;have e1:IntKind.i64.wrap 1=1:=by kernel_rfl
 have e2:IntKind.i64.wrap 0=0:=by kernel_rfl
 have hia:=way_at P.g;have hib:=way_at0 P.g;unfold ptrV at *;go_enter Tryz.func12,Tryz.ntmps12;go_wp2_with fail;go_loopw [2] (fun i wr=>(i = .int .i64 0∧Hid (Col w base s n P wr))∨(i = .int .i64 1∧Hid (Col w base (colA s) n P wr))∨(i = .int .i64 2∧Hid (Col w base (colS s) n P wr))) (fun i _=>2-(intOf i).toNat)
 case atStart=>exact .inl ⟨rfl,HC0⟩
 case round=>
  rcases hrel with ⟨rfl,HC⟩|⟨rfl,HC⟩|⟨rfl,HC⟩
  ·
   obtain⟨P1,hg1,h1,b1⟩:=HC.out;have H1:=qH (h1.below (Below.refl _ wr).drew);have B1:=qH (b1.trans (Below.refl base wr).drew);have HG1:=qH hg1;obtain⟨c0,c1,c2,c3,f2,f3⟩:=h1.cells;obtain⟨va,capa,hva,-,-⟩:=h1.qb.form;rw[hva] at c3;rw[hg1] at c0 c3;replace c0:wr.cell? ⟨P.g,0,none⟩=some (.pointer (some ⟨P1.a.g,0,none⟩)):=c0;have HVA:=qH hva;clear h1 b1 hva hg1 f2 f3 HC c1 c2;unfold ptrV at *;go_upto_region 3 with fail
   refine wp_region_held_drew (S:=(fun w'=>w'.cell? ⟨P.g,0,none⟩=some (.pointer (some ⟨P1.a.g,0,none⟩)))) (by kernel_rfl) (c0) (fun hS=>?_);replace c0:wr.drew.cell? ⟨P.g,0,none⟩=some (.pointer (some ⟨P1.a.g,0,none⟩)):=c0;replace c3:wr.drew.cell? ⟨P.g,3,none⟩=some (.slice va s.wb.length capa):=c3;generalize wr.drew=wd at *;refine tl 0 7 (v:=?_) rfl ?_ ?_;rotate_left
   ·
    intro w hSw;go_simp
    with_reducible rfl
   simp only[PU];refine tl 1 8 (v:=?_) rfl ?_ ?_;rotate_left
   ·
    intro w hSw;go_simp
    with_reducible rfl
   simp only[PU];refine tl 2 9 (v:=?_) rfl ?_ ?_;rotate_left
   ·
    intro w hSw;go_simp
    with_reducible rfl
   simp only[PU];refine tl 3 10 (v:=?_) rfl ?_ ?_;rotate_left
   ·
    intro w hSw;go_simp
    with_reducible rfl
   simp only[PU];refine tl 4 11 (v:=?_) rfl ?_ ?_;rotate_left
   ·
    intro w hSw;go_simp
    with_reducible rfl
   simp only[PU];refine tl 5 12 (v:=?_) rfl ?_ ?_;rotate_left
   ·
    intro w hSw;go_simp
    with_reducible rfl
   simp only[PU];refine tl 6 13 (v:=?_) rfl ?_ ?_;rotate_left
   ·
    intro w hSw;go_simp
    with_reducible rfl
   simp only[PU];refine tl 7 14 (v:=?_) rfl ?_ ?_;rotate_left
   ·
    intro w hSw;go_simp
    with_reducible rfl
   simp only[PU];refine tl 8 15 (v:=?_) rfl ?_ ?_;rotate_left
   ·
    intro w hSw;go_simp
    with_reducible rfl
   simp only[PU];refine tl 10 17 (v:=?_) rfl ?_ ?_;rotate_left
   ·
    intro w hSw;go_simp
    with_reducible rfl
   simp only[PU];refine tl 11 18 (v:=?_) rfl ?_ ?_;rotate_left
   ·
    intro w hSw;go_simp
    with_reducible rfl
   simp only[PU];refine tl 12 19 (v:=?_) rfl ?_ ?_;rotate_left
   ·
    intro w hSw;go_simp
    with_reducible rfl
   simp only[PU];refine tl 13 20 (v:=?_) rfl ?_ ?_;rotate_left
   ·
    intro w hSw;go_simp
    with_reducible rfl
   simp only[PU];refine tl 14 21 (v:=?_) rfl ?_ ?_;rotate_left
   ·
    intro w hSw;go_simp
    with_reducible rfl
   simp only[PU];refine tl 15 22 (v:=?_) rfl ?_ ?_;rotate_left
   ·
    intro w hSw;have cc0:=hSw;go_simp
    with_reducible rfl
   simp only[PU];refine tl 17 24 (v:=?_) rfl ?_ ?_;rotate_left
   ·
    intro w hSw;go_simp
    with_reducible rfl
   simp only[PU];refine tl 18 25 (v:=?_) rfl ?_ ?_;rotate_left
   ·
    intro w hSw;go_simp
    with_reducible rfl
   simp only[PU];refine tl 22 29 (v:=?_) rfl ?_ ?_;rotate_left
   ·
    intro w hSw;go_simp
    with_reducible rfl
   simp only[PU];refine tl 23 30 (v:=?_) rfl ?_ ?_;rotate_left
   ·
    intro w hSw;go_simp
    with_reducible rfl
   simp only[PU];refine wpAnyH_ready (rs:=[9,16]) (by kernel_rfl) (by simp) ?_;refine AllReadyH.cons rfl (fun K hK=>?_) (AllReadyH.cons rfl (fun K hK=>?_) AllReadyH.nil)
   ·
    go_simp;refine hK.out _ _ (c0) (fun hS=>?_);clear hK K
    try simp only[PU]
    refine wpAnyH_ready (rs:=[16]) (by kernel_rfl) (by simp) ?_;refine AllReadyH.cons rfl (fun K hK=>?_) AllReadyH.nil;go_simp;refine(names_any _).mono ?_;rintro e w2 ⟨rfl,b2⟩;have H2:=qH (H1.out.below b2);have B2:=qH (B1.out.trans (b2.mono H1.out.na.bz));have m0:=H2.out.cpa HG1.out;have m1:=H2.out.cwb HG1.out HVA.out;clear b2 H1 B1 c3 c0;go_wp2_with fail;refine hK.out _ _ (m0) (fun hS=>?_);clear hK K
    try simp only[PU]
    refine tl 19 26 (v:=?_) rfl ?_ ?_;rotate_left
    ·
     intro w hSw;go_simp
     with_reducible rfl
    simp only[PU];refine wpAnyH_ready (rs:=[20]) (by kernel_rfl) (by simp) ?_;refine AllReadyH.cons rfl (fun K hK=>?_) AllReadyH.nil;go_simp;refine(out_nd H2.out.na exB).mono ?_;rintro e w3 ⟨v,rfl,hsl,hown,hn,ht⟩;have H3:=qH (H2.out.setA hn ht);have B3:=qH (B2.out.trans (Trail.kept H2.out.na ht));clear m0 m1;have m0:w3.cell? ⟨P.g,0,none⟩=some (.pointer (some ⟨P1.a.g,0,none⟩)):=H3.out.cpa HG1.out;have m1:=H3.out.cwb HG1.out HVA.out
    obtain⟨a8,c8,rfl,-,-⟩:=sl_form hsl;have HSL:=qH hsl;clear hsl hown hn ht H2 B2;go_wp2_with fail;refine hK.out _ _ (m0) (fun hS=>?_);clear hK K
    try simp only[PU]
    refine wpAnyH_ready (rs:=[21]) (by kernel_rfl) (by simp) ?_;refine AllReadyH.cons rfl (fun K hK=>?_) AllReadyH.nil;have hqw:Wq w3 base P1.vb s.wb:=H3.out.qb;obtain⟨v9,w4,hrun,hq9,ho9,hv9⟩:=hqw.add HSL.out HA.out (Nat.le_trans HLB.out (by omega)) H3.out.na.bz;obtain⟨a9,c9,e9,-,-⟩:=hq9.form;rw[List.length_append] at e9;subst e9;have HRN:=qH hrun;rw[HVA.out] at HRN;have HNG:Hid (P1.g∉P1.vb.ownBlock.toList):=qH (fun q=>H3.out.sep.wg (Option.mem_toList.1 q))
    have m3:=H3.out.blk.only ho9 HNG.out;clear m0 m1;have m0:w4.cell? ⟨P.g,0,none⟩=some (.pointer (some ⟨P1.a.g,0,none⟩)):=blk_at m3 0 HG1.out rfl rfl;have m1:=blk_at m3 3 HG1.out HVA.out rfl;have f9:=m3.frozen 3;rw[HG1.out] at f9;have HW:Hid (∀ W,W=w4.setCell ⟨P.g,3,none⟩ (.slice a9 (s.wb.length+(outQ s.na exB).length) c9)→Col w base (colA s) n P W∧W.cell? ⟨P.g,0,none⟩=some (.pointer (some ⟨P1.a.g,0,none⟩))):=qH (by
     rintro W rfl
     have:=H3.out.wayB ho9 hq9 (.inr (hv9.imp id (fun h b hb=>(h b hb).1))) (Only.setCell w4 ⟨P.g,3,none⟩ (.slice a9 (s.wb.length+(outQ s.na exB).length) c9) (by rw[←HG1.out];simp)) (by rw[←HG1.out];exact m3.set_ 3 (.slice a9 (s.wb.length+(outQ s.na exB).length) c9))
     refine⟨⟨_,?_,this,?_⟩,this.cpa HG1.out⟩
     ·
      exact HG1.out
     ·
      exact(B3.out.trans (ho9.below (fun b hb=>(H3.out.qb.lt b (Option.mem_toList.1 hb)).1) H3.out.na.bz)).setCell (p:=⟨P.g,3,none⟩) (by rw[←HG1.out];exact H3.out.bg) _)
    clear hrun hq9 ho9 hv9 hqw m3 H3 B3 HSL;refine step_append_run rfl _ _ 28 28 rfl rfl rfl HRN.out ?_;change K (Act.put _ (some 28) _) _;refine hK.out _ _ (m0) (fun hS=>?_);clear hK K
    try simp only[PU]
    refine tl 24 31 (v:=?_) rfl ?_ ?_;rotate_left
    ·
     intro w hSw;go_simp
     with_reducible rfl
    simp only[PU];refine wpAnyH_ready (rs:=[25]) (by kernel_rfl) (by simp) ?_;refine AllReadyH.cons rfl (fun K hK=>?_) AllReadyH.nil;go_simp;have HW5:=qH (HW.out _ rfl).1;have m5:=(HW.out _ rfl).2;clear m0 m1 f9 HRN HW;generalize w4.setCell ⟨P.g,3,none⟩ _=w5 at *;refine hK.out _ _ (m5) (fun hS=>?_);clear hK K
    try simp only[PU]
    refine wpAnyH_done (by kernel_rfl) ?_ _;clear hS m5;go_wp2_with fail;go_roundw
    case rel=>exact .inr (.inl ⟨rfl,HW5⟩)
    case measure=>simp[intOf]
   ·
    go_simp;refine(names_any _).mono ?_;rintro e w2 ⟨rfl,b2⟩;have H2:=qH (H1.out.below b2);have B2:=qH (B1.out.trans (b2.mono H1.out.na.bz));have m0:=H2.out.cpa HG1.out;have m1:=H2.out.cwb HG1.out HVA.out;clear b2 H1 B1 c3 c0;go_wp2_with fail;refine hK.out _ _ (m0) (fun hS=>?_);clear hK K
    try simp only[PU]
    refine tl 19 26 (v:=?_) rfl ?_ ?_;rotate_left
    ·
     intro w hSw;go_simp
     with_reducible rfl
    simp only[PU];refine wpAnyH_ready (rs:=[9,20]) (by kernel_rfl) (by simp) ?_;refine AllReadyH.cons rfl (fun K hK=>?_) (AllReadyH.cons rfl (fun K hK=>?_) AllReadyH.nil)
    ·
     go_simp;refine hK.out _ _ (m0) (fun hS=>?_);clear hK K
     try simp only[PU]
     refine wpAnyH_ready (rs:=[20]) (by kernel_rfl) (by simp) ?_;refine AllReadyH.cons rfl (fun K hK=>?_) AllReadyH.nil;go_simp;refine(out_nd H2.out.na exB).mono ?_;rintro e w3 ⟨v,rfl,hsl,hown,hn,ht⟩;have H3:=qH (H2.out.setA hn ht);have B3:=qH (B2.out.trans (Trail.kept H2.out.na ht));clear m0 m1;have m0:w3.cell? ⟨P.g,0,none⟩=some (.pointer (some ⟨P1.a.g,0,none⟩)):=H3.out.cpa HG1.out;have m1:=H3.out.cwb HG1.out HVA.out
     obtain⟨a8,c8,rfl,-,-⟩:=sl_form hsl;have HSL:=qH hsl;clear hsl hown hn ht H2 B2;go_wp2_with fail;refine hK.out _ _ (m0) (fun hS=>?_);clear hK K
     try simp only[PU]
     refine wpAnyH_ready (rs:=[21]) (by kernel_rfl) (by simp) ?_;refine AllReadyH.cons rfl (fun K hK=>?_) AllReadyH.nil;have hqw:Wq w3 base P1.vb s.wb:=H3.out.qb;obtain⟨v9,w4,hrun,hq9,ho9,hv9⟩:=hqw.add HSL.out HA.out (Nat.le_trans HLB.out (by omega)) H3.out.na.bz;obtain⟨a9,c9,e9,-,-⟩:=hq9.form;rw[List.length_append] at e9;subst e9;have HRN:=qH hrun;rw[HVA.out] at HRN;have HNG:Hid (P1.g∉P1.vb.ownBlock.toList):=qH (fun q=>H3.out.sep.wg (Option.mem_toList.1 q))
     have m3:=H3.out.blk.only ho9 HNG.out;clear m0 m1;have m0:w4.cell? ⟨P.g,0,none⟩=some (.pointer (some ⟨P1.a.g,0,none⟩)):=blk_at m3 0 HG1.out rfl rfl;have m1:=blk_at m3 3 HG1.out HVA.out rfl;have f9:=m3.frozen 3;rw[HG1.out] at f9;have HW:Hid (∀ W,W=w4.setCell ⟨P.g,3,none⟩ (.slice a9 (s.wb.length+(outQ s.na exB).length) c9)→Col w base (colA s) n P W∧W.cell? ⟨P.g,0,none⟩=some (.pointer (some ⟨P1.a.g,0,none⟩))):=qH (by
      rintro W rfl
      have:=H3.out.wayB ho9 hq9 (.inr (hv9.imp id (fun h b hb=>(h b hb).1))) (Only.setCell w4 ⟨P.g,3,none⟩ (.slice a9 (s.wb.length+(outQ s.na exB).length) c9) (by rw[←HG1.out];simp)) (by rw[←HG1.out];exact m3.set_ 3 (.slice a9 (s.wb.length+(outQ s.na exB).length) c9))
      refine⟨⟨_,?_,this,?_⟩,this.cpa HG1.out⟩
      ·
       exact HG1.out
      ·
       exact(B3.out.trans (ho9.below (fun b hb=>(H3.out.qb.lt b (Option.mem_toList.1 hb)).1) H3.out.na.bz)).setCell (p:=⟨P.g,3,none⟩) (by rw[←HG1.out];exact H3.out.bg) _)
     clear hrun hq9 ho9 hv9 hqw m3 H3 B3 HSL;refine step_append_run rfl _ _ 28 28 rfl rfl rfl HRN.out ?_;change K (Act.put _ (some 28) _) _;refine hK.out _ _ (m0) (fun hS=>?_);clear hK K
     try simp only[PU]
     refine tl 24 31 (v:=?_) rfl ?_ ?_;rotate_left
     ·
      intro w hSw;go_simp
      with_reducible rfl
     simp only[PU];refine wpAnyH_ready (rs:=[25]) (by kernel_rfl) (by simp) ?_;refine AllReadyH.cons rfl (fun K hK=>?_) AllReadyH.nil;go_simp;have HW5:=qH (HW.out _ rfl).1;have m5:=(HW.out _ rfl).2;clear m0 m1 f9 HRN HW;generalize w4.setCell ⟨P.g,3,none⟩ _=w5 at *;refine hK.out _ _ (m5) (fun hS=>?_);clear hK K
     try simp only[PU]
     refine wpAnyH_done (by kernel_rfl) ?_ _;clear hS m5;go_wp2_with fail;go_roundw
     case rel=>exact .inr (.inl ⟨rfl,HW5⟩)
     case measure=>simp[intOf]
    ·
     go_simp;refine(out_nd H2.out.na exB).mono ?_;rintro e w3 ⟨v,rfl,hsl,hown,hn,ht⟩;have H3:=qH (H2.out.setA hn ht);have B3:=qH (B2.out.trans (Trail.kept H2.out.na ht));clear m0 m1;have m0:w3.cell? ⟨P.g,0,none⟩=some (.pointer (some ⟨P1.a.g,0,none⟩)):=H3.out.cpa HG1.out;have m1:=H3.out.cwb HG1.out HVA.out;obtain⟨a8,c8,rfl,-,-⟩:=sl_form hsl;have HSL:=qH hsl;clear hsl hown hn ht H2 B2;go_wp2_with fail
     refine hK.out _ _ (m0) (fun hS=>?_);clear hK K
     try simp only[PU]
     refine wpAnyH_ready (rs:=[9]) (by kernel_rfl) (by simp) ?_;refine AllReadyH.cons rfl (fun K hK=>?_) AllReadyH.nil;go_simp;refine hK.out _ _ (m0) (fun hS=>?_);clear hK K
     try simp only[PU]
     refine wpAnyH_ready (rs:=[21]) (by kernel_rfl) (by simp) ?_;refine AllReadyH.cons rfl (fun K hK=>?_) AllReadyH.nil;have hqw:Wq w3 base P1.vb s.wb:=H3.out.qb;obtain⟨v9,w4,hrun,hq9,ho9,hv9⟩:=hqw.add HSL.out HA.out (Nat.le_trans HLB.out (by omega)) H3.out.na.bz;obtain⟨a9,c9,e9,-,-⟩:=hq9.form;rw[List.length_append] at e9;subst e9;have HRN:=qH hrun;rw[HVA.out] at HRN;have HNG:Hid (P1.g∉P1.vb.ownBlock.toList):=qH (fun q=>H3.out.sep.wg (Option.mem_toList.1 q))
     have m3:=H3.out.blk.only ho9 HNG.out;clear m0 m1;have m0:w4.cell? ⟨P.g,0,none⟩=some (.pointer (some ⟨P1.a.g,0,none⟩)):=blk_at m3 0 HG1.out rfl rfl;have m1:=blk_at m3 3 HG1.out HVA.out rfl;have f9:=m3.frozen 3;rw[HG1.out] at f9;have HW:Hid (∀ W,W=w4.setCell ⟨P.g,3,none⟩ (.slice a9 (s.wb.length+(outQ s.na exB).length) c9)→Col w base (colA s) n P W∧W.cell? ⟨P.g,0,none⟩=some (.pointer (some ⟨P1.a.g,0,none⟩))):=qH (by
      rintro W rfl
      have:=H3.out.wayB ho9 hq9 (.inr (hv9.imp id (fun h b hb=>(h b hb).1))) (Only.setCell w4 ⟨P.g,3,none⟩ (.slice a9 (s.wb.length+(outQ s.na exB).length) c9) (by rw[←HG1.out];simp)) (by rw[←HG1.out];exact m3.set_ 3 (.slice a9 (s.wb.length+(outQ s.na exB).length) c9))
      refine⟨⟨_,?_,this,?_⟩,this.cpa HG1.out⟩
      ·
       exact HG1.out
      ·
       exact(B3.out.trans (ho9.below (fun b hb=>(H3.out.qb.lt b (Option.mem_toList.1 hb)).1) H3.out.na.bz)).setCell (p:=⟨P.g,3,none⟩) (by rw[←HG1.out];exact H3.out.bg) _)
     clear hrun hq9 ho9 hv9 hqw m3 H3 B3 HSL;refine step_append_run rfl _ _ 28 28 rfl rfl rfl HRN.out ?_;change K (Act.put _ (some 28) _) _;refine hK.out _ _ (m0) (fun hS=>?_);clear hK K
     try simp only[PU]
     refine tl 24 31 (v:=?_) rfl ?_ ?_;rotate_left
     ·
      intro w hSw;go_simp
      with_reducible rfl
     simp only[PU];refine wpAnyH_ready (rs:=[25]) (by kernel_rfl) (by simp) ?_;refine AllReadyH.cons rfl (fun K hK=>?_) AllReadyH.nil;go_simp;have HW5:=qH (HW.out _ rfl).1;have m5:=(HW.out _ rfl).2;clear m0 m1 f9 HRN HW;generalize w4.setCell ⟨P.g,3,none⟩ _=w5 at *;refine hK.out _ _ (m5) (fun hS=>?_);clear hK K
     try simp only[PU]
     refine wpAnyH_done (by kernel_rfl) ?_ _;clear hS m5;go_wp2_with fail;go_roundw
     case rel=>exact .inr (.inl ⟨rfl,HW5⟩)
     case measure=>simp[intOf]
  ·
   obtain⟨P1,hg1,h1,b1⟩:=HC.out;have H1:=qH (h1.below (Below.refl _ wr).drew);have B1:=qH (b1.trans (Below.refl base wr).drew);have HG1:=qH hg1;obtain⟨c0,c1,c2,c3,f2,f3⟩:=h1.cells;obtain⟨va,capa,hva,-,-⟩:=h1.qa.form;rw[hva] at c2;rw[hg1] at c1 c2;replace c1:wr.cell? ⟨P.g,1,none⟩=some (.pointer (some ⟨P1.b.g,0,none⟩)):=c1;have HVA:=qH hva;clear h1 b1 hva hg1 f2 f3 HC c0 c3;unfold ptrV at *;go_upto_region 3 with fail
   refine wp_region_held_drew (S:=(fun w'=>w'.cell? ⟨P.g,1,none⟩=some (.pointer (some ⟨P1.b.g,0,none⟩)))) (by kernel_rfl) (c1) (fun hS=>?_);replace c1:wr.drew.cell? ⟨P.g,1,none⟩=some (.pointer (some ⟨P1.b.g,0,none⟩)):=c1;replace c2:wr.drew.cell? ⟨P.g,2,none⟩=some (.slice va (colA s).wa.length capa):=c2;generalize wr.drew=wd at *;refine tl 0 7 (v:=?_) rfl ?_ ?_;rotate_left
   ·
    intro w hSw;go_simp
    with_reducible rfl
   simp only[PU];refine tl 1 8 (v:=?_) rfl ?_ ?_;rotate_left
   ·
    intro w hSw;go_simp
    with_reducible rfl
   simp only[PU];refine tl 2 9 (v:=?_) rfl ?_ ?_;rotate_left
   ·
    intro w hSw;go_simp
    with_reducible rfl
   simp only[PU];refine tl 3 10 (v:=?_) rfl ?_ ?_;rotate_left
   ·
    intro w hSw;go_simp
    with_reducible rfl
   simp only[PU];refine tl 4 11 (v:=?_) rfl ?_ ?_;rotate_left
   ·
    intro w hSw;go_simp
    with_reducible rfl
   simp only[PU];refine tl 5 12 (v:=?_) rfl ?_ ?_;rotate_left
   ·
    intro w hSw;go_simp
    with_reducible rfl
   simp only[PU];refine tl 6 13 (v:=?_) rfl ?_ ?_;rotate_left
   ·
    intro w hSw;go_simp
    with_reducible rfl
   simp only[PU];refine tl 7 14 (v:=?_) rfl ?_ ?_;rotate_left
   ·
    intro w hSw;go_simp
    with_reducible rfl
   simp only[PU];refine tl 8 15 (v:=?_) rfl ?_ ?_;rotate_left
   ·
    intro w hSw;go_simp
    with_reducible rfl
   simp only[PU];refine tl 10 17 (v:=?_) rfl ?_ ?_;rotate_left
   ·
    intro w hSw;go_simp
    with_reducible rfl
   simp only[PU];refine tl 11 18 (v:=?_) rfl ?_ ?_;rotate_left
   ·
    intro w hSw;go_simp
    with_reducible rfl
   simp only[PU];refine tl 12 19 (v:=?_) rfl ?_ ?_;rotate_left
   ·
    intro w hSw;go_simp
    with_reducible rfl
   simp only[PU];refine tl 13 20 (v:=?_) rfl ?_ ?_;rotate_left
   ·
    intro w hSw;go_simp
    with_reducible rfl
   simp only[PU];refine tl 14 21 (v:=?_) rfl ?_ ?_;rotate_left
   ·
    intro w hSw;go_simp
    with_reducible rfl
   simp only[PU];refine tl 15 22 (v:=?_) rfl ?_ ?_;rotate_left
   ·
    intro w hSw;have cc0:=hSw;go_simp
    with_reducible rfl
   simp only[PU];refine tl 17 24 (v:=?_) rfl ?_ ?_;rotate_left
   ·
    intro w hSw;go_simp
    with_reducible rfl
   simp only[PU];refine tl 18 25 (v:=?_) rfl ?_ ?_;rotate_left
   ·
    intro w hSw;go_simp
    with_reducible rfl
   simp only[PU];refine tl 22 29 (v:=?_) rfl ?_ ?_;rotate_left
   ·
    intro w hSw;go_simp
    with_reducible rfl
   simp only[PU];refine tl 23 30 (v:=?_) rfl ?_ ?_;rotate_left
   ·
    intro w hSw;go_simp
    with_reducible rfl
   simp only[PU];refine wpAnyH_ready (rs:=[9,16]) (by kernel_rfl) (by simp) ?_;refine AllReadyH.cons rfl (fun K hK=>?_) (AllReadyH.cons rfl (fun K hK=>?_) AllReadyH.nil)
   ·
    go_simp;refine hK.out _ _ (c1) (fun hS=>?_);clear hK K
    try simp only[PU]
    refine wpAnyH_ready (rs:=[16]) (by kernel_rfl) (by simp) ?_;refine AllReadyH.cons rfl (fun K hK=>?_) AllReadyH.nil;go_simp;refine(names_any _).mono ?_;rintro e w2 ⟨rfl,b2⟩;have H2:=qH (H1.out.below b2);have B2:=qH (B1.out.trans (b2.mono H1.out.na.bz));have m0:=H2.out.cpb HG1.out;have m1:=H2.out.cwa HG1.out HVA.out;clear b2 H1 B1 c2 c1;go_wp2_with fail;refine hK.out _ _ (m0) (fun hS=>?_);clear hK K
    try simp only[PU]
    refine tl 19 26 (v:=?_) rfl ?_ ?_;rotate_left
    ·
     intro w hSw;go_simp
     with_reducible rfl
    simp only[PU];refine wpAnyH_ready (rs:=[20]) (by kernel_rfl) (by simp) ?_;refine AllReadyH.cons rfl (fun K hK=>?_) AllReadyH.nil;go_simp;refine(out_nd H2.out.nb exA).mono ?_;rintro e w3 ⟨v,rfl,hsl,hown,hn,ht⟩;have H3:=qH (H2.out.setB hn ht);have B3:=qH (B2.out.trans (Trail.kept H2.out.nb ht));clear m0 m1;have m0:w3.cell? ⟨P.g,1,none⟩=some (.pointer (some ⟨P1.b.g,0,none⟩)):=H3.out.cpb HG1.out;have m1:=H3.out.cwa HG1.out HVA.out
    obtain⟨a8,c8,rfl,-,-⟩:=sl_form hsl;have HSL:=qH hsl;clear hsl hown hn ht H2 B2;go_wp2_with fail;refine hK.out _ _ (m0) (fun hS=>?_);clear hK K
    try simp only[PU]
    refine wpAnyH_ready (rs:=[21]) (by kernel_rfl) (by simp) ?_;refine AllReadyH.cons rfl (fun K hK=>?_) AllReadyH.nil;have hqw:Wq w3 base P1.va (colA s).wa:=H3.out.qa;obtain⟨v9,w4,hrun,hq9,ho9,hv9⟩:=hqw.add HSL.out HB.out (Nat.le_trans HLA.out (by omega)) H3.out.na.bz;obtain⟨a9,c9,e9,-,-⟩:=hq9.form;rw[List.length_append] at e9;subst e9;have HRN:=qH hrun;rw[HVA.out] at HRN;have HNG:Hid (P1.g∉P1.va.ownBlock.toList):=qH (fun q=>H3.out.sep.vg (Option.mem_toList.1 q))
    have m3:=H3.out.blk.only ho9 HNG.out;clear m0 m1;have m0:w4.cell? ⟨P.g,1,none⟩=some (.pointer (some ⟨P1.b.g,0,none⟩)):=blk_at m3 1 HG1.out rfl rfl;have m1:=blk_at m3 2 HG1.out HVA.out rfl;have f9:=m3.frozen 2;rw[HG1.out] at f9;have HW:Hid (∀ W,W=w4.setCell ⟨P.g,2,none⟩ (.slice a9 ((colA s).wa.length+(outQ (colA s).nb exA).length) c9)→Col w base (colS s) n P W∧W.cell? ⟨P.g,1,none⟩=some (.pointer (some ⟨P1.b.g,0,none⟩))):=qH (by
     rintro W rfl
     have:=H3.out.wayA ho9 hq9 (.inr (hv9.imp id (fun h b hb=>(h b hb).1))) (Only.setCell w4 ⟨P.g,2,none⟩ (.slice a9 ((colA s).wa.length+(outQ (colA s).nb exA).length) c9) (by rw[←HG1.out];simp)) (by rw[←HG1.out];exact m3.set_ 2 (.slice a9 ((colA s).wa.length+(outQ (colA s).nb exA).length) c9))
     refine⟨⟨_,?_,this,?_⟩,this.cpb HG1.out⟩
     ·
      exact HG1.out
     ·
      exact(B3.out.trans (ho9.below (fun b hb=>(H3.out.qa.lt b (Option.mem_toList.1 hb)).1) H3.out.na.bz)).setCell (p:=⟨P.g,2,none⟩) (by rw[←HG1.out];exact H3.out.bg) _)
    clear hrun hq9 ho9 hv9 hqw m3 H3 B3 HSL;refine step_append_run rfl _ _ 28 28 rfl rfl rfl HRN.out ?_;change K (Act.put _ (some 28) _) _;refine hK.out _ _ (m0) (fun hS=>?_);clear hK K
    try simp only[PU]
    refine tl 24 31 (v:=?_) rfl ?_ ?_;rotate_left
    ·
     intro w hSw;go_simp
     with_reducible rfl
    simp only[PU];refine wpAnyH_ready (rs:=[25]) (by kernel_rfl) (by simp) ?_;refine AllReadyH.cons rfl (fun K hK=>?_) AllReadyH.nil;go_simp;have HW5:=qH (HW.out _ rfl).1;have m5:=(HW.out _ rfl).2;clear m0 m1 f9 HRN HW;generalize w4.setCell ⟨P.g,2,none⟩ _=w5 at *;refine hK.out _ _ (m5) (fun hS=>?_);clear hK K
    try simp only[PU]
    refine wpAnyH_done (by kernel_rfl) ?_ _;clear hS m5;go_wp2_with fail;go_roundw
    case rel=>exact .inr (.inr ⟨rfl,HW5⟩)
    case measure=>simp[intOf]
   ·
    go_simp;refine(names_any _).mono ?_;rintro e w2 ⟨rfl,b2⟩;have H2:=qH (H1.out.below b2);have B2:=qH (B1.out.trans (b2.mono H1.out.na.bz));have m0:=H2.out.cpb HG1.out;have m1:=H2.out.cwa HG1.out HVA.out;clear b2 H1 B1 c2 c1;go_wp2_with fail;refine hK.out _ _ (m0) (fun hS=>?_);clear hK K
    try simp only[PU]
    refine tl 19 26 (v:=?_) rfl ?_ ?_;rotate_left
    ·
     intro w hSw;go_simp
     with_reducible rfl
    simp only[PU];refine wpAnyH_ready (rs:=[9,20]) (by kernel_rfl) (by simp) ?_;refine AllReadyH.cons rfl (fun K hK=>?_) (AllReadyH.cons rfl (fun K hK=>?_) AllReadyH.nil)
    ·
     go_simp;refine hK.out _ _ (m0) (fun hS=>?_);clear hK K
     try simp only[PU]
     refine wpAnyH_ready (rs:=[20]) (by kernel_rfl) (by simp) ?_;refine AllReadyH.cons rfl (fun K hK=>?_) AllReadyH.nil;go_simp;refine(out_nd H2.out.nb exA).mono ?_;rintro e w3 ⟨v,rfl,hsl,hown,hn,ht⟩;have H3:=qH (H2.out.setB hn ht);have B3:=qH (B2.out.trans (Trail.kept H2.out.nb ht));clear m0 m1;have m0:w3.cell? ⟨P.g,1,none⟩=some (.pointer (some ⟨P1.b.g,0,none⟩)):=H3.out.cpb HG1.out;have m1:=H3.out.cwa HG1.out HVA.out
     obtain⟨a8,c8,rfl,-,-⟩:=sl_form hsl;have HSL:=qH hsl;clear hsl hown hn ht H2 B2;go_wp2_with fail;refine hK.out _ _ (m0) (fun hS=>?_);clear hK K
     try simp only[PU]
     refine wpAnyH_ready (rs:=[21]) (by kernel_rfl) (by simp) ?_;refine AllReadyH.cons rfl (fun K hK=>?_) AllReadyH.nil;have hqw:Wq w3 base P1.va (colA s).wa:=H3.out.qa;obtain⟨v9,w4,hrun,hq9,ho9,hv9⟩:=hqw.add HSL.out HB.out (Nat.le_trans HLA.out (by omega)) H3.out.na.bz;obtain⟨a9,c9,e9,-,-⟩:=hq9.form;rw[List.length_append] at e9;subst e9;have HRN:=qH hrun;rw[HVA.out] at HRN;have HNG:Hid (P1.g∉P1.va.ownBlock.toList):=qH (fun q=>H3.out.sep.vg (Option.mem_toList.1 q))
     have m3:=H3.out.blk.only ho9 HNG.out;clear m0 m1;have m0:w4.cell? ⟨P.g,1,none⟩=some (.pointer (some ⟨P1.b.g,0,none⟩)):=blk_at m3 1 HG1.out rfl rfl;have m1:=blk_at m3 2 HG1.out HVA.out rfl;have f9:=m3.frozen 2;rw[HG1.out] at f9;have HW:Hid (∀ W,W=w4.setCell ⟨P.g,2,none⟩ (.slice a9 ((colA s).wa.length+(outQ (colA s).nb exA).length) c9)→Col w base (colS s) n P W∧W.cell? ⟨P.g,1,none⟩=some (.pointer (some ⟨P1.b.g,0,none⟩))):=qH (by
      rintro W rfl
      have:=H3.out.wayA ho9 hq9 (.inr (hv9.imp id (fun h b hb=>(h b hb).1))) (Only.setCell w4 ⟨P.g,2,none⟩ (.slice a9 ((colA s).wa.length+(outQ (colA s).nb exA).length) c9) (by rw[←HG1.out];simp)) (by rw[←HG1.out];exact m3.set_ 2 (.slice a9 ((colA s).wa.length+(outQ (colA s).nb exA).length) c9))
      refine⟨⟨_,?_,this,?_⟩,this.cpb HG1.out⟩
      ·
       exact HG1.out
      ·
       exact(B3.out.trans (ho9.below (fun b hb=>(H3.out.qa.lt b (Option.mem_toList.1 hb)).1) H3.out.na.bz)).setCell (p:=⟨P.g,2,none⟩) (by rw[←HG1.out];exact H3.out.bg) _)
     clear hrun hq9 ho9 hv9 hqw m3 H3 B3 HSL;refine step_append_run rfl _ _ 28 28 rfl rfl rfl HRN.out ?_;change K (Act.put _ (some 28) _) _;refine hK.out _ _ (m0) (fun hS=>?_);clear hK K
     try simp only[PU]
     refine tl 24 31 (v:=?_) rfl ?_ ?_;rotate_left
     ·
      intro w hSw;go_simp
      with_reducible rfl
     simp only[PU];refine wpAnyH_ready (rs:=[25]) (by kernel_rfl) (by simp) ?_;refine AllReadyH.cons rfl (fun K hK=>?_) AllReadyH.nil;go_simp;have HW5:=qH (HW.out _ rfl).1;have m5:=(HW.out _ rfl).2;clear m0 m1 f9 HRN HW;generalize w4.setCell ⟨P.g,2,none⟩ _=w5 at *;refine hK.out _ _ (m5) (fun hS=>?_);clear hK K
     try simp only[PU]
     refine wpAnyH_done (by kernel_rfl) ?_ _;clear hS m5;go_wp2_with fail;go_roundw
     case rel=>exact .inr (.inr ⟨rfl,HW5⟩)
     case measure=>simp[intOf]
    ·
     go_simp;refine(out_nd H2.out.nb exA).mono ?_;rintro e w3 ⟨v,rfl,hsl,hown,hn,ht⟩;have H3:=qH (H2.out.setB hn ht);have B3:=qH (B2.out.trans (Trail.kept H2.out.nb ht));clear m0 m1;have m0:w3.cell? ⟨P.g,1,none⟩=some (.pointer (some ⟨P1.b.g,0,none⟩)):=H3.out.cpb HG1.out;have m1:=H3.out.cwa HG1.out HVA.out;obtain⟨a8,c8,rfl,-,-⟩:=sl_form hsl;have HSL:=qH hsl;clear hsl hown hn ht H2 B2;go_wp2_with fail
     refine hK.out _ _ (m0) (fun hS=>?_);clear hK K
     try simp only[PU]
     refine wpAnyH_ready (rs:=[9]) (by kernel_rfl) (by simp) ?_;refine AllReadyH.cons rfl (fun K hK=>?_) AllReadyH.nil;go_simp;refine hK.out _ _ (m0) (fun hS=>?_);clear hK K
     try simp only[PU]
     refine wpAnyH_ready (rs:=[21]) (by kernel_rfl) (by simp) ?_;refine AllReadyH.cons rfl (fun K hK=>?_) AllReadyH.nil;have hqw:Wq w3 base P1.va (colA s).wa:=H3.out.qa;obtain⟨v9,w4,hrun,hq9,ho9,hv9⟩:=hqw.add HSL.out HB.out (Nat.le_trans HLA.out (by omega)) H3.out.na.bz;obtain⟨a9,c9,e9,-,-⟩:=hq9.form;rw[List.length_append] at e9;subst e9;have HRN:=qH hrun;rw[HVA.out] at HRN;have HNG:Hid (P1.g∉P1.va.ownBlock.toList):=qH (fun q=>H3.out.sep.vg (Option.mem_toList.1 q))
     have m3:=H3.out.blk.only ho9 HNG.out;clear m0 m1;have m0:w4.cell? ⟨P.g,1,none⟩=some (.pointer (some ⟨P1.b.g,0,none⟩)):=blk_at m3 1 HG1.out rfl rfl;have m1:=blk_at m3 2 HG1.out HVA.out rfl;have f9:=m3.frozen 2;rw[HG1.out] at f9;have HW:Hid (∀ W,W=w4.setCell ⟨P.g,2,none⟩ (.slice a9 ((colA s).wa.length+(outQ (colA s).nb exA).length) c9)→Col w base (colS s) n P W∧W.cell? ⟨P.g,1,none⟩=some (.pointer (some ⟨P1.b.g,0,none⟩))):=qH (by
      rintro W rfl
      have:=H3.out.wayA ho9 hq9 (.inr (hv9.imp id (fun h b hb=>(h b hb).1))) (Only.setCell w4 ⟨P.g,2,none⟩ (.slice a9 ((colA s).wa.length+(outQ (colA s).nb exA).length) c9) (by rw[←HG1.out];simp)) (by rw[←HG1.out];exact m3.set_ 2 (.slice a9 ((colA s).wa.length+(outQ (colA s).nb exA).length) c9))
      refine⟨⟨_,?_,this,?_⟩,this.cpb HG1.out⟩
      ·
       exact HG1.out
      ·
       exact(B3.out.trans (ho9.below (fun b hb=>(H3.out.qa.lt b (Option.mem_toList.1 hb)).1) H3.out.na.bz)).setCell (p:=⟨P.g,2,none⟩) (by rw[←HG1.out];exact H3.out.bg) _)
     clear hrun hq9 ho9 hv9 hqw m3 H3 B3 HSL;refine step_append_run rfl _ _ 28 28 rfl rfl rfl HRN.out ?_;change K (Act.put _ (some 28) _) _;refine hK.out _ _ (m0) (fun hS=>?_);clear hK K
     try simp only[PU]
     refine tl 24 31 (v:=?_) rfl ?_ ?_;rotate_left
     ·
      intro w hSw;go_simp
      with_reducible rfl
     simp only[PU];refine wpAnyH_ready (rs:=[25]) (by kernel_rfl) (by simp) ?_;refine AllReadyH.cons rfl (fun K hK=>?_) AllReadyH.nil;go_simp;have HW5:=qH (HW.out _ rfl).1;have m5:=(HW.out _ rfl).2;clear m0 m1 f9 HRN HW;generalize w4.setCell ⟨P.g,2,none⟩ _=w5 at *;refine hK.out _ _ (m5) (fun hS=>?_);clear hK K
     try simp only[PU]
     refine wpAnyH_done (by kernel_rfl) ?_ _;clear hS m5;go_wp2_with fail;go_roundw
     case rel=>exact .inr (.inr ⟨rfl,HW5⟩)
     case measure=>simp[intOf]
  ·
   go_wp2_with fail;go_end0;exact⟨rfl,HC.out⟩
end Go.Proofs.YtoaimoemaoinhaaGreatDoor
