/- PeersX: a part of the proof. No condition beyond the premises of each theorem. -/
import Derived.Test.YtoaimoemaoinhaaGreatDoorQp25
import Derived.Test.YtoaimoemaoinhaaGreatDoorQp24
import Derived.Test.YtoaimoemaoinhaaGreatDoorQp32
import Derived.Test.YtoaimoemaoinhaaGreatDoorQp21
import Derived.Test.YtoaimoemaoinhaaGreatDoorQp07
import Derived.Deep.RegionHeld3
import Derived.Test.YtoaimoemaoinhaaGreatDoorQp23
import Derived.Test.YtoaimoemaoinhaaGreatDoorQp00
set_option maxRecDepth 100000
namespace Go.Proofs.YtoaimoemaoinhaaGreatDoor
open Go Go.RowKit Go.Rt Go.Rw Go.Mp
def sendS (n:Nd) (k:ByteArray) (s:Sg):Nd×Int:=
 match get n.C k with
 | none=>(n,9)
 | some x=>if x.gen=0 then (n,9) else (sendN (setC n k { x with id:=x.id+1 }) k (pkF x.dials x.num 70 (Fr.encF true (x.id+1) 1 (encB s))),0)
theorem SgAt.only2 {S:Nat→Prop} {w w':World} {s:Sg} {x:Sf} {bs:List Nat} (h:SgAt S w s x) (o:Only bs w w') (hn:∀ b,S b→b<w.heap.size→b∉bs):SgAt S w' s x:=
 ⟨h.fr.only o hn,h.tt.only o hn,h.ref.only o hn,h.val.only o hn⟩
theorem cut_one (id:Int) (data:ByteArray) (h:data.size≤4096):Fr.cutL id data 4096 = [(id,true,1,data)]:=by
 have hm:Fr.manyK data 4096=1:=by
  unfold Fr.manyK;omega
 unfold Fr.cutL;rw[hm];simp only[List.range_one,List.map_cons,List.map_nil,Fr.partK,Fr.restK];rw[Nat.min_eq_right h,ByteArray.extract_zero_size];rfl
theorem id_nd {w:World} {base:Nat} {n:Nd} {a:Nm} (h:NdAt w base n a) {k:ByteArray} {x:Cx} {m:Cm} (hx:get a.C k=some (x,m)) (i:Nat) :
  NdAt (w.setCell ⟨m.c,6,none⟩ (.int .i64 (i:Int))) base (setC n k { x with id:=i }) (setA a k { x with id:=i } m)∧Trail w (w.setCell ⟨m.c,6,none⟩ (.int .i64 (i:Int))) a (setA a k { x with id:=i } m):=by
 have hn:=h.cnod hx;have hc:=h.conn hx;have o:Only [m.c] w (w.setCell ⟨m.c,6,none⟩ (.int .i64 (i:Int))):=Only.setCell w _ _ (by simp);have hn2:=hn;unfold cfoot at hn2;rw[List.nodup_cons] at hn2;refine set_nd h hx o (fun b hb=>by rw[List.mem_singleton.1 hb];simp[cfoot]) { x with id:=i } m ⟨hc.con.set_ 6 (.int .i64 (i:Int)),hc.side.only o ?_,hc.gat.keep o (fun b hb z=>?_)⟩ rfl hn (fun b hb=>.inl hb)
 ·
  intro z;exact hn2.1 (by rw[←List.mem_singleton.1 z];exact List.mem_cons_self)
 ·
  exact hn2.1 (by rw[←List.mem_singleton.1 z];exact List.mem_cons_of_mem _ hb)
set_option maxHeartbeats 8000000 in
theorem send_any {w:World} {base:Nat} {n:Nd} {a:Nm} (h:NdAt w base n a) (S:Nat→Prop) (s:Sg) (x:Sf) (hx:SgAt S w s x) (hSf:∀ b,S b→b∉foot a) (hf:FitE s) (hv:validS s=true) (hs:srcS s=n.nm) (hu:usesF s.k=67) (hk8:s.k=1) (hgn:s.fr.f.g=n.gen) (k:ByteArray) (hk:tgtS s=k)
  (hl:((get n.O k).getD []).length≤99999999) (hc:∀ y,get n.C k=some y→y.gen≠0→s.tt.f.g=y.gen∧y.id≤1000000) (hdz:(encB s).size≤4096) :
  Calls Tryz.prog 20 #[ptrV a.g,sgV s x] w fun e w'=>e = .returned (.int .i64 (sendS n k s).2)∧∃ a',NdAt w' base (sendS n k s).1 a'∧Trail w w' a a':=by
 obtain⟨RN,RC,hR⟩:∃ RN RC,sendS n k s=(RN,RC):=⟨_,_,rfl⟩;have HR:=qH hR;rw[hR];have CU:=qH (fun(W:World)=>uses21 s.k W);rw[hu] at CU;obtain⟨CS,hCS⟩:∃ q,q=(sgC s x).toArray:=⟨_,rfl⟩;have HSV:Hid (sgV s x = .agg CS):=qH (by rw[hCS];rfl);have HSZ:Hid (CS.size=40):=qH (by rw[hCS];rfl);have HC0:Hid (CS[0]? = some (.int .i64 s.k)):=qH (by rw[hCS];rfl);have HC3:Hid (CS[3]? = some (.int .i64 (n.gen:Int))):=qH (by rw[hCS,←hgn,←hx.fr.its.1];rfl)
 have HC12:Hid (CS[12]? = some (.int .i64 s.tt.f.g)):=qH (by rw[hCS,←hx.tt.its.1];rfl);have HX:=qH hx;have HSF:=qH hSf;have CV:=qH (fun(W:World) (hW:SgAt S W s x)=>pvalid19 S s x W hW hf.fit);have CSR:=qH (fun(W:World) (hW:SgAt S W s x)=>srcS_any S s x W hW);have CTG:=qH (fun(W:World) (hW:SgAt S W s x)=>tgtS_any S s x W hW);have CE:=qH (fun(W:World) (hW:SgAt S W s x)=>pencode8 S s x W hW hf (by rw[hk8];omega))
 rw[HSV.out] at CV CSR CTG CE ⊢;rw[hv] at CV;rw[hs] at CSR;rw[hk] at CTG;have hnn:(n.nm.toList==n.nm.toList)=true:=beq_self_eq_true _;have HL:=qH hl;have HCC:=qH hc;have HDZ:=qH hdz;have H0:=qH h;clear hx hf hv hs hu hgn hCS hk hl hc hdz hk8 hR hSf;obtain⟨m,hm⟩:∃ q,q=w.heap.size:=⟨_,rfl⟩;have HM:=qH hm;have X:=qH (Blk.new w 50 CS);have AL:=(Below.refl w.heap.size w).alloc (Nat.le_refl _) (.cells CS 50)
 have H:=qH (h.below AL);have T:=qH (Trail.below a AL);replace HX:=qH (HX.out.below AL (fun b _ h=>h));have hmf:m∉foot a:=fun q=>by have:=(h.low _ q).2;omega
 have HMF:=qH hmf;rw[←hm] at X;clear h AL hmf;unfold ptrV at *;go_enter Tryz.func20,Tryz.ntmps20;go_upto_region 1 with fail
 rw[←hm];generalize w.alloc (.cells CS 50)=w1 at *;have e5:w1.cell? ⟨a.g,5,none⟩=some (.map (some a.mc)):=H.out.pm.blk.cell 5;have CN:=qH (none_no a.g a.mc w1 e5);clear hm e5;go_wp2_with fail;refine CN.out.mono ?_;rintro e w0 ⟨rfl,rfl⟩;clear CN;have q0:w0.cell? ⟨m,0,none⟩=some (.int .i64 s.k):=(X.out.cell 0).trans HC0.out;go_wp2_with fail;refine(CU.out _).mono ?_;rintro e w2 ⟨rfl,b2⟩;replace X:=qH (X.out.below b2 X.out.lt)
 replace H:=qH (H.out.below b2);replace T:=qH (T.out.trans (Trail.below a b2));replace HX:=qH (HX.out.below b2 (fun b _ h=>h));clear b2 q0 CU;go_upto_region 4 with fail
 refine wp_region_held_drew (S:=(fun w'=>Blk w' m 50 CS∧Blk w' a.g 58 (pC n.nm (n.gen:Int) n.ck n.ch n.di a.mc a.mo a.ml))) (by kernel_rfl) (⟨X.out.drew,H.out.pm.blk.drew⟩) (fun hS=>?_);replace X:=qH X.out.drew;replace H:=qH (H.out.below (Below.refl w2.heap.size w2).drew);replace T:=qH (T.out.trans (Trail.below a (Below.refl w2.heap.size w2).drew));replace HX:=qH (HX.out.below (Below.refl w2.heap.size w2).drew (fun b _ h=>h))
 generalize w2.drew=wd at *;have hb1:(bits BinOp.and IntKind.i64 67 1 != 0)=true:=by decide
 refine tl 0 20 (v:=?_) rfl ?_ ?_;rotate_left
 ·
  intro w hSw;refine exec_load_blk 50 (.tmp 3) ?_ m ?_ CS 50 _ hSw.1 Tryz.underlying50 rfl (by rw[HSZ.out];exact info26)
  all_goals rfl
 simp only[PU];refine wpAnyH_ready (rs:=[1]) (by kernel_rfl) (by simp) ?_;refine AllReadyH.cons rfl (fun K hK=>?_) AllReadyH.nil;go_simp;refine(CV.out wd HX.out).mono ?_;rintro e w3 ⟨rfl,b3⟩;replace X:=qH (X.out.below b3 X.out.lt);replace H:=qH (H.out.below b3);replace T:=qH (T.out.trans (Trail.below a b3));replace HX:=qH (HX.out.below b3 (fun b _ h=>h));clear b3 hS CV;go_wp2_with fail;refine hK.out _ _ (⟨X.out,H.out.pm.blk⟩) (fun hS=>?_)
 clear hK K
 try simp only[PU]
 refine tl 2 22 (v:=?_) rfl ?_ ?_;rotate_left
 ·
  intro w hSw;go_simp
  with_reducible rfl
 simp only[PU];refine tl 3 23 (v:=?_) rfl ?_ ?_;rotate_left
 ·
  intro w hSw;go_simp
  with_reducible rfl
 simp only[PU];refine tl 4 24 (v:=?_) rfl ?_ ?_;rotate_left
 ·
  intro w hSw;refine exec_load_blk 50 (.tmp 3) ?_ m ?_ CS 50 _ hSw.1 Tryz.underlying50 rfl (by rw[HSZ.out];exact info26)
  all_goals rfl
 simp only[PU];refine tl 6 26 (v:=?_) rfl ?_ ?_;rotate_left
 ·
  intro w hSw;go_simp
  with_reducible rfl
 simp only[PU];refine tl 7 27 (v:=?_) rfl ?_ ?_;rotate_left
 ·
  intro w hSw;go_simp
  with_reducible rfl
 simp only[PU];refine tl 8 28 (v:=?_) rfl ?_ ?_;rotate_left
 ·
  intro w hSw;go_simp
  with_reducible rfl
 simp only[PU];refine tl 9 29 (v:=?_) rfl ?_ ?_;rotate_left
 ·
  intro w hSw;go_simp
  with_reducible rfl
 simp only[PU];refine tl 10 30 (v:=?_) rfl ?_ ?_;rotate_left
 ·
  intro w hSw;have a0:w.cell? ⟨a.g,0,none⟩=some (.string n.nm):=hSw.2.cell 0;go_simp
  with_reducible rfl
 simp only[PU];refine wpAnyH_ready (rs:=[5]) (by kernel_rfl) (by simp) ?_;refine AllReadyH.cons rfl (fun K hK=>?_) AllReadyH.nil;go_simp;refine(CSR.out w3 HX.out).mono ?_;rintro e w4 ⟨rfl,b4⟩;replace X:=qH (X.out.below b4 X.out.lt);replace H:=qH (H.out.below b4);replace T:=qH (T.out.trans (Trail.below a b4));replace HX:=qH (HX.out.below b4 (fun b _ h=>h));clear b4 hS CSR;go_wp2_with fail;refine hK.out _ _ (⟨X.out,H.out.pm.blk⟩) (fun hS=>?_)
 clear hK K
 try simp only[PU]
 refine tl 11 31 (v:=?_) rfl ?_ ?_;rotate_left
 ·
  intro w hSw;go_simp
  with_reducible rfl
 simp only[PU];refine tl 12 32 (v:=?_) rfl ?_ ?_;rotate_left
 ·
  intro w hSw;go_simp
  with_reducible rfl
 simp only[PU];refine tl 13 33 (v:=?_) rfl ?_ ?_;rotate_left
 ·
  intro w hSw;go_simp
  with_reducible rfl
 simp only[PU];refine tl 14 34 (v:=?_) rfl ?_ ?_;rotate_left
 ·
  intro w hSw;go_simp
  with_reducible rfl
 simp only[PU];refine tl 15 35 (v:=?_) rfl ?_ ?_;rotate_left
 ·
  intro w hSw;go_simp
  with_reducible rfl
 simp only[PU];refine tl 16 36 (v:=?_) rfl ?_ ?_;rotate_left
 ·
  intro w hSw;go_simp
  with_reducible rfl
 simp only[PU];refine tl 17 37 (v:=?_) rfl ?_ ?_;rotate_left
 ·
  intro w hSw;go_simp
  with_reducible rfl
 simp only[PU];refine tl 18 38 (v:=?_) rfl ?_ ?_;rotate_left
 ·
  intro w hSw;go_simp
  with_reducible rfl
 simp only[PU];refine tl 19 39 (v:=?_) rfl ?_ ?_;rotate_left
 ·
  intro w hSw;go_simp
  with_reducible rfl
 simp only[PU];refine tl 20 40 (v:=?_) rfl ?_ ?_;rotate_left
 ·
  intro w hSw;have a0:w.cell? ⟨m,3,none⟩=some (.int .i64 (n.gen:Int)):=(hSw.1.cell 3).trans HC3.out;go_simp
  with_reducible rfl
 simp only[PU];refine tl 21 41 (v:=?_) rfl ?_ ?_;rotate_left
 ·
  intro w hSw;go_simp
  with_reducible rfl
 simp only[PU];refine tl 22 42 (v:=?_) rfl ?_ ?_;rotate_left
 ·
  intro w hSw;go_simp
  with_reducible rfl
 simp only[PU];refine tl 23 43 (v:=?_) rfl ?_ ?_;rotate_left
 ·
  intro w hSw;go_simp
  with_reducible rfl
 simp only[PU];refine tl 24 44 (v:=?_) rfl ?_ ?_;rotate_left
 ·
  intro w hSw;go_simp
  with_reducible rfl
 simp only[PU];refine tl 25 45 (v:=?_) rfl ?_ ?_;rotate_left
 ·
  intro w hSw;have a0:w.cell? ⟨a.g,1,none⟩=some (.int .i64 (n.gen:Int)):=hSw.2.cell 1;go_simp
  with_reducible rfl
 simp only[PU];refine tl 26 46 (v:=?_) rfl ?_ ?_;rotate_left
 ·
  intro w hSw;go_simp
  with_reducible rfl
 simp only[PU];refine tl 27 47 (v:=?_) rfl ?_ ?_;rotate_left
 ·
  intro w hSw;go_simp
  with_reducible rfl
 simp only[PU];refine tl 28 48 (v:=?_) rfl ?_ ?_;rotate_left
 ·
  intro w hSw;go_simp
  with_reducible rfl
 simp only[PU];refine wpAnyH_done (by kernel_rfl) ?_ _;clear hS;clear hb1 hnn;have hcm:=H.out.pm.cm;rw[show (fun p:ByteArray×(Cx×Cm)=>(p.1,p.2.2.c))=(fun p=>(p.1,(fun q:Cx×Cm=>q.2.c) p.2)) from rfl] at hcm;obtain⟨cv,hcv⟩:∃ v,v=conV (a.C.map fun p=>(p.1,p.2.2.c)) k:=⟨_,rfl⟩;have LK:=qH (fun W (q:MapAt W a.mc strK ptrV (a.C.map fun p=>(p.1,p.2.2.c)))=>by have:=look_con q k;rw[←hcv] at this;exact this)
 have HCV:=qH hcv;clear hcv hcm;go_upto_region 6 with fail
 refine wp_region_held_drew (S:=(fun w'=>Blk w' m 50 CS∧Blk w' a.g 58 (pC n.nm (n.gen:Int) n.ck n.ch n.di a.mc a.mo a.ml)∧MapAt w' a.mc strK ptrV (a.C.map fun p:ByteArray×(Cx×Cm)=>(p.1,p.2.2.c)))) (by kernel_rfl) (⟨X.out.drew,H.out.pm.blk.drew,H.out.pm.cm⟩) (fun hS=>?_);replace X:=qH X.out.drew;replace H:=qH (H.out.below (Below.refl w4.heap.size w4).drew);replace T:=qH (T.out.trans (Trail.below a (Below.refl w4.heap.size w4).drew))
 replace HX:=qH (HX.out.below (Below.refl w4.heap.size w4).drew (fun b _ h=>h));generalize w4.drew=wd at *;refine tl 0 49 (v:=?_) rfl ?_ ?_;rotate_left
 ·
  intro w hSw;go_simp
  with_reducible rfl
 simp only[PU];refine tl 1 50 (v:=?_) rfl ?_ ?_;rotate_left
 ·
  intro w hSw;go_simp
  with_reducible rfl
 simp only[PU];refine tl 2 51 (v:=?_) rfl ?_ ?_;rotate_left
 ·
  intro w hSw;go_simp
  with_reducible rfl
 simp only[PU];refine tl 3 52 (v:=?_) rfl ?_ ?_;rotate_left
 ·
  intro w hSw;have a0:w.cell? ⟨a.g,5,none⟩=some (.map (some a.mc)):=hSw.2.1.cell 5;go_simp
  with_reducible rfl
 simp only[PU];refine tl 4 53 (v:=?_) rfl ?_ ?_;rotate_left
 ·
  intro w hSw;refine exec_load_blk 50 (.tmp 3) ?_ m ?_ CS 50 _ hSw.1 Tryz.underlying50 rfl (by rw[HSZ.out];exact info26)
  all_goals rfl
 simp only[PU];refine wpAnyH_ready (rs:=[5]) (by kernel_rfl) (by simp) ?_;refine AllReadyH.cons rfl (fun K hK=>?_) AllReadyH.nil;go_simp;refine(CTG.out wd HX.out).mono ?_;rintro e w5 ⟨rfl,b5⟩;replace X:=qH (X.out.below b5 X.out.lt);replace H:=qH (H.out.below b5);replace T:=qH (T.out.trans (Trail.below a b5));replace HX:=qH (HX.out.below b5 (fun b _ h=>h));clear b5 hS CTG;go_wp2_with fail;refine hK.out _ _ (⟨X.out,H.out.pm.blk,H.out.pm.cm⟩) (fun hS=>?_)
 clear hK K
 try simp only[PU]
 refine tl 6 55 (v:=?_) rfl ?_ ?_;rotate_left
 ·
  intro w hSw;have a0:=LK.out w hSw.2.2;go_simp
  with_reducible rfl
 simp only[PU];refine tl 7 6 (v:=?_) rfl ?_ ?_;rotate_left
 ·
  intro w hSw;go_simp
  with_reducible rfl
 simp only[PU];refine wpAnyH_done (by kernel_rfl) ?_ _;clear hS;clear LK;have hgm:get (a.C.map fun p=>(p.1,p.2.2.c)) k=(get a.C k).map fun q=>q.2.c:=get_map (fun q:Cx×Cm=>q.2.c) k a.C
 have hcv2:=HCV.out;unfold conV at hcv2;rw[hgm] at hcv2;have HGC:=qH (H.out.getC k);have HR2:=HR.out;unfold sendS at HR2;clear hgm HCV HR;rcases hq:get a.C k with _|⟨y,cm⟩
 ·
  rw[hq] at hcv2;obtain rfl:cv = .pointer none:=hcv2;have hqn:get n.C k=none:=by have:=HGC.out;rw[hq] at this;exact this
  rw[hqn] at HR2;obtain⟨rfl,rfl⟩:=Prod.mk.inj HR2;clear HR2 hqn hq HGC;go_upto_region 7 with fail
  refine wp_region_held_drew (S:=(fun w'=>True)) (by kernel_rfl) (trivial) (fun hS=>?_);replace H:=qH (H.out.below (Below.refl w5.heap.size w5).drew);replace T:=qH (T.out.trans (Trail.below a (Below.refl w5.heap.size w5).drew));replace HX:=qH (HX.out.below (Below.refl w5.heap.size w5).drew (fun b _ h=>h));replace X:=qH X.out.drew;generalize w5.drew=wd2 at *;refine tl 0 56 (v:=?_) rfl ?_ ?_;rotate_left
  ·
   intro w hSw;go_simp
   with_reducible rfl
  simp only[PU];refine tl 1 57 (v:=?_) rfl ?_ ?_;rotate_left
  ·
   intro w hSw;go_simp
   with_reducible rfl
  simp only[PU];refine tl 2 58 (v:=?_) rfl ?_ ?_;rotate_left
  ·
   intro w hSw;go_simp
   with_reducible rfl
  simp only[PU];refine tks (i:=3) rfl (by rfl) (by assumption) ?_;change wpAnyH _ _ _ _ _ _ _ (Act.put _ (some 59) _) _;simp only[PU];refine tks (i:=4) rfl (by rfl) (by assumption) ?_;change wpAnyH _ _ _ _ _ _ _ (Act.put _ (some 60) _) _;simp only[PU];refine tks (i:=5) rfl (by rfl) (by assumption) ?_;change wpAnyH _ _ _ _ _ _ _ (Act.put _ (some 61) _) _;simp only[PU];refine tks (i:=6) rfl (by rfl) (by assumption) ?_
  change wpAnyH _ _ _ _ _ _ _ (Act.put _ (some 62) _) _;simp only[PU];refine tks (i:=7) rfl (by rfl) (by assumption) ?_;change wpAnyH _ _ _ _ _ _ _ (Act.put _ (some 63) _) _;simp only[PU];refine tl 8 64 (v:=?_) rfl ?_ ?_;rotate_left
  ·
   intro w hSw;go_simp
   with_reducible rfl
  simp only[PU];refine tl 9 65 (v:=?_) rfl ?_ ?_;rotate_left
  ·
   intro w hSw;go_simp
   with_reducible rfl
  simp only[PU];refine tks (i:=10) rfl (by rfl) (by assumption) ?_;change wpAnyH _ _ _ _ _ _ _ (Act.put _ (some 66) _) _;simp only[PU];refine tks (i:=11) rfl (by rfl) (by assumption) ?_;change wpAnyH _ _ _ _ _ _ _ (Act.put _ (some 67) _) _;simp only[PU];refine tks (i:=12) rfl (by rfl) (by assumption) ?_;change wpAnyH _ _ _ _ _ _ _ (Act.put _ (some 68) _) _;simp only[PU];refine tks (i:=13) rfl (by rfl) (by assumption) ?_
  change wpAnyH _ _ _ _ _ _ _ (Act.put _ (some 69) _) _;simp only[PU];refine tks (i:=14) rfl (by rfl) (by assumption) ?_;change wpAnyH _ _ _ _ _ _ _ (Act.put _ (some 70) _) _;simp only[PU];refine tks (i:=15) rfl (by rfl) (by assumption) ?_;change wpAnyH _ _ _ _ _ _ _ (Act.put _ (some 71) _) _;simp only[PU];refine tks (i:=16) rfl (by rfl) (by assumption) ?_;change wpAnyH _ _ _ _ _ _ _ (Act.put _ (some 72) _) _
  simp only[PU];refine tks (i:=17) rfl (by rfl) (by assumption) ?_;change wpAnyH _ _ _ _ _ _ _ (Act.put _ (some 73) _) _;simp only[PU];refine tks (i:=18) rfl (by rfl) (by assumption) ?_;change wpAnyH _ _ _ _ _ _ _ (Act.put _ (some 74) _) _;simp only[PU];refine tks (i:=19) rfl (by rfl) (by assumption) ?_;change wpAnyH _ _ _ _ _ _ _ (Act.put _ (some 75) _) _;simp only[PU];refine tks (i:=20) rfl (by rfl) (by assumption) ?_
  change wpAnyH _ _ _ _ _ _ _ (Act.put _ (some 76) _) _;simp only[PU];refine tks (i:=21) rfl (by rfl) (by assumption) ?_;change wpAnyH _ _ _ _ _ _ _ (Act.put _ (some 77) _) _;simp only[PU];refine tks (i:=22) rfl (by rfl) (by assumption) ?_;change wpAnyH _ _ _ _ _ _ _ (Act.put _ (some 78) _) _;simp only[PU];refine tl 23 79 (v:=?_) rfl ?_ ?_;rotate_left
  ·
   intro w hSw;go_simp
   with_reducible rfl
  simp only[PU];refine wpAnyH_done (by kernel_rfl) ?_ _;clear hS;have D:Hid (∃ a',NdAt wd2 base n a'∧Trail w wd2 a a'):=qH ⟨_,H.out,T.out⟩;go_wp2_with fail;go_ret;exact⟨rfl,D.out⟩
 ·
  rw[hq] at hcv2;obtain rfl:cv = .pointer (some ⟨cm.c,0,none⟩):=hcv2;have hqn:get n.C k=some y:=by have:=HGC.out;rw[hq] at this;exact this
  rw[hqn] at HR2;dsimp only at HR2;have hpn:=ptr_eq0 ⟨cm.c,0,none⟩
  by_cases hg:y.gen=0
  ·
   rw[if_pos hg] at HR2;obtain⟨rfl,rfl⟩:=Prod.mk.inj HR2;have q4:w5.cell? ⟨cm.c,4,none⟩=some (.int .i64 0):=by have:=(H.out.conn hq).con.cell 4;rw[hg] at this;exact this
   clear HR2 hqn hq HGC hg;go_upto_region 7 with fail
   refine wp_region_held_drew (S:=(fun w'=>w'.cell? ⟨cm.c,4,none⟩=some (.int .i64 0))) (by kernel_rfl) (q4) (fun hS=>?_);replace H:=qH (H.out.below (Below.refl w5.heap.size w5).drew);replace T:=qH (T.out.trans (Trail.below a (Below.refl w5.heap.size w5).drew));replace HX:=qH (HX.out.below (Below.refl w5.heap.size w5).drew (fun b _ h=>h));replace X:=qH X.out.drew;generalize w5.drew=wd2 at *;refine tl 0 56 (v:=?_) rfl ?_ ?_
   rotate_left
   ·
    intro w hSw;go_simp
    with_reducible rfl
   simp only[PU];refine tl 1 57 (v:=?_) rfl ?_ ?_;rotate_left
   ·
    intro w hSw;go_simp
    with_reducible rfl
   simp only[PU];refine tl 2 58 (v:=?_) rfl ?_ ?_;rotate_left
   ·
    intro w hSw;go_simp
    with_reducible rfl
   simp only[PU];refine tl 3 59 (v:=?_) rfl ?_ ?_;rotate_left
   ·
    intro w hSw;go_simp
    with_reducible rfl
   simp only[PU];refine tl 4 60 (v:=?_) rfl ?_ ?_;rotate_left
   ·
    intro w hSw;go_simp
    with_reducible rfl
   simp only[PU];refine tl 5 61 (v:=?_) rfl ?_ ?_;rotate_left
   ·
    intro w hSw;go_simp
    with_reducible rfl
   simp only[PU];refine tl 6 62 (v:=?_) rfl ?_ ?_;rotate_left
   ·
    intro w hSw;have a0:=hSw;go_simp
    with_reducible rfl
   simp only[PU];refine tl 7 63 (v:=?_) rfl ?_ ?_;rotate_left
   ·
    intro w hSw;go_simp
    with_reducible rfl
   simp only[PU];refine tl 8 64 (v:=?_) rfl ?_ ?_;rotate_left
   ·
    intro w hSw;go_simp
    with_reducible rfl
   simp only[PU];refine tl 9 65 (v:=?_) rfl ?_ ?_;rotate_left
   ·
    intro w hSw;go_simp
    with_reducible rfl
   simp only[PU];refine tks (i:=10) rfl (by rfl) (by assumption) ?_;change wpAnyH _ _ _ _ _ _ _ (Act.put _ (some 66) _) _;simp only[PU];refine tks (i:=11) rfl (by rfl) (by assumption) ?_;change wpAnyH _ _ _ _ _ _ _ (Act.put _ (some 67) _) _;simp only[PU];refine tks (i:=12) rfl (by rfl) (by assumption) ?_;change wpAnyH _ _ _ _ _ _ _ (Act.put _ (some 68) _) _;simp only[PU];refine tks (i:=13) rfl (by rfl) (by assumption) ?_
   change wpAnyH _ _ _ _ _ _ _ (Act.put _ (some 69) _) _;simp only[PU];refine tks (i:=14) rfl (by rfl) (by assumption) ?_;change wpAnyH _ _ _ _ _ _ _ (Act.put _ (some 70) _) _;simp only[PU];refine tks (i:=15) rfl (by rfl) (by assumption) ?_;change wpAnyH _ _ _ _ _ _ _ (Act.put _ (some 71) _) _;simp only[PU];refine tks (i:=16) rfl (by rfl) (by assumption) ?_;change wpAnyH _ _ _ _ _ _ _ (Act.put _ (some 72) _) _
   simp only[PU];refine tks (i:=17) rfl (by rfl) (by assumption) ?_;change wpAnyH _ _ _ _ _ _ _ (Act.put _ (some 73) _) _;simp only[PU];refine tks (i:=18) rfl (by rfl) (by assumption) ?_;change wpAnyH _ _ _ _ _ _ _ (Act.put _ (some 74) _) _;simp only[PU];refine tks (i:=19) rfl (by rfl) (by assumption) ?_;change wpAnyH _ _ _ _ _ _ _ (Act.put _ (some 75) _) _;simp only[PU];refine tks (i:=20) rfl (by rfl) (by assumption) ?_
   change wpAnyH _ _ _ _ _ _ _ (Act.put _ (some 76) _) _;simp only[PU];refine tks (i:=21) rfl (by rfl) (by assumption) ?_;change wpAnyH _ _ _ _ _ _ _ (Act.put _ (some 77) _) _;simp only[PU];refine tks (i:=22) rfl (by rfl) (by assumption) ?_;change wpAnyH _ _ _ _ _ _ _ (Act.put _ (some 78) _) _;simp only[PU];refine tl 23 79 (v:=?_) rfl ?_ ?_;rotate_left
   ·
    intro w hSw;go_simp
    with_reducible rfl
   simp only[PU];refine wpAnyH_done (by kernel_rfl) ?_ _;clear hS;have D:Hid (∃ a',NdAt wd2 base n a'∧Trail w wd2 a a'):=qH ⟨_,H.out,T.out⟩;go_wp2_with fail;go_ret;exact⟨rfl,D.out⟩
  ·
   rw[if_neg hg] at HR2;obtain⟨hRN,rfl⟩:=Prod.mk.inj HR2;have HRN:=qH hRN;obtain⟨hcg,hci⟩:=HCC.out y hqn hg;have q4:w5.cell? ⟨cm.c,4,none⟩=some (.int .i64 (y.gen:Int)):=(H.out.conn hq).con.cell 4;have HQ:=qH hq;have HG0:Hid (((y.gen:Int)==0)=false):=qH (by rw[beq_eq_false_iff_ne];omega);have hg0:=HG0.out;have HC12':Hid (CS[12]? = some (.int .i64 (y.gen:Int))):=qH (by rw[←hcg];exact HC12.out);have hb2:(bits BinOp.and IntKind.i64 67 2 != 0)=true:=by decide
   clear HR2 hRN hqn hq HGC hg hcg HC12 HCC;go_upto_region 7 with fail
   refine wp_region_held_drew (S:=(fun w'=>w'.cell? ⟨cm.c,4,none⟩=some (.int .i64 (y.gen:Int))∧Blk w' m 50 CS)) (by kernel_rfl) (⟨q4,X.out.drew⟩) (fun hS=>?_);replace H:=qH (H.out.below (Below.refl w5.heap.size w5).drew);replace T:=qH (T.out.trans (Trail.below a (Below.refl w5.heap.size w5).drew));replace HX:=qH (HX.out.below (Below.refl w5.heap.size w5).drew (fun b _ h=>h));replace X:=qH X.out.drew
   generalize w5.drew=wd2 at *;refine tl 0 56 (v:=?_) rfl ?_ ?_;rotate_left
   ·
    intro w hSw;go_simp
    with_reducible rfl
   simp only[PU];refine tl 1 57 (v:=?_) rfl ?_ ?_;rotate_left
   ·
    intro w hSw;go_simp
    with_reducible rfl
   simp only[PU];refine tl 2 58 (v:=?_) rfl ?_ ?_;rotate_left
   ·
    intro w hSw;go_simp
    with_reducible rfl
   simp only[PU];refine tl 3 59 (v:=?_) rfl ?_ ?_;rotate_left
   ·
    intro w hSw;go_simp
    with_reducible rfl
   simp only[PU];refine tl 4 60 (v:=?_) rfl ?_ ?_;rotate_left
   ·
    intro w hSw;go_simp
    with_reducible rfl
   simp only[PU];refine tl 5 61 (v:=?_) rfl ?_ ?_;rotate_left
   ·
    intro w hSw;go_simp
    with_reducible rfl
   simp only[PU];refine tl 6 62 (v:=?_) rfl ?_ ?_;rotate_left
   ·
    intro w hSw;have a0:=hSw.1;go_simp
    with_reducible rfl
   simp only[PU];refine tl 7 63 (v:=?_) rfl ?_ ?_;rotate_left
   ·
    intro w hSw;go_simp
    with_reducible rfl
   simp only[PU];refine tl 8 64 (v:=?_) rfl ?_ ?_;rotate_left
   ·
    intro w hSw;go_simp
    with_reducible rfl
   simp only[PU];refine tl 9 65 (v:=?_) rfl ?_ ?_;rotate_left
   ·
    intro w hSw;go_simp
    with_reducible rfl
   simp only[PU];refine tl 10 66 (v:=?_) rfl ?_ ?_;rotate_left
   ·
    intro w hSw;go_simp
    with_reducible rfl
   simp only[PU];refine tl 11 67 (v:=?_) rfl ?_ ?_;rotate_left
   ·
    intro w hSw;go_simp
    with_reducible rfl
   simp only[PU];refine tl 12 68 (v:=?_) rfl ?_ ?_;rotate_left
   ·
    intro w hSw;go_simp
    with_reducible rfl
   simp only[PU];refine tl 13 69 (v:=?_) rfl ?_ ?_;rotate_left
   ·
    intro w hSw;go_simp
    with_reducible rfl
   simp only[PU];refine tl 14 70 (v:=?_) rfl ?_ ?_;rotate_left
   ·
    intro w hSw;go_simp
    with_reducible rfl
   simp only[PU];refine tl 15 71 (v:=?_) rfl ?_ ?_;rotate_left
   ·
    intro w hSw;go_simp
    with_reducible rfl
   simp only[PU];refine tl 16 72 (v:=?_) rfl ?_ ?_;rotate_left
   ·
    intro w hSw;have a0:w.cell? ⟨m,12,none⟩=some (.int .i64 (y.gen:Int)):=(hSw.2.cell 12).trans HC12'.out;go_simp
    with_reducible rfl
   simp only[PU];refine tl 17 73 (v:=?_) rfl ?_ ?_;rotate_left
   ·
    intro w hSw;go_simp
    with_reducible rfl
   simp only[PU];refine tl 18 74 (v:=?_) rfl ?_ ?_;rotate_left
   ·
    intro w hSw;go_simp
    with_reducible rfl
   simp only[PU];refine tl 19 75 (v:=?_) rfl ?_ ?_;rotate_left
   ·
    intro w hSw;go_simp
    with_reducible rfl
   simp only[PU];refine tl 20 76 (v:=?_) rfl ?_ ?_;rotate_left
   ·
    intro w hSw;have a0:=hSw.1;go_simp
    with_reducible rfl
   simp only[PU];refine tl 21 77 (v:=?_) rfl ?_ ?_;rotate_left
   ·
    intro w hSw;go_simp
    with_reducible rfl
   simp only[PU];refine tl 22 78 (v:=?_) rfl ?_ ?_;rotate_left
   ·
    intro w hSw;go_simp
    with_reducible rfl
   simp only[PU];refine tl 23 79 (v:=?_) rfl ?_ ?_;rotate_left
   ·
    intro w hSw;go_simp
    with_reducible rfl
   simp only[PU];refine wpAnyH_done (by kernel_rfl) ?_ _;clear hS;clear q4 hb2 hg0;obtain⟨iv,hiv⟩:∃ q:Int,q=((y.id+1:Nat):Int):=⟨_,rfl⟩;have HIV:Hid (1≤iv∧iv≤1000001):=qH (by omega);have hci2:¬(2147483647:Int)<iv:=by omega
   have hw6:IntKind.i64.wrap ((y.id:Int)+1)=iv:=by rw[hiv,IntKind.wrap_i64]<;>omega
   have c6:wd2.cell? ⟨cm.c,6,none⟩=some (.int .i64 (y.id:Int)):=(H.out.conn HQ.out).con.cell 6;have f6:=(H.out.conn HQ.out).con.frozen 6;have IDN:=qH (id_nd H.out HQ.out (y.id+1));rw[←hiv] at IDN;have HIV2:=qH hiv;have hcin:=H.out.cin HQ.out cm.c (by simp[cfoot]);have X2:Hid (Blk (wd2.setCell ⟨cm.c,6,none⟩ (.int .i64 iv)) m 50 CS):=qH (X.out.far (p:=⟨cm.c,6,none⟩) (fun e=>HMF.out (by rw[e];exact hcin)) (.int .i64 iv))
   have HX2:Hid (SgAt S (wd2.setCell ⟨cm.c,6,none⟩ (.int .i64 iv)) s x):=qH (HX.out.only2 (Only.setCell (bs:=[cm.c]) wd2 ⟨cm.c,6,none⟩ (.int .i64 iv) (by simp)) (fun b hb _ z=>HSF.out b hb (by rw[List.mem_singleton.1 z];exact hcin)));clear hci hiv hcin X HX HSF HMF H;go_upto_region 10 with fail
   clear c6 f6 hw6;generalize wd2.setCell ⟨cm.c,6,none⟩ (.int .i64 iv)=w6 at *;have GS:=qH (getS a k { y with id:=y.id+1 } cm);obtain⟨a1,ha1⟩:∃ q,q=setA a k { y with id:=y.id+1 } cm:=⟨_,rfl⟩;rw[←ha1] at IDN GS;have HA1:Hid (a1.g=a.g):=qH (by rw[ha1];rfl);have H6:=qH IDN.out.1;have T6:=qH (T.out.trans IDN.out.2);clear IDN T ha1;have c6:w6.cell? ⟨cm.c,6,none⟩=some (.int .i64 iv):=by rw[HIV2.out];exact(H6.out.conn GS.out).con.cell 6
   go_upto_region 12 with fail
   go_wp2_with (refine wpList_load_blk rfl 50 _ rfl m rfl CS 50 _ X2.out Tryz.underlying50 rfl (by rw[HSZ.out];exact info26) ?_);refine(CE.out w6 HX2.out).mono ?_;rintro e w7 ⟨rfl,b7⟩;replace H6:=qH (H6.out.below b7);replace T6:=qH (T6.out.trans (Trail.below a1 b7));clear b7 X2 HX2 CE c6;have c6:w7.cell? ⟨cm.c,6,none⟩=some (.int .i64 iv):=by rw[HIV2.out];exact(H6.out.conn GS.out).con.cell 6
   have CC:=qH (Fr.cut_ok iv (encB s) 4096 w7 (by have:=HIV.out;omega) (by have:=HIV.out;omega) (by omega) (by omega) (by have:=HDZ.out;omega));rw[cut_one _ _ HDZ.out] at CC;go_wp2_with fail;refine CC.out.mono ?_;rintro e w8 ⟨v,rfl,hsl,b8⟩;replace H6:=qH (H6.out.below b8);replace T6:=qH (T6.out.trans (Trail.below a1 b8));clear b8 CC c6 hci2;obtain⟨gq,cap,rfl⟩:∃ gq cap,v = .slice (some ⟨gq,0,none⟩) 1 cap:=by
    rcases hsl.form with ⟨_,e⟩|⟨g',c',e,_⟩
    ·
     cases e
    ·
     exact⟨g',c',e⟩
   have k0:w8.cell? ⟨gq,0,none⟩=some (.int .i64 iv):=hsl.cell Fr.fc_len 0 0 (by simp) (by omega);have k1:w8.cell? ⟨gq,1,none⟩=some (.bool true):=hsl.cell Fr.fc_len 0 1 (by simp) (by omega);have k2:w8.cell? ⟨gq,2,none⟩=some (.int .i64 1):=hsl.cell Fr.fc_len 0 2 (by simp) (by omega);have k3:w8.cell? ⟨gq,3,none⟩=some (.string (encB s)):=hsl.cell Fr.fc_len 0 3 (by simp) (by omega);have hvb:Fr.validB ((y.id+1:Nat):Int) ((1:Nat):Int) (encB s)=true:=by
    unfold Fr.validB;rw[decide_eq_true_iff]
    have:=HIV.out
    have:=HIV2.out
    have:=HDZ.out
    omega
   have CP:=qH (fun W=>Fr.put_ok (y.id+1) 1 true (encB s) W hvb);rw[←HIV2.out] at CP;have w1:IntKind.i64.wrap 1=1:=by kernel_rfl
   obtain⟨eb,heb⟩:∃ q,q=encB s:=⟨_,rfl⟩;rw[←heb] at CP k3 ⊢;have HEB:=qH heb;clear heb hvb hsl;go_wp2_with fail;go_loopw [111] (fun i wr=>(i = .int .i64 0∧wr=w8)∨(i = .int .i64 1∧Hid (∃ a',NdAt wr base RN a'∧Trail w wr a a'))) (fun i _=>1-(intOf i).toNat)
   case atStart=>exact .inl ⟨rfl,rfl⟩
   case round=>
    rcases hrel with ⟨rfl,rfl⟩|⟨rfl,HD⟩
    ·
     go_upto_region 17 with fail
     have AL:=(Below.refl wr.heap.size wr).alloc (Nat.le_refl _) (.cells #[.int .i64 iv,.bool true,.int .i64 1,.string eb] 117);have X9:=Blk.new wr 117 #[.int .i64 iv,.bool true,.int .i64 1,.string eb];replace H6:=qH (H6.out.below AL);replace T6:=qH (T6.out.trans (Trail.below a1 AL));obtain⟨bx,hbx⟩:∃ q,q=wr.heap.size:=⟨_,rfl⟩;rw[←hbx] at X9 ⊢;clear k0 k1 k2 k3 AL;generalize wr.alloc (.cells #[.int .i64 iv,.bool true,.int .i64 1,.string eb] 117)=w9 at *
     have x0:w9.cell? ⟨bx,0,none⟩=some (.int .i64 iv):=X9.cell 0;have x1:w9.cell? ⟨bx,1,none⟩=some (.bool true):=X9.cell 1;have x2:w9.cell? ⟨bx,2,none⟩=some (.int .i64 1):=X9.cell 2;have x3:w9.cell? ⟨bx,3,none⟩=some (.string eb):=X9.cell 3;clear X9 hbx;go_wp2_with fail;refine(CP.out w9).mono ?_;rintro e w10 ⟨rfl,b10⟩;replace H6:=qH (H6.out.below b10);replace T6:=qH (T6.out.trans (Trail.below a1 b10))
     clear b10 CP x0 x1 x2 x3;have CT:=qH (tell_nd H6.out k { y with id:=y.id+1 } cm (H6.out.conn GS.out) 70 (Fr.encF true (y.id+1) 1 eb) (by rw[Fr.enc_size,HEB.out];have:=HDZ.out;omega) (by unfold setC;simp only;have:=HL.out;omega));rw[HA1.out] at CT;unfold ptrV at CT;go_wp2_with fail;refine CT.out.mono ?_;rintro e w11 ⟨rfl,v,h1,h2⟩;have HD:Hid (∃ a',NdAt w11 base RN a'∧Trail w w11 a a'):=qH ⟨_,by rw[←HRN.out,←HEB.out];exact h1,T6.out.trans h2⟩
     clear h1 h2 CT H6 T6;go_wp2_with fail;go_roundw
     case rel=>exact .inr ⟨rfl,HD⟩
     case measure=>simp[intOf]
    ·
     go_wp2_with fail;go_ret;exact⟨rfl,HD.out⟩
end Go.Proofs.YtoaimoemaoinhaaGreatDoor
namespace Go.Proofs.YtoaimoemaoinhaaGreatDoor.Fr
open Go.RowKit Go.Rt Go.Rw Go.Mp Go.Lib
abbrev fragV (f:FragD):Value:=.agg #[.int .i64 f.1,.bool f.2.1,.int .i64 f.2.2.1,.string f.2.2.2]
abbrev noV : Value:=.agg #[.int .i64 0,.bool false,.int .i64 0,.string ⟨#[]⟩]
theorem getF_no {b:ByteArray} (h:(formB b&&validB (valK b 2 8) (valK b 10 8) (tailD b))=false):getF b=((0,false,0,ByteArray.empty),6):=by unfold getF;rw[h];rfl
theorem form_short {b:ByteArray} (h:b.size<18):formB b=false:=by unfold formB;rw[show decide (18≤b.size)=false by simp;omega];rfl
theorem getD_at {b:ByteArray} {k:Nat} (h:k<b.size):b.data.getD k 0=b[k]:=by
 have hd:k<b.data.size:=h;unfold Array.getD;rw[dif_pos hd];rfl
theorem u8_nat (a:UInt8) (n:Nat) (hn:n<256):(a=UInt8.ofNat n)↔a.toNat=n:=by
 rw[←UInt8.toNat_inj,UInt8.toNat_ofNat',Nat.mod_eq_of_lt hn]
theorem form_iff {b:ByteArray} (h:18≤b.size):formB b=true↔b[0].toNat=131∧(b[1].toNat=69∨b[1].toNat=70):=by
 unfold formB;rw[getD_at (show 0<b.size by omega),getD_at (show 1<b.size by omega)];simp only[Bool.and_eq_true,decide_eq_true_eq,Bool.or_eq_true,beq_iff_eq];have e0:=u8_nat b[0] 131 (by omega);have e1:=u8_nat b[1] 69 (by omega);have e2:=u8_nat b[1] 70 (by omega);constructor
 ·
  rintro⟨_,q1,q2⟩;exact⟨e0.1 q1,q2.imp e1.1 e2.1⟩
 ·
  rintro⟨q1,q2⟩;exact⟨h,e0.2 q1,q2.imp e1.2 e2.2⟩
set_option maxHeartbeats 1000000 in
theorem get_form (b:ByteArray) (w:World) (hs:b.size≤9223372036854775807) (h:formB b=false) :
  Calls Tryz.prog 77 #[.string b] w fun e w'=>e = .returned (.tuple #[noV,.int .i64 6])∧Below w.heap.size w w':=by
 by_cases h1:b.size<18
 ·
  have h1':(b.size:Int)<18:=by omega
  clear h;go_enter Tryz.func77,Tryz.ntmps77;go_wp2_with fail;refine bodyPost_ret (v:=.tuple #[noV,.int .i64 6]) (by simp[results,Tryz.results77,go_sem]) rfl ⟨rfl,(Below.refl _ _).alloc (Nat.le_refl _) _⟩
 ·
  have h1':¬(b.size:Int)<18:=by omega
  have hb0:0<b.size:=by omega
  have hb1:1<b.size:=by omega
  have hf:¬(b[0].toNat=131∧(b[1].toNat=69∨b[1].toNat=70)):=by rw[←form_iff (by omega),h];simp
  clear h
  by_cases h2:b[0].toNat=131
  ·
   have h2':((b[0].toNat:Int) != 131)=false:=by simp;omega
   have h3:b[1].toNat≠69∧b[1].toNat≠70:=by
    constructor
    ·
     intro e;exact hf ⟨h2,.inl e⟩
    ·
     intro e;exact hf ⟨h2,.inr e⟩
   have h4:((b[1].toNat:Int) != 69)=true:=by rw[bne_iff_ne];omega
   have h5:((b[1].toNat:Int) != 70)=true:=by rw[bne_iff_ne];omega
   clear hf h2 h3;go_enter Tryz.func77,Tryz.ntmps77;go_wp2_with fail;refine bodyPost_ret (v:=.tuple #[noV,.int .i64 6]) (by simp[results,Tryz.results77,go_sem]) rfl ⟨rfl,(Below.refl _ _).alloc (Nat.le_refl _) _⟩
  ·
   have h2':((b[0].toNat:Int) != 131)=true:=by rw[bne_iff_ne];omega
   clear hf h2;go_enter Tryz.func77,Tryz.ntmps77;go_wp2_with fail;refine bodyPost_ret (v:=.tuple #[noV,.int .i64 6]) (by simp[results,Tryz.results77,go_sem]) rfl ⟨rfl,(Below.refl _ _).alloc (Nat.le_refl _) _⟩
theorem below_drewN {n:Nat} {a b:World} (h:Below n a b) (k:Nat):Below n a (b.drewN k):=⟨h.os,h.tape,h.output,h.size,h.block⟩
theorem read_q (s:ByteArray) (w:World) (hs:8≤s.size) (hs2:s.size≤9223372036854775807) :
  Calls Tryz.prog 132 #[.string s] w fun e w'=>e = .returned (.int .u64 (valK s 0 8))∧w'=w:=(read_any s w hs hs2).mono fun _ _ ⟨h1,h2⟩=>⟨h1,h2.symm⟩
set_option maxHeartbeats 1000000 in
theorem get_rest (b:ByteArray) (w:World) (hs:b.size≤9223372036854775807) (h:formB b=true) :
  Calls Tryz.prog 77 #[.string b] w fun e w'=>e = .returned (.tuple #[fragV (getF b).1,.int .i64 (getF b).2])∧Below w.heap.size w w':=by
 have h1:18≤b.size:=by
  rcases Nat.lt_or_ge b.size 18 with q|q
  ·
   rw[form_short q] at h;cases h
  ·
   exact q
 have h1':¬(b.size:Int)<18:=by omega
 have hb0:0<b.size:=by omega
 have hb1:1<b.size:=by omega
 obtain⟨f1,f2⟩:=(form_iff h1).1 h;have h2':((b[0].toNat:Int) != 131)=false:=by simp;omega
 have z2:(b.extract 2 b.size).size=b.size-2:=by rw[ByteArray.size_extract];omega
 have z10:(b.extract 10 b.size).size=b.size-10:=by rw[ByteArray.size_extract];omega
 have r2:8≤(b.extract 2 b.size).size:=by omega
 have r10:8≤(b.extract 10 b.size).size:=by omega
 have r2':(b.extract 2 b.size).size≤9223372036854775807:=by omega
 have r10':(b.extract 10 b.size).size≤9223372036854775807:=by omega
 have C2:=qH (fun W=>read_q (b.extract 2 b.size) W r2 r2');have C10:=qH (fun W=>read_q (b.extract 10 b.size) W r10 r10');rw[valK_extract b 2 8 (by omega)] at C2;rw[valK_extract b 10 8 (by omega)] at C10;have HF:=qH h;have l2:=valK_lt b 2 8;have l10:=valK_lt b 10 8;have HV:Hid (getF b=if validB (valK b 2 8) (valK b 10 8) (tailD b)=true then (((valK b 2 8:Int),getD1 b,(valK b 10 8:Int),tailD b),0) else ((0,false,0,ByteArray.empty),6)):=by
  refine qH ?_;unfold getF;rw[h,Bool.true_and]
 have HD1:Hid (getD1 b=(b[1].toNat==69)):=by
  refine qH ?_;unfold getD1;rw[getD_at hb1,Bool.eq_iff_iff,beq_iff_eq,beq_iff_eq];exact u8_nat b[1] 69 (by omega)
 obtain⟨i,hi⟩:∃ i,i=valK b 2 8:=⟨_,rfl⟩;obtain⟨l,hl⟩:∃ l,l=valK b 10 8:=⟨_,rfl⟩;rw[←hi] at C2 HV l2;rw[←hl] at C10 HV l10;simp only[Nat.reducePow] at l2 l10;clear h z2 z10 r2 r2' r10 r10' f1 hi hl;have hb1':b[1].toNat=69∨b[1].toNat=70:=f2;have hts:(tailD b).size≤9223372036854775807:=by unfold tailD;rw[ByteArray.size_extract];omega
 have htd:tailD b=b.extract 18 b.size:=rfl;have h4:((b[1].toNat:Int) != 69) = !(getD1 b):=by
  rw[HD1.out,Bool.eq_iff_iff];simp;omega
 have h6:((b[1].toNat:Int)==69)=getD1 b:=by
  rw[HD1.out,Bool.eq_iff_iff];simp;omega
 have h5:getD1 b=false→((b[1].toNat:Int) != 70)=false:=by
  intro e;rw[HD1.out] at e
  have:b[1].toNat=70:=by
   rcases f2 with q|q
   ·
    rw[q] at e;cases e
   ·
    exact q
  simp;omega
 obtain⟨fi,hfi⟩:∃ fi,fi=getD1 b:=⟨_,rfl⟩;obtain⟨td,htdd⟩:∃ td,td=b.extract 18 b.size:=⟨_,rfl⟩;rw[←hfi] at h4 h5 h6 HV;rw[htd,←htdd] at HV hts;have HTD:=qH htdd;clear hb1' f2 HD1 htd hfi htdd
 by_cases c1:i≤2147483647
 ·
  by_cases c2:l≤262144
  ·
   have c1':¬(2147483647:Int)<i:=by omega
   have c2':¬(262144:Int)<l:=by omega
   have w1:IntKind.i64.wrap (i:Int)=i:=by rw[IntKind.wrap_i64];omega
   have w2:IntKind.i64.wrap (l:Int)=l:=by rw[IntKind.wrap_i64];omega
   have hvv:Hid (∀ W,Calls Tryz.prog 84 #[fragV (i,fi,l,td)] W fun e w'=>e = .returned (.bool (validB i l td))∧Below W.heap.size W w'):=by
    refine qH fun W=>?_
    cases hv:validB i l td
    ·
     exact valid_no i l fi td W hts hv
    ·
     exact valid_yes i l fi td W hv
   have HVF:Hid (fragV (getF b).1=(if validB i l td=true then fragV (i,fi,l,td) else noV)∧(getF b).2=if validB i l td=true then 0 else 6):=by
    refine qH ?_;rw[HV.out];cases hv:validB i l td<;>exact⟨rfl,rfl⟩
   obtain⟨RV,hRV⟩:∃ R,R=fragV (getF b).1:=⟨_,rfl⟩;obtain⟨RE,hRE⟩:∃ R,R=(getF b).2:=⟨_,rfl⟩;rw[←hRV,←hRE] at HVF;rw[←hRV,←hRE];obtain⟨vb,hvb⟩:∃ vb,vb=validB i l td:=⟨_,rfl⟩;rw[←hvb] at hvv HVF;clear HV hRV hRE hvb;cases fi
   all_goals
    simp only[Bool.not_false,Bool.not_true,forall_const,Bool.true_eq_false,false_implies] at h4 h5 h6;go_enter Tryz.func77,Tryz.ntmps77;go_wp2_with fail;go_quiet ((first|(go_at_call_of 132 (Value.string (b.extract 2 b.size));exact Calls.quiet_of_same (C2.out _))|(go_at_call 132;exact Calls.quiet_of_same (C10.out _))));go_wp2_with fail;obtain⟨W1,hW1⟩:∃ W1,W1=(w.alloc (.cells #[.int .i64 0,.bool false,.int .i64 0,.string ⟨#[]⟩] 117)).drewN nq:=⟨_,rfl⟩
    have r1:W1.heap[w.heap.size]? = some (.cells #[.int .i64 0,.bool false,.int .i64 0,.string ⟨#[]⟩] 117 (0,0)):=by rw[hW1];exact World.alloc_heap_new w _
    have bW:Hid (Below w.heap.size w W1):=by rw[hW1];exact qH (below_drewN ((Below.refl _ w).alloc (Nat.le_refl _) _) _)
    have sz:w.heap.size<W1.heap.size:=(Array.getElem?_eq_some_iff.1 r1).1;rw[←hW1];have HR1:=qH r1;clear hW1 r1;go_region_held3 (fun _=>True) (trivial) (fail)
    all_goals
     go_wp2_with fail;rw[←HTD.out];refine(hvv.out _).mono ?_;rintro e w2 ⟨rfl,b2⟩;have qS:=(b2.block W1.heap.size (by simp)).trans (World.alloc_heap_new W1 _);have qR:=(b2.block w.heap.size (by simp;omega)).trans ((Below.heap_alloc W1 _ _ sz).trans HR1.out);have BF:Below w.heap.size w w2:=bW.out.trans (((Below.refl w.heap.size W1).alloc (by omega) _).drew.trans (b2.mono (by simp;omega)));have u0:=cell_at qS 0
     have u1:=cell_at qS 1;have u2:=cell_at qS 2;have u3:=cell_at qS 3;have v0:=cell_at qR 0;have v1:=cell_at qR 1;have v2:=cell_at qR 2;have v3:=cell_at qR 3;simp only[List.getElem?_toArray,List.getElem?_cons_zero,List.getElem?_cons_succ] at u0 u1 u2 u3 v0 v1 v2 v3;have hfz:∀ j,w2.frozen? ⟨w.heap.size,j,none⟩=false:=by intro j;simp[World.frozen?,qR]
     have f0:=hfz 0;have f1:=hfz 1;have f2:=hfz 2;have f3:=hfz 3;have HBF:=qH BF;clear b2 qS qR BF hfz;cases vb
     ·
      obtain⟨e1,e2⟩:=HVF.out;simp only[Bool.false_eq_true,if_false] at e1 e2;subst e1 e2;go_wp2_with fail;refine bodyPost_ret (v:=.tuple #[noV,.int .i64 6]) (by simp[results,Tryz.results77,go_sem, *]) rfl ⟨rfl,?_⟩;exact(((HBF.out.setCell (by simp) _).setCell (by simp) _).setCell (by simp) _).setCell (by simp) _
     ·
      obtain⟨e1,e2⟩:=HVF.out;simp only[if_true] at e1 e2;subst e1 e2;go_wp2_with fail;refine bodyPost_ret (v:=.tuple #[fragV (i,_,l,td),.int .i64 0]) (by simp[results,Tryz.results77,go_sem, *]) rfl ⟨rfl,?_⟩;exact(((HBF.out.setCell (by simp) _).setCell (by simp) _).setCell (by simp) _).setCell (by simp) _
  ·
   have c1':¬(2147483647:Int)<i:=by omega
   have c2':(262144:Int)<l:=by omega
   have e:getF b=((0,false,0,ByteArray.empty),6):=by
    rw[HV.out,if_neg];simp[validB];omega
   rw[e];clear e;cases fi
   all_goals
    simp only[Bool.not_false,Bool.not_true,forall_const,Bool.true_eq_false,false_implies] at h4 h5 h6;go_enter Tryz.func77,Tryz.ntmps77;go_wp2_with fail;go_quiet ((first|(go_at_call_of 132 (Value.string (b.extract 2 b.size));exact Calls.quiet_of_same (C2.out _))|(go_at_call 132;exact Calls.quiet_of_same (C10.out _))));go_wp2_with fail;refine bodyPost_ret (v:=.tuple #[noV,.int .i64 6]) (by simp[results,Tryz.results77,go_sem]) rfl ⟨rfl,?_⟩
    exact((((below_drewN ((Below.refl _ w).alloc (Nat.le_refl _) _) _).setCell (by simp) _).setCell (by simp) _).setCell (by simp) _).setCell (by simp) _
 ·
  have c1':(2147483647:Int)<i:=by omega
  have e:getF b=((0,false,0,ByteArray.empty),6):=by
   rw[HV.out,if_neg];simp[validB];omega
  rw[e];clear e;cases fi
  all_goals
   simp only[Bool.not_false,Bool.not_true,forall_const,Bool.true_eq_false,false_implies] at h4 h5 h6;go_enter Tryz.func77,Tryz.ntmps77;go_wp2_with fail;go_quiet ((first|(go_at_call_of 132 (Value.string (b.extract 2 b.size));exact Calls.quiet_of_same (C2.out _))|(go_at_call 132;exact Calls.quiet_of_same (C10.out _))));go_wp2_with fail;refine bodyPost_ret (v:=.tuple #[noV,.int .i64 6]) (by simp[results,Tryz.results77,go_sem]) rfl ⟨rfl,?_⟩
   exact((((below_drewN ((Below.refl _ w).alloc (Nat.le_refl _) _) _).setCell (by simp) _).setCell (by simp) _).setCell (by simp) _).setCell (by simp) _
theorem get_any (b:ByteArray) (w:World) (hs:b.size≤9223372036854775807) :
  Calls Tryz.prog 77 #[.string b] w fun e w'=>e = .returned (.tuple #[fragV (getF b).1,.int .i64 (getF b).2])∧Below w.heap.size w w':=by
 cases h:formB b
 ·
  rw[getF_no (by rw[h];rfl)];exact get_form b w hs h
 ·
  exact get_rest b w hs h
end Go.Proofs.YtoaimoemaoinhaaGreatDoor.Fr
