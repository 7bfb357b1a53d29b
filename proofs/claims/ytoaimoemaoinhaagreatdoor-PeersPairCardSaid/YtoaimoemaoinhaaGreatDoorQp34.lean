/- PeersX: a part of the proof. No condition beyond the premises of each theorem. -/
import Derived.Test.YtoaimoemaoinhaaGreatDoorQp26
import Derived.Test.YtoaimoemaoinhaaGreatDoorQp25
import Derived.Test.YtoaimoemaoinhaaGreatDoorQp33
import Derived.Test.YtoaimoemaoinhaaGreatDoorQp22
import Derived.Test.YtoaimoemaoinhaaGreatDoorQp07
import Derived.Test.YtoaimoemaoinhaaGreatDoorQp30
import Derived.Test.YtoaimoemaoinhaaGreatDoorQp21
import Derived.Test.YtoaimoemaoinhaaGreatDoorQp28
import Derived.Test.YtoaimoemaoinhaaGreatDoorQp32
import Derived.Test.YtoaimoemaoinhaaGreatDoorQp00
set_option maxRecDepth 100000
namespace Go.Proofs.YtoaimoemaoinhaaGreatDoor
open Go Go.RowKit Go.Rt Go.Rw Go.Mp
theorem feed_one {base G m:Nat} (w:World) (h:Fr.GA w base G m []) (id:Int) (data:ByteArray) (hv:Fr.validB id 1 data=true) :
  Calls Tryz.prog 78 #[.pointer (some ⟨G,0,none⟩),.agg #[.int .i64 id,.bool true,.int .i64 1,.string data]] w fun e w'=>e = .returned (.tuple #[.string data,.bool true,.int .i64 0])∧Fr.GA w' base G m []∧Only [m] w w':=by
 have hds:data.size≤4096:=(Fr.valid_of hv).2.2.2.2;refine(Fr.feed_end1 w h id 1 data hv (.slice none 0 0) 0 ?_ ⟨_,_,_,rfl⟩ ByteArray.empty (Fr.nilrow _ _) (fun g e=>by cases e) h.bz (by simp;omega) (by omega)).mono fun e w' ⟨h1,v',h2⟩=>⟨?_,h.alike (fun _ q=>by cases q) h2,h2.only⟩
 ·
  intro w' hb
  have:=(h.below hb).looks id
  exact this
 ·
  rw[h1,ByteArray.empty_append]
def sigE (k:ByteArray) (s:Sg):Ev:=⟨2,k,0,s⟩
theorem sg_one {S:Nat→Prop} {w:World} {s:Sg} {x:Sf} (h:SgAt S w s x):(sgC s x).toArray.all (·.oneCell')=true:=by
 have a:=ft_one h.fr;have b:=ft_one h.tt;have c:=ft_one h.ref;have d:=ft_one h.val;simp only[sgC,ftC,List.cons_append,List.nil_append,List.all_toArray,List.all_cons,List.all_nil,a,b,c,d];rfl
theorem gat_nd {w w':World} {base:Nat} {n:Nd} {a:Nm} (h:NdAt w base n a) {k:ByteArray} {x:Cx} {m:Cm} (hx:get a.C k=some (x,m)) {G mm:Nat} (hq:m.gat=some (G,mm,[])) (hms:x.ms = []) (hG:Fr.GA w' base G mm []) (o:Only [mm] w w') :
  NdAt w' base (setC n k x) (setA a k x m)∧Trail w w' a (setA a k x m):=by
 have hn:=h.cnod hx;have hc:=h.conn hx;refine set_nd h hx o (fun b hb=>by rw[List.mem_singleton.1 hb];simp[cfoot,hq,gfoot,Fr.foot]) x m ⟨hc.con.only o ?_,hc.side.only o ?_,?_⟩ rfl hn (fun b hb=>.inl hb)
 ·
  intro z;rw[List.mem_singleton] at z;unfold cfoot at hn;rw[hq] at hn;simp[gfoot,Fr.foot,z] at hn
 ·
  intro z;rw[List.mem_singleton] at z;unfold cfoot at hn;rw[hq] at hn;simp[gfoot,Fr.foot,z] at hn
 ·
  rw[hq];exact⟨hG,hms.symm⟩
set_option maxHeartbeats 8000000 in
theorem gathers_sig {w:World} {base:Nat} {n:Nd} {a:Nm} (h:NdAt w base n a) (k:ByteArray) (x:Cx) (m:Cm) (hx:get a.C k=some (x,m)) (hg:x.gen≠0) (hms:x.ms = []) (cont data:ByteArray) (id:Int) (hcs:cont.size≤100000) (hv:Fr.validB id 1 data=true)
  (hF:Fr.getF cont=((id,true,1,data),0)) (s:Sg) (hD:decR data=(s,0)) (hs:srcS s=k) (hu:hasU (usesF s.k) 0=true) (hgn:s.fr.f.g=x.gen) (ht:tgtS s=n.nm) :
  Calls Tryz.prog 42 #[ptrV a.g,ptrV m.c,.string cont] w (Done w base a (setC n k x) [sigE k s]):=by
 obtain⟨c0,-,c4⟩:=lookB (h.conn hx);have hgat:=(h.conn hx).gat;obtain⟨⟨G,mm,O⟩,hq⟩:∃ q,m.gat=some q:=by
  cases e:m.gat with
  | none=>rw[e] at hgat;exact absurd hgat.2 hg
  | some q=>exact⟨q,rfl⟩
 have c5:w.cell? ⟨m.c,5,none⟩=some (.pointer (some ⟨G,0,none⟩)):=by
  have:=(h.conn hx).con.cell 5
  rw[hq] at this;exact this
 rw[hq] at hgat;obtain⟨hGA,hO⟩:=hgat;rw[hms] at hO;obtain rfl:O = []:=List.map_eq_nil_iff.1 hO;have CG:=qH (Fr.get_any cont w (by omega));rw[hF] at CG;have CF:=qH (fun W (b:Below w.heap.size w W)=>feed_one W (hGA.below b) id data hv);have CD:=qH (fun W=>pdecode10 data (by have:=(Fr.valid_of hv).2.2.2.2;omega) W);rw[hD] at CD;have HN:Hid (∀ W W',Below w.heap.size w W→Only [mm] W W'→Fr.GA W' base G mm []→NdAt W' base (setC n k x) (setA a k x m)∧Trail w W' a (setA a k x m)):=qH (fun W W' b o q=>by
  obtain⟨h1,h2⟩:=gat_nd (h.below b) hx hq hms q o;exact⟨h1,(Trail.below a b).trans h2⟩)
 have HGN:Hid (((x.gen:Int)==0)=false):=qH (by rw[beq_eq_false_iff_ne];omega);have HS:=qH hs;have HT:=qH ht;have HU:=qH hu;have HGS:=qH hgn;have HB0:=qH (show m.c<w.heap.size from(h.conn hx).con.lt);have HMM:Hid (m.c≠mm):=qH (by
  have hn:=h.cnod hx;unfold cfoot at hn;rw[hq] at hn;rintro e;simp[gfoot,Fr.foot,e] at hn)
 have HML:=qH (show mm<w.heap.size from hGA.mp.lt);have HCN:Hid (Blk w m.c 93 (cnC k x.dials x.num (ptrV m.B) (x.gen:Int) (.pointer (some ⟨G,0,none⟩)) (x.id:Int))):=qH (by have:=(h.conn hx).con;rw[hq] at this;exact this);clear h hx hg hms hF hcs hD hs hu hgn ht hO hGA hq hv;unfold ptrV at *;have hgn:=HGN.out;go_enter Tryz.func42,Tryz.ntmps42;go_wp2_with fail;refine CG.out.mono ?_;rintro e w1 ⟨rfl,b1⟩
 have B1:=qH b1;clear b1 CG c0 c4 hgn;unfold Fr.fragV;go_upto_region 6 with fail
 have X:=qH (Blk.new w1 117 #[.int .i64 id,.bool true,.int .i64 1,.string data]);have B2:=qH (B1.out.alloc B1.out.size (.cells #[.int .i64 id,.bool true,.int .i64 1,.string data] 117));obtain⟨bf,hbf⟩:∃ q,q=w1.heap.size:=⟨_,rfl⟩;have HBF:=qH hbf;rw[←hbf] at X ⊢;generalize w1.alloc (.cells #[.int .i64 id,.bool true,.int .i64 1,.string data] 117)=w2 at *;clear hbf;have d5:Hid (w2.cell? ⟨m.c,5,none⟩=some (.pointer (some ⟨G,0,none⟩))):=qH ((B2.out.cell (p:=⟨m.c,5,none⟩) HB0.out).trans c5)
 clear c5;refine wp_region_held_drew (S:=(fun w'=>w'.cell? ⟨m.c,5,none⟩=some (.pointer (some ⟨G,0,none⟩))∧Blk w' bf 117 #[.int .i64 id,.bool true,.int .i64 1,.string data])) (by kernel_rfl) (⟨d5.out,X.out.drew⟩) (fun hS=>?_);replace B2:=qH B2.out.drew;replace X:=qH X.out.drew;generalize w2.drew=wd at *;refine tl 0 31 (v:=?_) rfl ?_ ?_;rotate_left
 ·
  intro w hSw;go_simp
  with_reducible rfl
 simp only[PU];refine tl 1 32 (v:=?_) rfl ?_ ?_;rotate_left
 ·
  intro w hSw;go_simp
  with_reducible rfl
 simp only[PU];refine tl 2 33 (v:=?_) rfl ?_ ?_;rotate_left
 ·
  intro w hSw;go_simp
  with_reducible rfl
 simp only[PU];refine tl 3 34 (v:=?_) rfl ?_ ?_;rotate_left
 ·
  intro w hSw;have a0:=hSw.1;go_simp
  with_reducible rfl
 simp only[PU];refine tl 4 35 (v:=?_) rfl ?_ ?_;rotate_left
 ·
  intro w hSw;refine exec_load_blk 117 (.tmp 7) ?_ bf ?_ #[.int .i64 id,.bool true,.int .i64 1,.string data] 117 _ hSw.2 Tryz.underlying117 rfl (by kernel_rfl)
  all_goals rfl
 simp only[PU];refine wpAnyH_ready (rs:=[5]) (by kernel_rfl) (by simp) ?_;refine AllReadyH.cons rfl (fun K hK=>?_) AllReadyH.nil;go_simp;refine(CF.out wd B2.out).mono ?_;rintro e w3 ⟨rfl,q1,q2⟩;have HNW:=qH (HN.out wd w3 B2.out q2 q1);have HCW:=qH ((HCN.out.below B2.out HB0.out).only q2 (by simp;exact HMM.out));have d5':w3.cell? ⟨m.c,5,none⟩=some (.pointer (some ⟨G,0,none⟩)):=HCW.out.cell 5;have X':=X.out.only q2 (by simp;have:=HBF.out;have:=B1.out.size;have:=HML.out;omega)
 have HW3:=qH HNW.out.2.only.size;have HNW0:Hid (w3.cell? ⟨a.g,0,none⟩=some (.string n.nm)):=qH (HNW.out.1.pm.blk.cell 0);clear q1 q2 CF;go_wp2_with fail;refine hK.out _ _ (⟨d5',X'⟩) (fun hS=>?_);clear hK K
 try simp only[PU]
 refine tl 6 30 (v:=?_) rfl ?_ ?_;rotate_left
 ·
  intro w hSw;go_simp
  with_reducible rfl
 simp only[PU];refine tl 7 37 (v:=?_) rfl ?_ ?_;rotate_left
 ·
  intro w hSw;go_simp
  with_reducible rfl
 simp only[PU];refine tl 8 38 (v:=?_) rfl ?_ ?_;rotate_left
 ·
  intro w hSw;go_simp
  with_reducible rfl
 simp only[PU];refine tl 9 39 (v:=?_) rfl ?_ ?_;rotate_left
 ·
  intro w hSw;go_simp
  with_reducible rfl
 simp only[PU];refine tl 10 9 (v:=?_) rfl ?_ ?_;rotate_left
 ·
  intro w hSw;go_simp
  with_reducible rfl
 simp only[PU];refine tl 11 10 (v:=?_) rfl ?_ ?_;rotate_left
 ·
  intro w hSw;go_simp
  with_reducible rfl
 simp only[PU];refine tl 12 8 (v:=?_) rfl ?_ ?_;rotate_left
 ·
  intro w hSw;go_simp
  with_reducible rfl
 simp only[PU];refine wpAnyH_done (by kernel_rfl) ?_ _;clear hS;clear d5' X' X d5 HBF B1 B2 HML HMM HN;go_wp2_with fail;refine(CD.out w3).mono ?_;rintro e w4 ⟨b4,xs,he,hsg⟩;dsimp only at he hsg;subst he;have HSG:=qH hsg;have NW4:=qH (HNW.out.1.below b4);have TW4:=qH (HNW.out.2.trans (Trail.below _ b4));have HSX:Hid (xs.a.f.g=(x.gen:Int)):=qH (by rw[HSG.out.fr.its.1,HGS.out]);obtain⟨CS,hCS⟩:∃ q,q=(sgC s xs).toArray:=⟨_,rfl⟩
 have HCS:=qH hCS;have HSV:Hid (sgV s xs = .agg CS):=qH (by rw[hCS];rfl);have HSZ:Hid (CS.size=40):=qH (by rw[hCS];rfl);have HC0:Hid (CS[0]? = some (.int .i64 s.k)):=qH (by rw[hCS];rfl);have HC3:Hid (CS[3]? = some (.int .i64 (x.gen:Int))):=qH (by rw[hCS,←HSX.out];rfl);have HC1:Hid (CS.all (·.oneCell')=true):=qH (by rw[hCS];exact sg_one hsg);have CSR:Hid (∀ W,SgAt (fun c=>w3.heap.size≤c) W s xs→Calls Tryz.prog 47 #[.agg CS] W fun e w'=>e = .returned (.string k)∧Below W.heap.size W w'):=qH (fun W q=>by
  have:=srcS_any _ s xs W q
  rw[HSV.out,HS.out] at this;exact this)
 have CTG:Hid (∀ W,SgAt (fun c=>w3.heap.size≤c) W s xs→Calls Tryz.prog 48 #[.agg CS] W fun e w'=>e = .returned (.string n.nm)∧Below W.heap.size W w'):=qH (fun W q=>by
  have:=tgtS_any _ s xs W q
  rw[HSV.out,HT.out] at this;exact this)
 rw[HSV.out];have HCW4:=qH (HCW.out.below b4 HCW.out.lt);clear HSV b4 CD hsg HNW HCW HCN HNW0 hCS;go_upto_region 12 with (refine wpList_store_blk rfl 50 _ _ rfl rfl _ CS _ 50 rfl rfl (Blk.new _ _ _) (HSZ.out.trans rfl) (by rw[HSZ.out];exact info26) HC1.out ?_)
 intro w5 hb5 ho5;obtain⟨bs,hbs⟩:∃ q,q=w4.heap.size:=⟨_,rfl⟩;rw[←hbs] at hb5 ho5 ⊢;have B5:Hid (Below w4.heap.size w4 w5):=qH (((Below.refl w4.heap.size w4).alloc (Nat.le_refl _) _).trans (ho5.below (by simp[hbs]) (by simp)));have X:=qH hb5;have N5:=qH (NW4.out.below B5.out);have T5:=qH (TW4.out.trans (Trail.below _ B5.out));have C5:=qH (HCW4.out.below B5.out HCW4.out.lt);have S5:Hid (SgAt (fun c=>w3.heap.size≤c) w5 s xs):=qH (HSG.out.below B5.out (fun _ _ h=>h))
 have hnn:(k.toList==k.toList)=true:=beq_self_eq_true _;have hb1:(bits BinOp.and IntKind.i64 (usesF s.k) 1 != 0)=true:=HU.out;have hn2:(n.nm.toList==n.nm.toList)=true:=beq_self_eq_true _;clear hb5 ho5 hbs NW4 TW4 HCW4 B5 HSG;go_upto_region 12 with fail
 refine wp_region_held_drew (S:=(fun w'=>Blk w' bs 50 CS∧Blk w' m.c 93 (cnC k x.dials x.num (.pointer (some ⟨m.B,0,none⟩)) (x.gen:Int) (.pointer (some ⟨G,0,none⟩)) (x.id:Int))∧w'.cell? ⟨a.g,0,none⟩=some (.string n.nm))) (by kernel_rfl) (⟨X.out.drew,C5.out.drew,N5.out.pm.blk.drew.cell 0⟩) (fun hS=>?_);replace N5:=qH (N5.out.below (Below.refl w5.heap.size w5).drew);replace T5:=qH (T5.out.trans (Trail.below _ (Below.refl w5.heap.size w5).drew))
 replace S5:=qH (S5.out.below (Below.refl w5.heap.size w5).drew (fun _ _ h=>h));replace X:=qH X.out.drew;replace C5:=qH C5.out.drew;generalize w5.drew=wd2 at *;refine tl 0 54 (v:=?_) rfl ?_ ?_;rotate_left
 ·
  intro w hSw;go_simp
  with_reducible rfl
 simp only[PU];refine tl 1 55 (v:=?_) rfl ?_ ?_;rotate_left
 ·
  intro w hSw;go_simp
  with_reducible rfl
 simp only[PU];refine tl 2 56 (v:=?_) rfl ?_ ?_;rotate_left
 ·
  intro w hSw;go_simp
  with_reducible rfl
 simp only[PU];refine tl 3 57 (v:=?_) rfl ?_ ?_;rotate_left
 ·
  intro w hSw;refine exec_load_blk 50 (.tmp 11) ?_ bs ?_ CS 50 _ hSw.1 Tryz.underlying50 rfl (by rw[HSZ.out];exact info26)
  all_goals rfl
 simp only[PU];refine tl 5 59 (v:=?_) rfl ?_ ?_;rotate_left
 ·
  intro w hSw;go_simp
  with_reducible rfl
 simp only[PU];refine tl 6 60 (v:=?_) rfl ?_ ?_;rotate_left
 ·
  intro w hSw;go_simp
  with_reducible rfl
 simp only[PU];refine tl 7 61 (v:=?_) rfl ?_ ?_;rotate_left
 ·
  intro w hSw;go_simp
  with_reducible rfl
 simp only[PU];refine tl 8 62 (v:=?_) rfl ?_ ?_;rotate_left
 ·
  intro w hSw;have a0:w.cell? ⟨m.c,0,none⟩=some (.string k):=hSw.2.1.cell 0;go_simp
  with_reducible rfl
 simp only[PU];refine wpAnyH_ready (rs:=[4]) (by kernel_rfl) (by simp) ?_;refine AllReadyH.cons rfl (fun K hK=>?_) AllReadyH.nil;go_simp;refine(CSR.out wd2 S5.out).mono ?_;rintro e w6 ⟨rfl,b6⟩;replace N5:=qH (N5.out.below b6);replace T5:=qH (T5.out.trans (Trail.below _ b6));replace S5:=qH (S5.out.below b6 (fun _ _ h=>h));replace X:=qH (X.out.below b6 X.out.lt);replace C5:=qH (C5.out.below b6 C5.out.lt)
 clear b6 hS;go_wp2_with fail;refine hK.out _ _ (⟨X.out,C5.out,N5.out.pm.blk.cell 0⟩) (fun hS=>?_);clear hK K
 try simp only[PU]
 refine tl 9 63 (v:=?_) rfl ?_ ?_;rotate_left
 ·
  intro w hSw;go_simp
  with_reducible rfl
 simp only[PU];refine tl 10 64 (v:=?_) rfl ?_ ?_;rotate_left
 ·
  intro w hSw;go_simp
  with_reducible rfl
 simp only[PU];refine tl 11 65 (v:=?_) rfl ?_ ?_;rotate_left
 ·
  intro w hSw;go_simp
  with_reducible rfl
 simp only[PU];refine tl 12 66 (v:=?_) rfl ?_ ?_;rotate_left
 ·
  intro w hSw;go_simp
  with_reducible rfl
 simp only[PU];refine tl 13 67 (v:=?_) rfl ?_ ?_;rotate_left
 ·
  intro w hSw;have a0:w.cell? ⟨bs,0,none⟩=some (.int .i64 s.k):=(hSw.1.cell 0).trans HC0.out;go_simp
  with_reducible rfl
 simp only[PU];refine wpAnyH_ready (rs:=[14]) (by kernel_rfl) (by simp) ?_;refine AllReadyH.cons rfl (fun K hK=>?_) AllReadyH.nil;go_simp;refine(uses21 s.k w6).mono ?_;rintro e w7 ⟨rfl,b7⟩;replace N5:=qH (N5.out.below b7);replace T5:=qH (T5.out.trans (Trail.below _ b7));replace S5:=qH (S5.out.below b7 (fun _ _ h=>h));replace X:=qH (X.out.below b7 X.out.lt);replace C5:=qH (C5.out.below b7 C5.out.lt)
 clear b7 hS;go_wp2_with fail;refine hK.out _ _ (⟨X.out,C5.out,N5.out.pm.blk.cell 0⟩) (fun hS=>?_);clear hK K
 try simp only[PU]
 refine tl 15 69 (v:=?_) rfl ?_ ?_;rotate_left
 ·
  intro w hSw;go_simp
  with_reducible rfl
 simp only[PU];refine tl 16 70 (v:=?_) rfl ?_ ?_;rotate_left
 ·
  intro w hSw;go_simp
  with_reducible rfl
 simp only[PU];refine tl 17 71 (v:=?_) rfl ?_ ?_;rotate_left
 ·
  intro w hSw;go_simp
  with_reducible rfl
 simp only[PU];refine tl 18 72 (v:=?_) rfl ?_ ?_;rotate_left
 ·
  intro w hSw;go_simp
  with_reducible rfl
 simp only[PU];refine tl 19 73 (v:=?_) rfl ?_ ?_;rotate_left
 ·
  intro w hSw;go_simp
  with_reducible rfl
 simp only[PU];refine tl 20 74 (v:=?_) rfl ?_ ?_;rotate_left
 ·
  intro w hSw;have a0:w.cell? ⟨bs,3,none⟩=some (.int .i64 (x.gen:Int)):=(hSw.1.cell 3).trans HC3.out;go_simp
  with_reducible rfl
 simp only[PU];refine tl 21 75 (v:=?_) rfl ?_ ?_;rotate_left
 ·
  intro w hSw;go_simp
  with_reducible rfl
 simp only[PU];refine tl 22 76 (v:=?_) rfl ?_ ?_;rotate_left
 ·
  intro w hSw;go_simp
  with_reducible rfl
 simp only[PU];refine tl 23 77 (v:=?_) rfl ?_ ?_;rotate_left
 ·
  intro w hSw;go_simp
  with_reducible rfl
 simp only[PU];refine tl 24 78 (v:=?_) rfl ?_ ?_;rotate_left
 ·
  intro w hSw;have a0:w.cell? ⟨m.c,4,none⟩=some (.int .i64 (x.gen:Int)):=hSw.2.1.cell 4;go_simp
  with_reducible rfl
 simp only[PU];refine tl 25 79 (v:=?_) rfl ?_ ?_;rotate_left
 ·
  intro w hSw;go_simp
  with_reducible rfl
 simp only[PU];refine tl 26 80 (v:=?_) rfl ?_ ?_;rotate_left
 ·
  intro w hSw;go_simp
  with_reducible rfl
 simp only[PU];refine tl 27 81 (v:=?_) rfl ?_ ?_;rotate_left
 ·
  intro w hSw;go_simp
  with_reducible rfl
 simp only[PU];refine tl 28 82 (v:=?_) rfl ?_ ?_;rotate_left
 ·
  intro w hSw;go_simp
  with_reducible rfl
 simp only[PU];refine tl 29 83 (v:=?_) rfl ?_ ?_;rotate_left
 ·
  intro w hSw;refine exec_load_blk 50 (.tmp 11) ?_ bs ?_ CS 50 _ hSw.1 Tryz.underlying50 rfl (by rw[HSZ.out];exact info26)
  all_goals rfl
 simp only[PU];refine tl 31 85 (v:=?_) rfl ?_ ?_;rotate_left
 ·
  intro w hSw;go_simp
  with_reducible rfl
 simp only[PU];refine tl 32 86 (v:=?_) rfl ?_ ?_;rotate_left
 ·
  intro w hSw;go_simp
  with_reducible rfl
 simp only[PU];refine tl 33 87 (v:=?_) rfl ?_ ?_;rotate_left
 ·
  intro w hSw;go_simp
  with_reducible rfl
 simp only[PU];refine tl 34 88 (v:=?_) rfl ?_ ?_;rotate_left
 ·
  intro w hSw;go_simp
  with_reducible rfl
 simp only[PU];refine tl 35 89 (v:=?_) rfl ?_ ?_;rotate_left
 ·
  intro w hSw;have a0:w.cell? ⟨a.g,0,none⟩=some (.string n.nm):=hSw.2.2;go_simp
  with_reducible rfl
 simp only[PU];refine wpAnyH_ready (rs:=[30]) (by kernel_rfl) (by simp) ?_;refine AllReadyH.cons rfl (fun K hK=>?_) AllReadyH.nil;go_simp;refine(CTG.out w7 S5.out).mono ?_;rintro e w8 ⟨rfl,b8⟩;replace N5:=qH (N5.out.below b8);replace T5:=qH (T5.out.trans (Trail.below _ b8));replace S5:=qH (S5.out.below b8 (fun _ _ h=>h));replace X:=qH (X.out.below b8 X.out.lt);replace C5:=qH (C5.out.below b8 C5.out.lt)
 clear b8 hS;go_wp2_with fail;refine hK.out _ _ (⟨X.out,C5.out,N5.out.pm.blk.cell 0⟩) (fun hS=>?_);clear hK K
 try simp only[PU]
 refine tl 36 90 (v:=?_) rfl ?_ ?_;rotate_left
 ·
  intro w hSw;go_simp
  with_reducible rfl
 simp only[PU];refine tl 37 91 (v:=?_) rfl ?_ ?_;rotate_left
 ·
  intro w hSw;go_simp
  with_reducible rfl
 simp only[PU];refine wpAnyH_done (by kernel_rfl) ?_ _;clear hS;clear hnn hb1 hn2 HS HT HGS CSR CTG HU;go_upto_region 14 with fail
 refine wp_region_held_drew (S:=(fun w'=>Blk w' bs 50 CS∧Blk w' m.c 93 (cnC k x.dials x.num (.pointer (some ⟨m.B,0,none⟩)) (x.gen:Int) (.pointer (some ⟨G,0,none⟩)) (x.id:Int)))) (by kernel_rfl) (⟨X.out.drew,C5.out.drew⟩) (fun hS=>?_);replace N5:=qH (N5.out.below (Below.refl w8.heap.size w8).drew);replace T5:=qH (T5.out.trans (Trail.below _ (Below.refl w8.heap.size w8).drew));replace S5:=qH (S5.out.below (Below.refl w8.heap.size w8).drew (fun _ _ h=>h))
 generalize w8.drew=wd3 at *;clear X C5;refine tl 0 95 (v:=?_) rfl ?_ ?_;rotate_left
 ·
  intro w hSw;go_simp
  with_reducible rfl
 simp only[PU];refine tl 1 96 (v:=?_) rfl ?_ ?_;rotate_left
 ·
  intro w hSw;go_simp
  with_reducible rfl
 simp only[PU];refine tl 2 97 (v:=?_) rfl ?_ ?_;rotate_left
 ·
  intro w hSw;go_simp
  with_reducible rfl
 simp only[PU];refine tl 3 98 (v:=?_) rfl ?_ ?_;rotate_left
 ·
  intro w hSw;have a0:w.cell? ⟨m.c,0,none⟩=some (.string k):=hSw.2.cell 0;go_simp
  with_reducible rfl
 simp only[PU];refine tl 4 99 (v:=?_) rfl ?_ ?_;rotate_left
 ·
  intro w hSw;refine exec_load_blk 50 (.tmp 11) ?_ bs ?_ CS 50 _ hSw.1 Tryz.underlying50 rfl (by rw[HSZ.out];exact info26)
  all_goals rfl
 simp only[PU];refine tl 5 100 (v:=.agg (evL (sigE k s) xs).toArray) rfl ?_ ?_
 ·
  intro w hSw;have hcs:=HCS.out;subst hcs;change _=_
  kernel_rfl
 simp only[Act.put,List.setIfInBounds_toArray,List.set_cons_zero,List.set_cons_succ,evL,sigE,sgC,ftC,List.cons_append,List.nil_append];refine wpAnyH_ready (rs:=[6]) (by kernel_rfl) (by simp) ?_;refine AllReadyH.cons rfl (fun K hK=>?_) AllReadyH.nil;have AL:=(Below.refl wd3.heap.size wd3).alloc (Nat.le_refl _) (.cells (evL (sigE k s) xs).toArray 97);have D:Hid (EvsAt w.heap.size (wd3.alloc (.cells (evL (sigE k s) xs).toArray 97)) (.slice (some ⟨wd3.heap.size,0,none⟩) 1 1) [sigE k s]∧NdAt (wd3.alloc (.cells (evL (sigE k s) xs).toArray 97)) base (setC n k x) (setA a k x m)∧Trail w (wd3.alloc (.cells (evL (sigE k s) xs).toArray 97)) a (setA a k x m)):=qH
  ⟨EvsAt.new wd3 _ _ _ T5.out.only.size ((S5.out.below AL (fun b _ h=>h)).mono (fun b h _=>Nat.le_trans HW3.out h)),N5.out.below AL,T5.out.trans (Trail.below _ AL)⟩
 have hS2:Blk (wd3.alloc (.cells (evL (sigE k s) xs).toArray 97)) bs 50 CS∧Blk (wd3.alloc (.cells (evL (sigE k s) xs).toArray 97)) m.c 93 (cnC k x.dials x.num (.pointer (some ⟨m.B,0,none⟩)) (x.gen:Int) (.pointer (some ⟨G,0,none⟩)) (x.id:Int)):=⟨hS.1.below AL hS.1.lt,hS.2.below AL hS.2.lt⟩;clear AL T5 S5 N5 hS;go_wp2_with fail;refine hK.out _ _ hS2 (fun hS=>?_);clear hK K
 try simp only[PU]
 refine tl 7 6 (v:=?_) rfl ?_ ?_;rotate_left
 ·
  intro w hSw;go_simp
  with_reducible rfl
 simp only[PU];refine wpAnyH_done (by kernel_rfl) ?_ _;clear hS;go_wp2_with fail;go_ret;exact⟨_,_,rfl,D.out.1,D.out.2.1,D.out.2.2⟩
end Go.Proofs.YtoaimoemaoinhaaGreatDoor
namespace Go.Proofs.YtoaimoemaoinhaaGreatDoor
open Go.RowKit Go.Rt Go.Rw Go.Mp
def tupT (e m:Int):Tm:=.mk ⟨7,0,0,noB,noB,0,noB,0⟩ [nmbT e,nmbT m]
def sgN (me ot:ByteArray) (e m:Int):Sg:=⟨1,pidT me 1,pidT ot 1,noB,noB,zerT,0,tupT e m⟩
theorem pid_valid {s:ByteArray} (h:nameF s=true):validB (pidT s 1)=true:=by
 unfold validB pidT;simp[formed,formedL,ownB,okF,bareF,zeroF,usesL,sizeT,sizeL,sizeO,inB,h,noB];rfl
theorem tup_valid (e m:Int):validB (tupT e m)=true:=by
 unfold validB tupT nmbT;simp[formed,formedL,ownB,okF,bareF,zeroF,usesL,sizeT,sizeL,sizeO,noB];rfl
theorem eqT_refl' (t:Tm):eqT t t=true:=(eqT_iff t t).2 rfl
theorem has67 : hasU 67 0=true∧hasU 67 1=true∧hasU 67 2=false∧hasU 67 3=false∧hasU 67 4=false∧hasU 67 5=false∧hasU 67 6=true:=by decide
section
variable {me ot:ByteArray} {e m:Int}
theorem sg_src : srcS (sgN me ot e m)=me:=by
 unfold srcS;rw[show usesF (sgN me ot e m).k=67 from rfl,has67.1];rfl
theorem sg_tgt : tgtS (sgN me ot e m)=ot:=by
 unfold tgtS;rw[show usesF (sgN me ot e m).k=67 from rfl,has67.2.1];rfl
theorem sg_valid (h1:nameF me=true) (h2:nameF ot=true):validS (sgN me ot e m)=true:=by
 obtain⟨u0,u1,u2,u3,u4,u5,u6⟩:=has67;have u:usesF (sgN me ot e m).k=67:=rfl;have a:=pid_valid h1;have b:=pid_valid h2;unfold pidT at a b;unfold validS;rw[u];simp[allFld,okFld,fldT,fldK,onlyS,sameS,u0,u1,u2,u3,u4,u5,u6,sgN,eqT_refl',a,b,tup_valid,pidT,Tm.f]
theorem tup_ok (h1 : -9223372036854775808≤e∧e≤9223372036854775807) (h2 : -9223372036854775808≤m∧m≤9223372036854775807):okT (tupT e m):=by
 refine⟨?_,by unfold tupT nmbT;simp[cnt,cntL]⟩;unfold tupT;rw[fitT];refine⟨?_,?_⟩
 ·
  exact⟨⟨by decide,by decide,by decide⟩,by decide,by decide,by decide,by decide,by decide⟩
 ·
  exact⟨(ok_int h1).1,(ok_int h2).1,trivial⟩
theorem sg_fit (h1:nameF me=true) (h2:nameF ot=true) (he : -9223372036854775808≤e∧e≤9223372036854775807) (hm : -9223372036854775808≤m∧m≤9223372036854775807):FitE (sgN me ot e m):=
 ⟨pid_ok _ (by have:=(nameF_size _ h1).2;omega),pid_ok _ (by have:=(nameF_size _ h2).2;omega),ok_zer,tup_ok he hm,Nat.zero_le _,Nat.zero_le _,by show -9223372036854775808≤(0:Int)∧(0:Int)≤9223372036854775807;decide⟩
theorem sg_dec (h1:nameF me=true) (h2:nameF ot=true) (he : -9223372036854775808≤e∧e≤9223372036854775807) (hm : -9223372036854775808≤m∧m≤9223372036854775807):decR (encB (sgN me ot e m))=(sgN me ot e m,0):=by
 unfold decR;rw[dec_enc (sg_valid h1 h2) (sg_fit h1 h2 he hm)]
theorem valid_formed {t:Tm} (h:validB t=true):formed t=true:=by
 unfold validB at h;rw[Bool.and_eq_true] at h;exact h.1
theorem sg_size (h1:nameF me=true) (h2:nameF ot=true) (he : -9223372036854775808≤e∧e≤9223372036854775807) (hm : -9223372036854775808≤m∧m≤9223372036854775807):(encB (sgN me ot e m)).size≤4096:=by
 obtain⟨u0,u1,u2,u3,u4,u5,u6⟩:=has67;have hf:=sg_fit h1 h2 he hm;have a:=code_short _ (valid_formed (pid_valid h1)) hf.fr.1;have b:=code_short _ (valid_formed (pid_valid h2)) hf.tt.1;have c:=code_short _ (valid_formed (tup_valid e m)) hf.val.1;have sa:sizeT (pidT me 1)=1:=rfl;have sb:sizeT (pidT ot 1)=1:=rfl;have sc:sizeT (tupT e m)=3:=rfl;rw[sa] at a;rw[sb] at b;rw[sc] at c;rw[encB_valid (sg_valid h1 h2),bytesB_size,List.length_cons,show usesF (sgN me ot e m).k=67 from rfl]
 have hl:(encT 67 (sgN me ot e m) [0,1,2,3,4,5,6]).length=(codeT (pidT me 1)).length+((codeT (pidT ot 1)).length+(codeT (tupT e m)).length):=by
  simp[encT,u0,u1,u2,u3,u4,u5,u6,fldT,sgN]
 omega
end
def fP (d:Bool) (num:Nat) (me ot:ByteArray) (e:Int) (m:Nat):ByteArray:=pkF d num 70 (Fr.encF true (m+1) 1 (encB (sgN me ot e m)))
def fL (d:Bool) (num:Nat) (me ot:ByteArray) (e:Int) (g k:Nat):List ByteArray:=(List.range' g k).map fun m=>fP d num me ot e m
def gP : GF:=fun n k x cont=>(setC n k x,[sigE k (decR (Fr.getF cont).1.2.2.2).1])
theorem fL_cons (d:Bool) (num:Nat) (me ot:ByteArray) (e:Int) (g k:Nat):fL d num me ot e g (k+1)=fP d num me ot e g::fL d num me ot e (g+1) k:=rfl
theorem fL_snoc (d:Bool) (num:Nat) (me ot:ByteArray) (e:Int) (g k:Nat):fL d num me ot e g k ++ [fP d num me ot e (g+k)]=fL d num me ot e g (k+1):=by
 unfold fL;rw[List.range'_1_concat,List.map_append];rfl
theorem fL_len (d:Bool) (num:Nat) (me ot:ByteArray) (e:Int) (g k:Nat):(fL d num me ot e g k).length=k:=by
 unfold fL;rw[List.length_map,List.length_range']
theorem f_valid {m:Nat} {b:ByteArray} (hm:m≤1000000) (hb:b.size≤4096):Fr.validB ((m+1:Nat):Int) ((1:Nat):Int) b=true:=by
 unfold Fr.validB;rw[decide_eq_true_iff];omega
section
variable {me ot ck:ByteArray} {ch di:Nat} {l:Bool}
theorem p_frag (T:Two me ot) (d:Bool) (num:Nat) (e:Int) (m:Nat) (x:Cx) (hn:num<18446744073709551616) (he : -9223372036854775808≤e∧e≤9223372036854775807) (hm:m≤1000000) (h1:x.num=num) (h2:x.dials = !d) :
  pktN gP (mkN me ot ck ch di (some x) l []) ot (fP d num ot me e m)=((mkN me ot ck ch di (some x) l [],[sigE ot (sgN ot me e m)]),0):=by
 unfold fP;rw[pkt_eq T _ _ (readF_pk d num 70 _ hn rfl)];show ((if matchB x _ then _ else if helB _ then _ else _),_)=_;rw[if_pos (by unfold matchB;rw[h1,h2];cases d<;>simp)];show (gP _ ot x (Fr.encF true (m+1) 1 (encB (sgN ot me e m))),_)=_;unfold gP;rw[Fr.get_enc _ _ _ _ (f_valid hm (sg_size T.no T.nm he (by omega)))];show ((setC _ ot x,[sigE ot (decR (encB (sgN ot me e m))).1]),_)=_;rw[sg_dec T.no T.nm he (by omega),mk_set]
def PkG (n:Nd) (k p:ByteArray):Prop:=p.size≤100000∧((∀ px,readF p=some px→px.kind≠70) ∨
 ∃ d num e m,p=fP d num k n.nm e m∧num<18446744073709551616∧(-9223372036854775808≤e∧e≤9223372036854775807)∧m≤1000000∧nameF k=true∧nameF n.nm=true∧∀ x,get n.C k=some x→x.gen=1∧x.ms = [])
theorem PkOk.g {n:Nd} {k p:ByteArray} (h:PkOk p):PkG n k p:=⟨h.1,.inl h.2⟩
theorem fP_size {d:Bool} {num:Nat} {e:Int} {m:Nat} (h1:nameF me=true) (h2:nameF ot=true) (he : -9223372036854775808≤e∧e≤9223372036854775807) (hm:m≤1000000):(Fr.encF true (m+1) 1 (encB (sgN me ot e m))).size≤10000∧(fP d num me ot e m).size≤100000:=by
 have hs:=sg_size h1 h2 he (m:=(m:Int)) (by omega);have e1:=Fr.enc_size true (m+1) 1 (encB (sgN me ot e m));refine⟨by omega,?_⟩;unfold fP pkF;simp only[ByteArray.size_append,Sk.numF_size];have z1:∀ x:UInt8,(ByteArray.mk #[x]).size=1:=fun _=>rfl
 rw[z1,z1];omega
theorem pkg_frag (T:Two me ot) {d:Bool} {num:Nat} {e:Int} {m:Nat} {x:Cx} (hn:num<18446744073709551616) (he : -9223372036854775808≤e∧e≤9223372036854775807) (hm:m≤1000000) (h1:x.gen=1) (h2:x.ms = []) :
  PkG (mkN me ot ck ch di (some x) l []) ot (fP d num ot me e m):=
 ⟨(fP_size T.no T.nm he hm).2,.inr ⟨d,num,e,m,rfl,hn,he,hm,T.no,T.nm,fun y hy=>by rw[mk_getC] at hy;cases hy;exact⟨h1,h2⟩⟩⟩
end
theorem pkt_gok {w:World} {base:Nat} {n:Nd} {a:Nm} (h:NdAt w base n a) {k:ByteArray} (hk:NOk n k) {p:ByteArray} (hp:PkG n k p) (hT:Sk.Tabs w) (hb:2≤base) {R:Nd×List Ev} (hR:pktN gP n k p=(R,0)) :
  Calls Tryz.prog 19 #[ptrV a.g,.string k,.string p] w (DonePk w base a R 0):=by
 have:=packet_any h hk.nd k p hp.1 (by rw[hk.o];simp) hT hb hk.c gP (fun x m px w1 a1 q1 q2 q3 q4 _ _=>by
  rcases hp.2 with hp|⟨d,num,e,i,rfl,hn,he,hi,n1,n2,hx⟩
  ·
   exact absurd q4 (hp px q3)
  ·
   unfold fP at q3;rw[readF_pk d num 70 _ hn rfl] at q3;cases q3;have hg:get n.C k=some x:=by rw[q1.getC k,q2];rfl
   obtain⟨g1,g2⟩:=hx x hg;have hs:=sg_size n1 n2 he (m:=(i:Int)) (by omega);have hge:=Fr.get_enc true (i+1) 1 (encB (sgN k n.nm e i)) (f_valid hi hs);have hd:=sg_dec n1 n2 he (m:=(i:Int)) (by omega)
   have:=gathers_sig q1 k x m q2 (by omega) g2 (Fr.encF true (i+1) 1 (encB (sgN k n.nm e i))) (encB (sgN k n.nm e i)) _ (by have:=(fP_size (d:=true) (num:=0) n1 n2 he hi).1;omega) (f_valid hi hs) hge (sgN k n.nm e i) hd sg_src has67.1 (by rw[g1];rfl) sg_tgt
   show Calls _ _ _ _ (Done w1 base a1 (gP n k x _).1 (gP n k x _).2);unfold gP;rw[hge];show Calls _ _ _ _ (Done w1 base a1 (setC n k x) [sigE k (decR (encB (sgN k n.nm e i))).1]);rw[hd];exact this)
 rw[hR] at this;exact this
def EvDo (g:Nat) (q:Int) (evs:List Ev) (ua ub:Bool) (n:Nu) (ua' ub':Bool) (n':Nu):Prop:=∀ (W:World) (v:Value) (n0 pa pb:Nat) (va vb:Value),g<n0→EvsAt n0 W v evs→Blk W g 33 (prC pa pb va vb ua ub n) →
 Calls Tryz.prog 14 #[ptrV g,.int .i64 q,v] W fun e w'=>e = .returned (.tuple #[])∧Blk w' g 33 (prC pa pb va vb ua' ub' n')∧Only [g] W w'
set_option maxHeartbeats 8000000 in
theorem pass_doa {w:World} {base:Nat} {s:Ds} {n n':Nu} {P:Pb} (h:PwAt w base s n P) {p:ByteArray} {rest:List ByteArray} (hw:s.wa=p::rest) (hk:NOk s.na exB) (hp:PkG s.na exB p) (hT:Sk.Tabs w) (hb:2≤base) {n1:Nd} {evs:List Ev} {u':Bool}
  (hR:pktN gP s.na exB p=((n1,evs),0)) (he:EvDo P.g 0 evs s.ua s.ub n u' s.ub n') (ho:(outQ n1 exB).length≤1) (ho2:(outQ s.nb exA).length≤1) (hl:s.wa.length≤1000) (hl2:s.wb.length≤1000) :
  Calls Tryz.prog 16 #[ptrV P.g,.int .i64 0] w fun e w'=>e = .returned (.tuple #[])∧Col w base (colS { s with na:=n1,wa:=rest,ua:=u' }) n' P w':=by
 have q:=h.qa;rw[hw] at q;obtain⟨gq,o,o',cap,hv,hgl,hcap,hcm,hc0,hsl,hq⟩:=q.pop;have hc:w.cell? ⟨P.g,2,none⟩=some (.slice (some ⟨gq,o,none⟩) (rest.length+1) cap):=h.cwa rfl hv;have fc:=h.blk.frozen 2;have hia:=way_at P.g;have hib:=way_at0 P.g;have hix0:=name_at false;have hix1:=name_at true;simp only[if_true,if_false,Bool.false_eq_true] at hix0 hix1;have e1:IntKind.i64.wrap 1=1:=by kernel_rfl
 have e0:IntKind.i64.wrap 0=0:=by kernel_rfl
 have HLR:Hid (rest.length≤1000):=qH (by rw[hw] at hl;simp only[List.length_cons] at hl;omega);have HLY:Hid (s.wb.length≤1000):=qH (by omega);have HK:=qH hk;have HPK:=qH hp;have HB2:=qH hb;have HR:=qH hR;have HE:=qH he;have HO:=qH ho;have HO2:=qH ho2;have H2:Hid (PwAt (w.setCell ⟨P.g,2,none⟩ (.slice (some ⟨gq,o',none⟩) rest.length (cap-1))).drew base { s with wa:=rest } n { P with va:=.slice (some ⟨gq,o',none⟩) rest.length (cap-1) }):=qH
  (h.wayA (Only.refl _ w) hq (.inr (.inl (by rw[hv];rfl))) ((Only.setCell w ⟨P.g,2,none⟩ _ (by simp)).trans (Only.drew _ _)) (h.blk.set_ 2 (.slice (some ⟨gq,o',none⟩) rest.length (cap-1))))
 have B2:Hid (Below base w (w.setCell ⟨P.g,2,none⟩ (.slice (some ⟨gq,o',none⟩) rest.length (cap-1))).drew):=qH (((Below.refl base w).setCell (p:=⟨P.g,2,none⟩) h.bg _).trans (Below.refl base _).drew);have HTW:=qH hT;have hnl:¬((rest.length:Int)+1=0):=by omega
 have hcp:(rest.length:Int)+1≤(cap:Int):=by omega
 clear h hw hk hp hT hb hR he ho ho2 hl hl2 q hq hv hcm hcap;unfold ptrV at *;go_enter Tryz.func16,Tryz.ntmps16;go_upto_region 2 with fail
 go_still_tail 12,(by kernel_rfl);change wpList _ _ _ _ _ w.drew;go_upto_region 3 with fail
 clear hc fc hia hib hc0 hsl hgl hnl hcp;obtain⟨P1,hP1⟩:∃ y:Pb,y = { P with va:=.slice (some ⟨gq,o',none⟩) rest.length (cap-1) }:=⟨_,rfl⟩;have HG1:Hid (P1.g=P.g):=qH (by rw[hP1]);have HA1:Hid (P1.a.g=P.a.g):=qH (by rw[hP1]);rw[←hP1] at H2;clear hP1;generalize (w.setCell ⟨P.g,2,none⟩ (.slice (some ⟨gq,o',none⟩) rest.length (cap-1))).drew=w2 at *;have TT2:=qH (HTW.out.below B2.out HB2.out);have c0:w2.cell? ⟨P.g,0,none⟩=some (.pointer (some ⟨P.a.g,0,none⟩)):=by rw[←HA1.out];exact H2.out.cpa HG1.out
 go_region_held3 (fun w'=>w'.cell? ⟨P.g,0,none⟩=some (.pointer (some ⟨P.a.g,0,none⟩))) (first|exact c0|exact m0)
  ((first
   | (go_at_call 11;refine(names_any _).mono ?_;rintro e w3 ⟨rfl,b3⟩;have H3:=qH ((H2.out.below (Below.refl _ w2).drew).below b3);have B3:=qH ((B2.out.trans (Below.refl base w2).drew).trans (b3.mono H2.out.na.bz));have TT3:=qH ((TT2.out.below (Below.refl _ w2).drew TT2.out.two).below b3 TT2.out.two);have m0:w3.cell? ⟨P.g,0,none⟩=some (.pointer (some ⟨P.a.g,0,none⟩)):=(H3.out.cpa HG1.out).trans (by rw[HA1.out]);clear b3)
   | (go_at_call 19;have CP:=pkt_gok H3.out.na HK.out HPK.out TT3.out HB2.out HR.out;unfold ptrV at CP;rw[HA1.out] at CP;refine CP.mono ?_;rintro e w4 ⟨v,a4,rfl,q2,q3,q4⟩;have EV:=qH q2;have H4:=qH (H3.out.setA q3 q4);have B4:=qH (B3.out.trans (Trail.kept H3.out.na q4));have HSZ:=qH (show P1.g<w3.heap.size from H3.out.blk.lt);clear m0;have m0:w4.cell? ⟨P.g,0,none⟩=some (.pointer (some ⟨P.a.g,0,none⟩)):=(H4.out.cpa HG1.out).trans (by rw[q4.g,HA1.out]);clear q2 q3 q4 CP)))
 clear m0 c0;obtain⟨P2,hP2⟩:∃ y:Pb,y = { P1 with a:=a4 }:=⟨_,rfl⟩;have HG2:Hid (P2.g=P.g):=qH (by rw[hP2];exact HG1.out);rw[←hP2] at H4;clear hP2;have c16:w4.cell? ⟨P.g,16,none⟩=some (.bool true):=blk_at H4.out.blk 16 HG2.out rfl rfl;have f16:w4.frozen? ⟨P.g,16,none⟩=false:=by rw[←HG2.out];exact H4.out.blk.frozen 16
 have H5:Hid (PwAt (w4.setCell ⟨P.g,16,none⟩ (.bool true)) base { s with na:=n1,wa:=rest } n P2):=qH (by
  have:=H4.out.own (ua:=s.ua) (ub:=s.ub) (n':=n) (Only.setCell w4 ⟨P2.g,16,none⟩ (.bool true) (by simp)) (H4.out.blk.set_ 16 (.bool true))
  rw[HG2.out] at this;exact this)
 have B5:=qH (B4.out.setCell (p:=⟨P.g,16,none⟩) (by rw[←HG2.out];exact H4.out.bg) (.bool true));have EV5:=qH (EV.out.keep (Only.setCell (bs:=[P.g]) w4 ⟨P.g,16,none⟩ (.bool true) (by simp)) (fun b hb=>.inl (by rw[List.mem_singleton.1 hb,←HG1.out];exact HSZ.out)));clear H4 B4 EV H3 B3 TT3 H2 B2 TT2;have CE:=qH (HE.out _ v w3.heap.size P2.a.g P2.b.g P2.va P2.vb (by rw[←HG1.out];exact HSZ.out) EV5.out (by have:=H5.out.blk;rw[HG2.out] at this;exact this))
 unfold ptrV at CE;clear EV5 HSZ HE;go_upto_region 5 with fail
 clear c16 f16;generalize w4.setCell ⟨P.g,16,none⟩ (.bool true)=w5 at *;go_wp2_with fail;refine CE.out.mono ?_;rintro e w6 ⟨rfl,q1,q2⟩;have H6:Hid (PwAt w6 base { s with na:=n1,wa:=rest,ua:=u' } n' P2):=qH (H5.out.own (by rw[HG2.out];exact q2) (by rw[HG2.out];exact q1));have B6:=qH (B5.out.trans (q2.below (fun b hb=>by rw[List.mem_singleton.1 hb,←HG2.out];exact H5.out.bg) H5.out.na.bz));clear q1 q2 CE H5 B5
 have CC:=qH (collect_any H6.out HO.out HO2.out HLR.out HLY.out);rw[HG2.out] at CC;unfold ptrV at CC;go_wp2_with fail;refine CC.out.mono ?_;rintro e w7 ⟨rfl,h7⟩;have H7:=qH h7;clear h7 CC;go_wp2_with fail;go_end0;exact⟨rfl,Col.trans HG2.out B6.out H7.out⟩
set_option maxHeartbeats 8000000 in
theorem pass_dob {w:World} {base:Nat} {s:Ds} {n n':Nu} {P:Pb} (h:PwAt w base s n P) {p:ByteArray} {rest:List ByteArray} (hw:s.wb=p::rest) (hk:NOk s.nb exA) (hp:PkG s.nb exA p) (hT:Sk.Tabs w) (hb:2≤base) {n1:Nd} {evs:List Ev} {u':Bool}
  (hR:pktN gP s.nb exA p=((n1,evs),0)) (he:EvDo P.g 1 evs s.ua s.ub n s.ua u' n') (ho:(outQ n1 exA).length≤1) (ho2:(outQ s.na exB).length≤1) (hl:s.wb.length≤1000) (hl2:s.wa.length≤1000) :
  Calls Tryz.prog 16 #[ptrV P.g,.int .i64 1] w fun e w'=>e = .returned (.tuple #[])∧Col w base (colS { s with nb:=n1,wb:=rest,ub:=u' }) n' P w':=by
 have q:=h.qb;rw[hw] at q;obtain⟨gq,o,o',cap,hv,hgl,hcap,hcm,hc0,hsl,hq⟩:=q.pop;have hc:w.cell? ⟨P.g,3,none⟩=some (.slice (some ⟨gq,o,none⟩) (rest.length+1) cap):=h.cwb rfl hv;have fc:=h.blk.frozen 3;have hia:=way_at P.g;have hib:=way_at0 P.g;have hix0:=name_at false;have hix1:=name_at true;simp only[if_true,if_false,Bool.false_eq_true] at hix0 hix1;have e1:IntKind.i64.wrap 1=1:=by kernel_rfl
 have e0:IntKind.i64.wrap 0=0:=by kernel_rfl
 have HLR:Hid (rest.length≤1000):=qH (by rw[hw] at hl;simp only[List.length_cons] at hl;omega);have HLY:Hid (s.wa.length≤1000):=qH (by omega);have HK:=qH hk;have HPK:=qH hp;have HB2:=qH hb;have HR:=qH hR;have HE:=qH he;have HO:=qH ho;have HO2:=qH ho2;have H2:Hid (PwAt (w.setCell ⟨P.g,3,none⟩ (.slice (some ⟨gq,o',none⟩) rest.length (cap-1))).drew base { s with wb:=rest } n { P with vb:=.slice (some ⟨gq,o',none⟩) rest.length (cap-1) }):=qH
  (h.wayB (Only.refl _ w) hq (.inr (.inl (by rw[hv];rfl))) ((Only.setCell w ⟨P.g,3,none⟩ _ (by simp)).trans (Only.drew _ _)) (h.blk.set_ 3 (.slice (some ⟨gq,o',none⟩) rest.length (cap-1))))
 have B2:Hid (Below base w (w.setCell ⟨P.g,3,none⟩ (.slice (some ⟨gq,o',none⟩) rest.length (cap-1))).drew):=qH (((Below.refl base w).setCell (p:=⟨P.g,3,none⟩) h.bg _).trans (Below.refl base _).drew);have HTW:=qH hT;have hnl:¬((rest.length:Int)+1=0):=by omega
 have hcp:(rest.length:Int)+1≤(cap:Int):=by omega
 clear h hw hk hp hT hb hR he ho ho2 hl hl2 q hq hv hcm hcap;unfold ptrV at *;go_enter Tryz.func16,Tryz.ntmps16;go_upto_region 2 with fail
 go_still_tail 12,(by kernel_rfl);change wpList _ _ _ _ _ w.drew;go_upto_region 3 with fail
 clear hc fc hia hib hc0 hsl hgl hnl hcp;obtain⟨P1,hP1⟩:∃ y:Pb,y = { P with vb:=.slice (some ⟨gq,o',none⟩) rest.length (cap-1) }:=⟨_,rfl⟩;have HG1:Hid (P1.g=P.g):=qH (by rw[hP1]);have HA1:Hid (P1.b.g=P.b.g):=qH (by rw[hP1]);rw[←hP1] at H2;clear hP1;generalize (w.setCell ⟨P.g,3,none⟩ (.slice (some ⟨gq,o',none⟩) rest.length (cap-1))).drew=w2 at *;have TT2:=qH (HTW.out.below B2.out HB2.out);have c0:w2.cell? ⟨P.g,1,none⟩=some (.pointer (some ⟨P.b.g,0,none⟩)):=by rw[←HA1.out];exact H2.out.cpb HG1.out
 go_region_held3 (fun w'=>w'.cell? ⟨P.g,1,none⟩=some (.pointer (some ⟨P.b.g,0,none⟩))) (first|exact c0|exact m0)
  ((first
   | (go_at_call 11;refine(names_any _).mono ?_;rintro e w3 ⟨rfl,b3⟩;have H3:=qH ((H2.out.below (Below.refl _ w2).drew).below b3);have B3:=qH ((B2.out.trans (Below.refl base w2).drew).trans (b3.mono H2.out.na.bz));have TT3:=qH ((TT2.out.below (Below.refl _ w2).drew TT2.out.two).below b3 TT2.out.two);have m0:w3.cell? ⟨P.g,1,none⟩=some (.pointer (some ⟨P.b.g,0,none⟩)):=(H3.out.cpb HG1.out).trans (by rw[HA1.out]);clear b3)
   | (go_at_call 19;have CP:=pkt_gok H3.out.nb HK.out HPK.out TT3.out HB2.out HR.out;unfold ptrV at CP;rw[HA1.out] at CP;refine CP.mono ?_;rintro e w4 ⟨v,a4,rfl,q2,q3,q4⟩;have EV:=qH q2;have H4:=qH (H3.out.setB q3 q4);have B4:=qH (B3.out.trans (Trail.kept H3.out.nb q4));have HSZ:=qH (show P1.g<w3.heap.size from H3.out.blk.lt);clear m0;have m0:w4.cell? ⟨P.g,1,none⟩=some (.pointer (some ⟨P.b.g,0,none⟩)):=(H4.out.cpb HG1.out).trans (by rw[q4.g,HA1.out]);clear q2 q3 q4 CP)))
 clear m0 c0;obtain⟨P2,hP2⟩:∃ y:Pb,y = { P1 with b:=a4 }:=⟨_,rfl⟩;have HG2:Hid (P2.g=P.g):=qH (by rw[hP2];exact HG1.out);rw[←hP2] at H4;clear hP2;have c16:w4.cell? ⟨P.g,16,none⟩=some (.bool true):=blk_at H4.out.blk 16 HG2.out rfl rfl;have f16:w4.frozen? ⟨P.g,16,none⟩=false:=by rw[←HG2.out];exact H4.out.blk.frozen 16
 have H5:Hid (PwAt (w4.setCell ⟨P.g,16,none⟩ (.bool true)) base { s with nb:=n1,wb:=rest } n P2):=qH (by
  have:=H4.out.own (ua:=s.ua) (ub:=s.ub) (n':=n) (Only.setCell w4 ⟨P2.g,16,none⟩ (.bool true) (by simp)) (H4.out.blk.set_ 16 (.bool true))
  rw[HG2.out] at this;exact this)
 have B5:=qH (B4.out.setCell (p:=⟨P.g,16,none⟩) (by rw[←HG2.out];exact H4.out.bg) (.bool true));have EV5:=qH (EV.out.keep (Only.setCell (bs:=[P.g]) w4 ⟨P.g,16,none⟩ (.bool true) (by simp)) (fun b hb=>.inl (by rw[List.mem_singleton.1 hb,←HG1.out];exact HSZ.out)));clear H4 B4 EV H3 B3 TT3 H2 B2 TT2;have CE:=qH (HE.out _ v w3.heap.size P2.a.g P2.b.g P2.va P2.vb (by rw[←HG1.out];exact HSZ.out) EV5.out (by have:=H5.out.blk;rw[HG2.out] at this;exact this))
 unfold ptrV at CE;clear EV5 HSZ HE;go_upto_region 5 with fail
 clear c16 f16;generalize w4.setCell ⟨P.g,16,none⟩ (.bool true)=w5 at *;go_wp2_with fail;refine CE.out.mono ?_;rintro e w6 ⟨rfl,q1,q2⟩;have H6:Hid (PwAt w6 base { s with nb:=n1,wb:=rest,ub:=u' } n' P2):=qH (H5.out.own (by rw[HG2.out];exact q2) (by rw[HG2.out];exact q1));have B6:=qH (B5.out.trans (q2.below (fun b hb=>by rw[List.mem_singleton.1 hb,←HG2.out];exact H5.out.bg) H5.out.na.bz));clear q1 q2 CE H5 B5
 have CC:=qH (collect_any H6.out HO2.out HO.out HLY.out HLR.out);rw[HG2.out] at CC;unfold ptrV at CC;go_wp2_with fail;refine CC.out.mono ?_;rintro e w7 ⟨rfl,h7⟩;have H7:=qH h7;clear h7 CC;go_wp2_with fail;go_end0;exact⟨rfl,Col.trans HG2.out B6.out H7.out⟩
end Go.Proofs.YtoaimoemaoinhaaGreatDoor
