/- PeersX: a part of the proof. No condition beyond the premises of each theorem. -/
import Derived.Test.YtoaimoemaoinhaaGreatDoorQp11
import Derived.Test.YtoaimoemaoinhaaGreatDoorQp08
import Derived.Test.YtoaimoemaoinhaaGreatDoorQp00
set_option maxRecDepth 100000
namespace Go.Proofs.YtoaimoemaoinhaaGreatDoor.Sk
open Go.RowKit Go.Rt
structure St (w W:World):Prop where
 tabs:Tabs W
 bel:Below w.heap.size w W
theorem St.keep {w W W':World} (h:St w W) (b:Below W.heap.size W W'):St w W':=⟨h.tabs.below b h.tabs.two,h.bel.trans (b.mono h.bel.size)⟩
theorem St.refl {w:World} (h:Tabs w):St w w:=⟨h,Below.refl _ _⟩
theorem St.alloc {w W:World} (h:St w W) (o:Obj):St w (W.alloc o):=h.keep ((Below.refl _ _).alloc (Nat.le_refl _) o)
theorem St.drew {w W:World} (h:St w W):St w W.drew:=h.keep (Below.refl _ _).drew
theorem St.drewN {w W:World} (h:St w W) (n:Nat):St w (W.drewN n):=h.keep (below_drewN (Below.refl _ _) n)
set_option maxHeartbeats 1000000 in
theorem proof_any (l:ByteArray) (own other:Pr) (cookie:ByteArray) (th ou:Nat) (hl:l.size≤1) (h1:own.name.size≤32) (h2:other.name.size≤32) (g1:own.gen≤2147483647) (g2:other.gen≤2147483647) (hc:cookie.size≤6000) (w:World) (ht:Tabs w) :
  Calls Tryz.prog 204 #[.string l,.agg #[.string own.name,.int .i64 own.gen],.agg #[.string other.name,.int .i64 other.gen],.string cookie,.int .u64 th,.int .u64 ou] w fun e w'=>e = .returned (.string (proofF l own other cookie th ou))∧Below w.heap.size w w':=by
 have e1:=encF_size own;have e2:=encF_size other;have e3:=numF_size th 8;have e4:=numF_size ou 8;have C1:=qH (fun W=>enc_any own.name own.gen (by omega) g1 W);have C2:=qH (fun W=>enc_any other.name other.gen (by omega) g2 W);have C3:Hid (∀ W,Calls Tryz.prog 126 #[.int .u64 (th:Int),.int .i64 8] W fun e w'=>e = .returned (.string (numF th 8))∧Below W.heap.size W w'):=qH (fun W=>bytes_any th 8 (by omega) W)
 have C4:Hid (∀ W,Calls Tryz.prog 126 #[.int .u64 (ou:Int),.int .i64 8] W fun e w'=>e = .returned (.string (numF ou 8))∧Below W.heap.size W w'):=qH (fun W=>bytes_any ou 8 (by omega) W);have HM:Hid (∀ W,Tabs W→Calls Tryz.prog 223 #[.string cookie,.string (l++encF own++encF other++numF th 8++numF ou 8)] W fun e w'=>e = .returned (.string (proofF l own other cookie th ou))∧Below W.heap.size W w'):=
  qH (fun W hW=>mac_any cookie _ (by omega) (by simp only[ByteArray.size_append];omega) W hW)
 have C1':Hid (∀ W,Calls Tryz.prog 67 #[.agg #[.string own.name,.int .i64 own.gen]] W fun e w'=>e = .returned (.string (encF own))∧Below W.heap.size W w'):=C1;have C2':Hid (∀ W,Calls Tryz.prog 67 #[.agg #[.string other.name,.int .i64 other.gen]] W fun e w'=>e = .returned (.string (encF other))∧Below W.heap.size W w'):=C2;obtain⟨on,og⟩:=own;obtain⟨tn,tg⟩:=other;obtain⟨q1,hq1⟩:∃ q,q=encF ⟨on,og⟩:=⟨_,rfl⟩
 obtain⟨q2,hq2⟩:∃ q,q=encF ⟨tn,tg⟩:=⟨_,rfl⟩;obtain⟨q3,hq3⟩:∃ q,q=numF th 8:=⟨_,rfl⟩;obtain⟨q4,hq4⟩:∃ q,q=numF ou 8:=⟨_,rfl⟩;obtain⟨P,hP⟩:∃ P,P=proofF l ⟨on,og⟩ ⟨tn,tg⟩ cookie th ou:=⟨_,rfl⟩;rw[←hq1] at e1 C1' HM;rw[←hq2] at e2 C2' HM;rw[←hq3] at e3 C3 HM;rw[←hq4] at e4 C4 HM;rw[←hP] at HM ⊢;clear hq1 hq2 hq3 hq4 hP C1 C2
 simp only at e1 e2 h1 h2 g1 g2
 have z1:q1.size≤37:=by omega
 have z2:q2.size≤37:=by omega
 have z3:q3.size≤8:=by omega
 have z4:q4.size≤8:=by omega
 clear e1 e2 e3 e4;have s1:¬9223372036854775807<l.size+q1.size:=by omega
 have s2:¬9223372036854775807<l.size+q1.size+q2.size:=by omega
 have s3:¬9223372036854775807<l.size+q1.size+q2.size+q3.size:=by omega
 have s4:¬9223372036854775807<l.size+q1.size+q2.size+q3.size+q4.size:=by omega
 have HT:=qH ht;clear ht h1 h2 g1 g2 z1 z2 z3 z4 hl
 simp only
 have HS0:Hid (∀ n,(((w.alloc (.cells #[.string on,.int .i64 (og:Int)] 52)).alloc (.cells #[.string tn,.int .i64 (tg:Int)] 52)).drewN n).cell? ⟨w.heap.size,0,none⟩=some (.string on)∧(((w.alloc (.cells #[.string on,.int .i64 (og:Int)] 52)).alloc (.cells #[.string tn,.int .i64 (tg:Int)] 52)).drewN n).cell? ⟨w.heap.size,1,none⟩=some (.int .i64 (og:Int))∧(((w.alloc (.cells #[.string on,.int .i64 (og:Int)] 52)).alloc (.cells #[.string tn,.int .i64 (tg:Int)] 52)).drewN n).cell? ⟨w.heap.size+1,0,none⟩=some (.string tn)∧(((w.alloc (.cells #[.string on,.int .i64 (og:Int)] 52)).alloc (.cells #[.string tn,.int .i64 (tg:Int)] 52)).drewN n).cell? ⟨w.heap.size+1,1,none⟩=some (.int .i64 (tg:Int))∧St w (((w.alloc (.cells #[.string on,.int .i64 (og:Int)] 52)).alloc (.cells #[.string tn,.int .i64 (tg:Int)] 52)).drewN n)):=
  qH (fun n=>⟨by simp,by simp,by simp,by simp,((((St.refl HT.out).alloc _).alloc _)).drewN n⟩)
 go_enter Tryz.func204,Tryz.ntmps204;go_wp2;go_region_held3 (fun w'=>w'.cell? ⟨w.heap.size,0,none⟩=some (.string on)∧w'.cell? ⟨w.heap.size,1,none⟩=some (.int .i64 (og:Int))∧w'.cell? ⟨w.heap.size+1,0,none⟩=some (.string tn)∧w'.cell? ⟨w.heap.size+1,1,none⟩=some (.int .i64 (tg:Int))∧St w w')
  (first|exact HS0.out 1|(obtain⟨s1,s2,s3,s4,s5⟩:=(‹_∧_∧_∧_∧St _ _›);exact⟨cell_keep (by assumption) s1,cell_keep (by assumption) s2,cell_keep (by assumption) s3,cell_keep (by assumption) s4,s5.keep (by assumption)⟩))
  (first
   | (go_at_call_of 67 (Value.agg #[Value.string on,Value.int IntKind.i64 (og:Int)]);refine(C1'.out _).mono ?_;rintro e w1 ⟨rfl,b1⟩)
   | (go_at_call_of 67 (Value.agg #[Value.string tn,Value.int IntKind.i64 (tg:Int)]);refine(C2'.out _).mono ?_;rintro e w2 ⟨rfl,b2⟩)
   | (go_at_call_of 126 (Value.int IntKind.u64 (th:Int));refine(C3.out _).mono ?_;rintro e w3 ⟨rfl,b3⟩)
   | (go_at_call_of 126 (Value.int IntKind.u64 (ou:Int));refine(C4.out _).mono ?_;rintro e w4 ⟨rfl,b4⟩)
   | (go_at_call 223;refine(HM.out _ ((‹_∧_∧_∧_∧St _ _›).2.2.2.2).tabs).mono ?_;rintro e w5 ⟨rfl,b5⟩))
 all_goals (go_wp2;go_ret;exact⟨rfl,((‹_∧_∧_∧_∧St _ _›).2.2.2.2).bel⟩)
theorem readPF_le {b r:ByteArray} {p:Pr} (h:readPF b=some (p,r)):r.size≤b.size:=by
 unfold readPF at h;split at h
 ·
  cases h
 ·
  simp only at h
  split at h
  ·
   simp only[Option.some.injEq,Prod.mk.injEq] at h;rw[←h.2,ByteArray.size_extract];omega
  ·
   cases h
theorem readHF_short (b:ByteArray) (h:b.size<2∨seqB (b.extract 0 2) helloC=false):readHF b=none:=by unfold readHF;rw[if_pos h]
theorem readHF_none (b:ByteArray) (h:readPF (b.extract 2 b.size)=none):readHF b=none:=by
 unfold readHF;split
 ·
  rfl
 ·
  rw[h]
theorem readHF_bad (b r:ByteArray) (p:Pr) (h:readPF (b.extract 2 b.size)=some (p,r)) (hr:r.size=0∨r.size≠1+atB r 0∨nameF (r.extract 1 r.size)=false):readHF b=none:=by
 unfold readHF;split
 ·
  rfl
 ·
  rw[h]
  simp only
  rw[if_pos hr]
theorem readHF_good (b r:ByteArray) (p:Pr) (h0:¬(b.size<2∨seqB (b.extract 0 2) helloC=false)) (h:readPF (b.extract 2 b.size)=some (p,r)) (hr:¬(r.size=0∨r.size≠1+atB r 0∨nameF (r.extract 1 r.size)=false)):readHF b=some (p,r.extract 1 r.size):=by
 unfold readHF;rw[if_neg h0,h]
 simp only
 rw[if_neg hr]
end Go.Proofs.YtoaimoemaoinhaaGreatDoor.Sk
namespace Go.Proofs.YtoaimoemaoinhaaGreatDoor.Sk
open Go.RowKit Go.Rt
def MadeL (T:TypeId) (s:Sd) (w:World) (e:Ending) (w':World):Prop:=
 ∃ B,e = .returned (.tuple #[.pointer (some ⟨B,0,none⟩),.int .i64 0])∧w.heap.size≤B∧Blk w' B T (sdC s)∧Below w.heap.size w w'
set_option maxHeartbeats 1000000 in
theorem listen_yes (n:ByteArray) (g:Nat) (cookie:ByteArray) (c:Nat) (h:(nameF n&&genI g)=true) (w:World) :
  Calls Tryz.prog 79 #[.agg #[.string n,.int .i64 g],.string cookie,.int .u64 c] w (MadeL 141 (listenS ⟨n,g⟩ cookie c) w):=by
 have V:=qH (fun W=>validV_any n g W);rw[h] at V;clear h;go_enter Tryz.func79,Tryz.ntmps79;go_wp2_with fail;refine(V.out _).mono ?_;rintro e w1 ⟨rfl,b1⟩;have k0:w1.cell? ⟨w.heap.size,0,none⟩=some (.string n):=cell_keep b1 (by simp);have k1:w1.cell? ⟨w.heap.size,1,none⟩=some (.int .i64 (g:Int)):=cell_keep b1 (by simp);have B1:=qH (((Below.refl w.heap.size w).alloc (Nat.le_refl _) _).trans (b1.mono (by simp)))
 clear b1;go_wp2;go_ret2;exact⟨w1.heap.size,rfl,B1.out.size,World.alloc_heap_new w1 _,B1.out.alloc B1.out.size _⟩
end Go.Proofs.YtoaimoemaoinhaaGreatDoor.Sk
namespace Go.Proofs.YtoaimoemaoinhaaGreatDoor.Sk
open Go.RowKit Go.Rt Go.Rw
theorem cutq_no (s p:ByteArray) (h:preF s p=false) (w:World) :
  Calls Tryz.prog 200 #[.string s,.string p] w fun e w'=>e = .returned (.tuple #[.string s,.bool false])∧w=w':=by
 have C:=qH (cutp_no s p h w);clear h;go_enter Tryz.func200,Tryz.ntmps200;go_wp2_with fail;refine C.out.mono ?_;rintro e w' ⟨rfl,rfl⟩;go_wp2;go_ret2;exact⟨rfl,rfl⟩
theorem cutq_yes (s p:ByteArray) (h:preF s p=true) (w:World) :
  Calls Tryz.prog 200 #[.string s,.string p] w fun e w'=>e = .returned (.tuple #[.string (s.extract p.size s.size),.bool true])∧w=w':=by
 have C:=qH (cutp_yes s p h w);clear h;go_enter Tryz.func200,Tryz.ntmps200;go_wp2_with fail;refine C.out.mono ?_;rintro e w' ⟨rfl,rfl⟩;go_wp2;go_ret2;exact⟨rfl,rfl⟩
structure SC (w:World) (B:Nat) (s:Sd):Prop where
 c0:w.cell? ⟨B,0,none⟩=some (.string s.self.name)
 c1:w.cell? ⟨B,1,none⟩=some (.int .i64 s.self.gen)
 c2:w.cell? ⟨B,2,none⟩=some (.string s.other.name)
 c3:w.cell? ⟨B,3,none⟩=some (.int .i64 s.other.gen)
 c4:w.cell? ⟨B,4,none⟩=some (.string s.want)
 c5:w.cell? ⟨B,5,none⟩=some (.string s.cookie)
 c6:w.cell? ⟨B,6,none⟩=some (.int .u64 s.chal)
 c7:w.cell? ⟨B,7,none⟩=some (.int .u64 s.their)
 c8:w.cell? ⟨B,8,none⟩=some (.bool s.dials)
 c9:w.cell? ⟨B,9,none⟩=some (.bool s.sent)
 c10:w.cell? ⟨B,10,none⟩=some (.int .i64 s.state)
theorem sd_cells {w:World} {B:Nat} {T:TypeId} {s:Sd} (h:Blk w B T (sdC s)):SC w B s:=
 ⟨h.cell 0,h.cell 1,h.cell 2,h.cell 3,h.cell 4,h.cell 5,h.cell 6,h.cell 7,h.cell 8,h.cell 9,h.cell 10⟩
structure SdOk (s:Sd):Prop where
 self:nameF s.self.name=true∧s.self.gen≤2147483647
 other:s.other.name.size≤32∧s.other.gen≤2147483647
 want:s.want.size≤6000
 cookie:s.cookie.size≤6000
 chal:s.chal≤18446744073709551615
 their:s.their≤18446744073709551615
def Mid (T:TypeId) (B:Nat) (r:Res) (w:World) (e:Ending) (w':World):Prop:=
 ∃ (s1:Sd) (out:ByteArray) (err:Nat),e = .returned (.tuple #[.string out,.int .i64 err])∧Blk w' B T (sdC s1)∧Only [B] w w'∧r=if err=0 then (s1,out,0) else ({ s1 with state:=4 },⟨#[]⟩,err)
def Fin (T:TypeId) (B:Nat) (r:Res) (w:World) (e:Ending) (w':World):Prop:=
 e = .returned (.tuple #[.string r.2.1,.int .i64 r.2.2])∧Blk w' B T (sdC r.1)∧Only [B] w w'
theorem Only.of_below {w w':World} {B:Nat} (bs:List Nat) (h:Below B w w') (hB:w.heap.size≤B):Only bs w w':=
 ⟨h.os,h.tape,h.output,h.size,fun k hk _=>h.block k (by omega)⟩
theorem seqB_refl (a:ByteArray):seqB a a=true:=by unfold seqB;simp
theorem seqB_eq {a b:ByteArray} : seqB a b=true↔a=b:=by
 constructor
 ·
  intro h;unfold seqB at h;rw[ByteArray.toList_eq,ByteArray.toList_eq,beq_iff_eq] at h;exact WideShapes.bytes_inj h
 ·
  rintro rfl;exact seqB_refl a
end Go.Proofs.YtoaimoemaoinhaaGreatDoor.Sk
namespace Go.Proofs.YtoaimoemaoinhaaGreatDoor.Sk
open Go.RowKit Go.Rt Go.Rw
theorem ext01 (b:ByteArray) (h:1≤b.size):(b.extract 0 1).toList = [b[0]]:=by
 rw[ByteArray.toList_eq,ByteArray.data_extract,Array.toList_extract];have hd:0<b.data.toList.length:=by simp only[Array.length_toList];exact h
 simp only[List.extract,Nat.sub_zero,List.drop_zero];rw[show (1:Nat)=0+1 from rfl,List.take_succ_eq_append_getElem hd];rfl
theorem pre1 (b:ByteArray) (c:UInt8):preF b ⟨#[c]⟩=(decide (1≤b.size)&&decide (atB b 0=c.toNat)):=by
 unfold preF;have e1:(ByteArray.mk #[c]).size=1:=rfl;rw[e1]
 by_cases h:1≤b.size
 ·
  rw[decide_eq_true h,Bool.true_and,Bool.true_and,ext01 b h,atB_get b 0 h]
  have:(ByteArray.mk #[c]).toList = [c]:=by rw[ByteArray.toList_eq]
  rw[this,Bool.eq_iff_iff,beq_iff_eq,decide_eq_true_eq,List.cons.injEq];exact⟨fun h=>by rw[h.1],fun h=>⟨UInt8.toNat_inj.1 h,rfl⟩⟩
 ·
  rw[decide_eq_false h];rfl
theorem seqB_dec (a b:ByteArray):seqB a b=decide (a=b):=by
 rw[Bool.eq_iff_iff,seqB_eq,decide_eq_true_eq]
set_option maxHeartbeats 1000000 in
theorem ack_any (s:Sd) (hs:SdOk s) (b:ByteArray) (hb:b.size≤100000) (B:Nat) (w:World) (hB:Blk w B 141 (sdC s)) (ht:Tabs w) :
  Calls Tryz.prog 177 #[.pointer (some ⟨B,0,none⟩),.string b] w (Mid 141 B (ackF s b) w):=by
 have HB:=qH hB
 by_cases hp:preF b ⟨#[4]⟩=true
 ·
  have hp1:=hp;rw[pre1,Bool.and_eq_true,decide_eq_true_eq,decide_eq_true_eq] at hp1;obtain⟨l1,l2⟩:=hp1;have C:=qH (fun W=>cutq_yes b ⟨#[4]⟩ hp W);have hRz:(b.extract 1 b.size).size=b.size-1:=ext_size _ _ _ (Nat.le_refl _);have C2:Hid (∀ W,Calls Tryz.prog 200 #[.string b,.string ⟨#[4]⟩] W fun e w'=>e = .returned (.tuple #[.string (b.extract 1 b.size),.bool true])∧W=w'):=C;clear C
  by_cases hz:b.size=33
  ·
   have hA:Hid (ackF s b=if seqB (b.extract 1 b.size) (proofF letL s.other s.self s.cookie s.chal s.their)=false then failS s 350 else ({ s with state:=3 },⟨#[]⟩,0)):=by
    refine qH ?_;unfold ackF;rw[if_neg (by rw[l2];simp[hz]),hz]
   obtain⟨R,hR⟩:∃ R,R=b.extract 1 b.size:=⟨_,rfl⟩;rw[←hR] at hRz C2 hA;have hR32:((R.size:Int) != 32)=false:=by rw[bne_eq_false_iff_eq];omega
   have hRle:R.size≤32:=by omega
   have CP:=qH (fun W hW=>proof_any letL s.other s.self s.cookie s.chal s.their (by decide) hs.other.1 (nameF_size _ hs.self.1).2 hs.other.2 hs.self.2 hs.cookie W hW);have hPz:(proofF letL s.other s.self s.cookie s.chal s.their).size=32:=macS_size _ _;have CE:=qH (fun W=>equal_any R (proofF letL s.other s.self s.cookie s.chal s.their) (by omega) (by omega) W);obtain⟨P,hP⟩:∃ P,P=proofF letL s.other s.self s.cookie s.chal s.their:=⟨_,rfl⟩
   rw[←hP] at hA CP CE;rw[seqB_dec] at hA;obtain⟨d,hd⟩:∃ d,d=decide (R=P):=⟨_,rfl⟩;rw[←hd] at hA CE;have CP2:Hid (∀ W,Tabs W→Calls Tryz.prog 204 #[.string ⟨#[76]⟩,.agg #[.string s.other.name,.int .i64 s.other.gen],.agg #[.string s.self.name,.int .i64 s.self.gen],.string s.cookie,.int .u64 s.chal,.int .u64 s.their] W fun e w'=>e = .returned (.string P)∧Below W.heap.size W w'):=CP;have SCW:=sd_cells hB
   have hfr:=fun j=>hB.frozen j
   have HS0:Hid (∀ n,(w.drewN n).cell? ⟨B,2,none⟩=some (.string s.other.name)∧(w.drewN n).cell? ⟨B,3,none⟩=some (.int .i64 s.other.gen)∧(w.drewN n).cell? ⟨B,0,none⟩=some (.string s.self.name)∧(w.drewN n).cell? ⟨B,1,none⟩=some (.int .i64 s.self.gen)∧(w.drewN n).cell? ⟨B,5,none⟩=some (.string s.cookie)∧(w.drewN n).cell? ⟨B,6,none⟩=some (.int .u64 s.chal)∧(w.drewN n).cell? ⟨B,7,none⟩=some (.int .u64 s.their)∧St w (w.drewN n)):=
    qH (fun n=>⟨SCW.c2,SCW.c3,SCW.c0,SCW.c1,SCW.c5,SCW.c6,SCW.c7,(St.refl ht).drewN n⟩)
   clear CP hPz hP hR hRz hz l1 l2 hp hs hb SCW hB hd;go_enter Tryz.func177,Tryz.ntmps177;go_wp2_with fail;refine(C2.out _).mono ?_;rintro e w1 ⟨rfl,rfl⟩;go_wp2_with fail;go_region_held3 (fun w'=>w'.cell? ⟨B,2,none⟩=some (.string s.other.name)∧w'.cell? ⟨B,3,none⟩=some (.int .i64 s.other.gen)∧w'.cell? ⟨B,0,none⟩=some (.string s.self.name)∧w'.cell? ⟨B,1,none⟩=some (.int .i64 s.self.gen)∧w'.cell? ⟨B,5,none⟩=some (.string s.cookie)∧w'.cell? ⟨B,6,none⟩=some (.int .u64 s.chal)∧w'.cell? ⟨B,7,none⟩=some (.int .u64 s.their)∧St w w')
    (first|exact HS0.out 1|(obtain⟨s1,s2,s3,s4,s5,s6,s7,s8⟩:=(‹_∧_∧_∧_∧_∧_∧_∧St _ _›);exact⟨cell_keep (by assumption) s1,cell_keep (by assumption) s2,cell_keep (by assumption) s3,cell_keep (by assumption) s4,cell_keep (by assumption) s5,cell_keep (by assumption) s6,cell_keep (by assumption) s7,s8.keep (by assumption)⟩))
    (first
     | (go_at_call 204;refine(CP2.out _ ((‹_∧_∧_∧_∧_∧_∧_∧St _ _›).2.2.2.2.2.2.2).tabs).mono ?_;rintro e w2 ⟨rfl,b2⟩)
     | (go_at_call 205;refine(CE.out _).mono ?_;rintro e w3 ⟨rfl,b3⟩))
   all_goals
    have hSt:=(‹_∧_∧_∧_∧_∧_∧_∧St _ _›).2.2.2.2.2.2.2;have B3:=qH (HB.out.below hSt.bel HB.out.lt);have O3:=qH (Only.of_below [B] hSt.bel (Nat.le_refl _));have c10:=B3.out.cell 10;have f10:=B3.out.frozen 10;simp only[sdC,List.getElem?_toArray,List.getElem?_cons_succ,List.getElem?_cons_zero] at c10;clear hSt;cases d with
    | false=>
     go_wp2;go_ret2;exact⟨s,⟨#[]⟩,350,rfl,B3.out,O3.out,by rw[hA.out];rfl⟩
    | true=>
     go_wp2;go_ret2;exact⟨{ s with state:=3 },⟨#[]⟩,0,rfl,B3.out.set_ 10 (.int .i64 3),O3.out.trans (Only.setCell _ _ _ (by simp)),by rw[hA.out];rfl⟩
  ·
   have hA:Hid (ackF s b=failS s 6):=qH (by unfold ackF;rw[if_pos (.inl hz)]);obtain⟨R,hR⟩:∃ R,R=b.extract 1 b.size:=⟨_,rfl⟩;rw[←hR] at hRz C2;have hR32:((R.size:Int) != 32)=true:=by rw[bne_iff_ne];omega
   clear hR hRz hz l1 l2 hp hs hb hB;go_enter Tryz.func177,Tryz.ntmps177;go_wp2_with fail;refine(C2.out _).mono ?_;rintro e w1 ⟨rfl,rfl⟩;go_wp2;go_ret2;exact⟨s,⟨#[]⟩,6,rfl,HB.out,Only.refl _ _,by rw[hA.out];rfl⟩
 ·
  have hA:Hid (ackF s b=failS s 6):=by
   refine qH ?_;unfold ackF;rw[if_pos];rw[pre1,Bool.and_eq_true,decide_eq_true_eq,decide_eq_true_eq] at hp
   by_cases hz:b.size=33
   ·
    exact .inr (fun h=>hp ⟨by omega,h⟩)
   ·
    exact .inl hz
  have C:=qH (fun W=>cutq_no b ⟨#[4]⟩ (by simpa using hp) W);clear hp hs hb hB;go_enter Tryz.func177,Tryz.ntmps177;go_wp2_with fail;refine(C.out _).mono ?_;rintro e w1 ⟨rfl,rfl⟩;go_wp2;go_ret2;exact⟨s,⟨#[]⟩,6,rfl,HB.out,Only.refl _ _,by rw[hA.out];rfl⟩
end Go.Proofs.YtoaimoemaoinhaaGreatDoor.Sk
namespace Go.Proofs.YtoaimoemaoinhaaGreatDoor.Sk
open Go.RowKit Go.Rt Go.Rw
theorem Tabs.ne {w:World} (h:Tabs w) {B:Nat} {T:TypeId} {s:Sd} (hB:Blk w B T (sdC s)):B≠0∧B≠1:=by
 have c:=(sd_cells hB).c0;constructor
 ·
  rintro rfl
  have:=h.st 0 (by omega)
  rw[c] at this;cases this
 ·
  rintro rfl
  have:=h.kl 0 (by omega)
  rw[c] at this;cases this
theorem Tabs.only {w w':World} (h:Tabs w) {bs:List Nat} (ho:Only bs w w') (h0:0∉bs) (h1:1∉bs):Tabs w':=by
 have z:=h.two;refine⟨fun i hi=>?_,fun i hi=>?_⟩
 ·
  have:=h.st i hi
  unfold World.cell? at this ⊢;rw[ho.block 0 (by omega) h0];exact this
 ·
  have:=h.kl i hi
  unfold World.cell? at this ⊢;rw[ho.block 1 (by omega) h1];exact this
set_option maxHeartbeats 2000000 in
theorem reply_any (s:Sd) (hs:SdOk s) (b:ByteArray) (hb:b.size≤100000) (B:Nat) (w:World) (hB:Blk w B 141 (sdC s)) (ht:Tabs w) :
  Calls Tryz.prog 176 #[.pointer (some ⟨B,0,none⟩),.string b] w (Mid 141 B (replyF s b) w):=by
 have HB:=qH hB
 by_cases hp:preF b ⟨#[3]⟩=true
 ·
  have hp1:=hp;rw[pre1,Bool.and_eq_true,decide_eq_true_eq,decide_eq_true_eq] at hp1;obtain⟨l1,l2⟩:=hp1;have C2:Hid (∀ W,Calls Tryz.prog 200 #[.string b,.string ⟨#[3]⟩] W fun e w'=>e = .returned (.tuple #[.string (b.extract 1 b.size),.bool true])∧W=w'):=qH (fun W=>cutq_yes b ⟨#[3]⟩ hp W);have hRz:(b.extract 1 b.size).size=b.size-1:=ext_size _ _ _ (Nat.le_refl _)
  by_cases hz:b.size=41
  ·
   have x1:(b.extract 1 b.size).extract 0 8=b.extract 1 9:=by rw[ext_ext _ _ _ _ _ (by omega)]
   have x2:(b.extract 1 b.size).extract 8 40=b.extract 9 41:=by rw[ext_ext _ _ _ _ _ (by omega)]
   have hv8:(b.extract 1 9).size=8:=by rw[ext_size _ _ _ (by omega)]
   have CV:=fun W=>value_any (b.extract 1 9) (by omega) W
   rw[hv8] at CV;have htl:=valF_lt (b.extract 1 9) 8;have hA:Hid (replyF s b=if seqB (b.extract 9 41) (proofF letD s.other s.self s.cookie s.chal (valF (b.extract 1 9) 8))=false then failS { s with their:=valF (b.extract 1 9) 8 } 350 else ({ s with their:=valF (b.extract 1 9) 8,state:=3 },ackC++proofF letL s.self s.other s.cookie (valF (b.extract 1 9) 8) s.chal,0)):=by
    refine qH ?_;unfold replyF;rw[if_neg (by rw[l2];simp[hz])]
   obtain⟨t,htt⟩:∃ t,t=valF (b.extract 1 9) 8:=⟨_,rfl⟩;obtain⟨R,hR⟩:∃ R,R=b.extract 1 b.size:=⟨_,rfl⟩;obtain⟨M,hM⟩:∃ M,M=b.extract 9 41:=⟨_,rfl⟩;have hMz:M.size=32:=by rw[hM,ext_size _ _ _ (by omega)]
   rw[←htt] at hA CV htl;rw[←hR] at hRz C2 x1 x2;rw[←hM] at hA x2;rw[←x1] at CV;have HV:=qH CV;have ht8:t≤18446744073709551615:=by
    have:(256:Nat) ^ 8=18446744073709551616:=by decide
    omega
   have hR40:((R.size:Int) != 40)=false:=by rw[bne_eq_false_iff_eq];omega
   have hR8:(8:Int)≤R.size:=by omega
   have hRn:R.size=40:=by omega
   have CP:=qH (fun W hW=>proof_any letD s.other s.self s.cookie s.chal t (by decide) hs.other.1 (nameF_size _ hs.self.1).2 hs.other.2 hs.self.2 hs.cookie W hW);have CQ:=qH (fun W hW=>proof_any letL s.self s.other s.cookie t s.chal (by decide) (nameF_size _ hs.self.1).2 hs.other.1 hs.self.2 hs.other.2 hs.cookie W hW);have hPz:(proofF letD s.other s.self s.cookie s.chal t).size=32:=macS_size _ _;have hQz:(proofF letL s.self s.other s.cookie t s.chal).size=32:=macS_size _ _
   have CE:=qH (fun W=>equal_any M (proofF letD s.other s.self s.cookie s.chal t) (by omega) (by omega) W);obtain⟨P,hP⟩:∃ P,P=proofF letD s.other s.self s.cookie s.chal t:=⟨_,rfl⟩;obtain⟨Q,hQ⟩:∃ Q,Q=proofF letL s.self s.other s.cookie t s.chal:=⟨_,rfl⟩;rw[←hP] at hA CP CE;rw[←hQ] at hA CQ hQz;rw[seqB_dec] at hA;obtain⟨d,hd⟩:∃ d,d=decide (M=P):=⟨_,rfl⟩;rw[←hd] at hA CE;have CP2:Hid (∀ W,Tabs W→Calls Tryz.prog 204 #[.string ⟨#[68]⟩,.agg #[.string s.other.name,.int .i64 s.other.gen],.agg #[.string s.self.name,.int .i64 s.self.gen],.string s.cookie,.int .u64 s.chal,.int .u64 t] W fun e w'=>e = .returned (.string P)∧Below W.heap.size W w'):=CP
   have CQ2:Hid (∀ W,Tabs W→Calls Tryz.prog 204 #[.string ⟨#[76]⟩,.agg #[.string s.self.name,.int .i64 s.self.gen],.agg #[.string s.other.name,.int .i64 s.other.gen],.string s.cookie,.int .u64 t,.int .u64 s.chal] W fun e w'=>e = .returned (.string Q)∧Below W.heap.size W w'):=CQ;have hQs:¬9223372036854775807<1+Q.size:=by omega
   obtain⟨nB0,nB1⟩:=Tabs.ne ht hB;have O1:Only [B] w (w.setCell ⟨B,7,none⟩ (.int .u64 (t:Int))):=Only.setCell _ _ _ (by simp);have X1:Blk (w.setCell ⟨B,7,none⟩ (.int .u64 (t:Int))) B 141 (sdC { s with their:=t }):=hB.set_ 7 (.int .u64 (t:Int));have T1:=ht.only O1 (by simp;omega) (by simp;omega);have c7:=(sd_cells hB).c7;have f7:=hB.frozen 7;have HT5:Hid (∀ W,Only [B] w W→Tabs W):=qH (fun W h=>ht.only h (by simp;omega) (by simp;omega))
   have x1':R.extract 0 8=R.extract 0 8:=rfl;have hMR:R.extract 8 R.size=M:=by rw[hRn];exact x2
   have hRle:R.size≤40:=by omega
   clear CP CQ hPz hQz hP hQ hR hRz hz l1 l2 hp hs hb hB hd x1 x2 hv8 htt hM hMz CV htl ht8 hRn ht x1' nB0 nB1;go_enter Tryz.func176,Tryz.ntmps176;go_wp2_with fail;refine(C2.out _).mono ?_;rintro e w1 ⟨rfl,rfl⟩;go_wp2_with fail;refine(HV.out _).mono ?_;rintro e w2 ⟨rfl,rfl⟩;go_wp2_with fail;generalize w.setCell ⟨B,7,none⟩ (.int .u64 (t:Int))=W1 at O1 X1 T1 ⊢;have O1':=qH O1;have X1':=qH X1;have SCW:=sd_cells X1
   have HS0:Hid (∀ n,(W1.drewN n).cell? ⟨B,2,none⟩=some (.string s.other.name)∧(W1.drewN n).cell? ⟨B,3,none⟩=some (.int .i64 s.other.gen)∧(W1.drewN n).cell? ⟨B,0,none⟩=some (.string s.self.name)∧(W1.drewN n).cell? ⟨B,1,none⟩=some (.int .i64 s.self.gen)∧(W1.drewN n).cell? ⟨B,5,none⟩=some (.string s.cookie)∧(W1.drewN n).cell? ⟨B,6,none⟩=some (.int .u64 s.chal)∧(W1.drewN n).cell? ⟨B,7,none⟩=some (.int .u64 t)∧St W1 (W1.drewN n)):=
    qH (fun n=>⟨SCW.c2,SCW.c3,SCW.c0,SCW.c1,SCW.c5,SCW.c6,SCW.c7,(St.refl T1).drewN n⟩)
   clear O1 X1 SCW T1 c7 f7;go_region_held3 (fun w'=>w'.cell? ⟨B,2,none⟩=some (.string s.other.name)∧w'.cell? ⟨B,3,none⟩=some (.int .i64 s.other.gen)∧w'.cell? ⟨B,0,none⟩=some (.string s.self.name)∧w'.cell? ⟨B,1,none⟩=some (.int .i64 s.self.gen)∧w'.cell? ⟨B,5,none⟩=some (.string s.cookie)∧w'.cell? ⟨B,6,none⟩=some (.int .u64 s.chal)∧w'.cell? ⟨B,7,none⟩=some (.int .u64 t)∧St W1 w')
    (first|exact HS0.out 1|(obtain⟨s1,s2,s3,s4,s5,s6,s7,s8⟩:=(‹_∧_∧_∧_∧_∧_∧_∧St _ _›);exact⟨cell_keep (by assumption) s1,cell_keep (by assumption) s2,cell_keep (by assumption) s3,cell_keep (by assumption) s4,cell_keep (by assumption) s5,cell_keep (by assumption) s6,cell_keep (by assumption) s7,s8.keep (by assumption)⟩))
    (first
     | (go_at_call 204;refine(CP2.out _ ((‹_∧_∧_∧_∧_∧_∧_∧St _ _›).2.2.2.2.2.2.2).tabs).mono ?_;rintro e w3 ⟨rfl,b3⟩)
     | (go_at_call 205;refine(CE.out _).mono ?_;rintro e w4 ⟨rfl,b4⟩))
   all_goals
    have hSt:=(‹_∧_∧_∧_∧_∧_∧_∧St _ _›).2.2.2.2.2.2.2;have B4:=qH (X1'.out.below hSt.bel X1'.out.lt);have O4:=qH (O1'.out.trans (Only.of_below [B] hSt.bel (Nat.le_refl _)));have T4:=qH hSt.tabs;have c10:=B4.out.cell 10;have f10:=B4.out.frozen 10;simp only[sdC,List.getElem?_toArray,List.getElem?_cons_succ,List.getElem?_cons_zero] at c10;clear hSt HS0;cases d with
    | false=>
     go_wp2;go_ret2;exact⟨{ s with their:=t },⟨#[]⟩,350,rfl,B4.out,O4.out,by rw[hA.out];rfl⟩
    | true=>
     go_wp2_with fail;have O5:Only [B] w (w4.setCell ⟨B,10,none⟩ (.int .i64 3)):=O4.out.trans (Only.setCell _ _ _ (by simp));have X5:Blk (w4.setCell ⟨B,10,none⟩ (.int .i64 3)) B 141 (sdC { s with their:=t,state:=3 }):=B4.out.set_ 10 (.int .i64 3);have T5:=HT5.out _ O5;generalize w4.setCell ⟨B,10,none⟩ (.int .i64 3)=W5 at O5 X5 T5 ⊢;have O5':=qH O5;have X5':=qH X5;have SCW5:=sd_cells X5;have HS5:Hid (∀ n,(W5.drewN n).cell? ⟨B,2,none⟩=some (.string s.other.name)∧(W5.drewN n).cell? ⟨B,3,none⟩=some (.int .i64 s.other.gen)∧(W5.drewN n).cell? ⟨B,0,none⟩=some (.string s.self.name)∧(W5.drewN n).cell? ⟨B,1,none⟩=some (.int .i64 s.self.gen)∧(W5.drewN n).cell? ⟨B,5,none⟩=some (.string s.cookie)∧(W5.drewN n).cell? ⟨B,6,none⟩=some (.int .u64 s.chal)∧(W5.drewN n).cell? ⟨B,7,none⟩=some (.int .u64 t)∧St W5 (W5.drewN n)):=
      qH (fun n=>⟨SCW5.c2,SCW5.c3,SCW5.c0,SCW5.c1,SCW5.c5,SCW5.c6,SCW5.c7,(St.refl T5).drewN n⟩)
     clear O5 X5 SCW5 T5 c10 f10;go_region_held3 (fun w'=>w'.cell? ⟨B,2,none⟩=some (.string s.other.name)∧w'.cell? ⟨B,3,none⟩=some (.int .i64 s.other.gen)∧w'.cell? ⟨B,0,none⟩=some (.string s.self.name)∧w'.cell? ⟨B,1,none⟩=some (.int .i64 s.self.gen)∧w'.cell? ⟨B,5,none⟩=some (.string s.cookie)∧w'.cell? ⟨B,6,none⟩=some (.int .u64 s.chal)∧w'.cell? ⟨B,7,none⟩=some (.int .u64 t)∧St W5 w')
      (first|exact HS5.out 1|(obtain⟨s1,s2,s3,s4,s5,s6,s7,s8⟩:=(‹_∧_∧_∧_∧_∧_∧_∧St _ _›);exact⟨cell_keep (by assumption) s1,cell_keep (by assumption) s2,cell_keep (by assumption) s3,cell_keep (by assumption) s4,cell_keep (by assumption) s5,cell_keep (by assumption) s6,cell_keep (by assumption) s7,s8.keep (by assumption)⟩))
      ((go_at_call 204;refine(CQ2.out _ ((‹_∧_∧_∧_∧_∧_∧_∧St _ _›).2.2.2.2.2.2.2).tabs).mono ?_;rintro e w6 ⟨rfl,b6⟩))
     all_goals
      have hSt:=(‹_∧_∧_∧_∧_∧_∧_∧St _ _›).2.2.2.2.2.2.2;go_wp2;go_ret2;exact⟨{ s with their:=t,state:=3 },ackC++Q,0,rfl,X5'.out.below hSt.bel X5'.out.lt,O5'.out.trans (Only.of_below [B] hSt.bel (Nat.le_refl _)),by rw[hA.out];rfl⟩
  ·
   have hA:Hid (replyF s b=failS s 6):=qH (by unfold replyF;rw[if_pos (.inl hz)]);obtain⟨R,hR⟩:∃ R,R=b.extract 1 b.size:=⟨_,rfl⟩;rw[←hR] at hRz C2;have hR32:((R.size:Int) != 40)=true:=by rw[bne_iff_ne];omega
   clear hR hRz hz l1 l2 hp hs hb hB;go_enter Tryz.func176,Tryz.ntmps176;go_wp2_with fail;refine(C2.out _).mono ?_;rintro e w1 ⟨rfl,rfl⟩;go_wp2;go_ret2;exact⟨s,⟨#[]⟩,6,rfl,HB.out,Only.refl _ _,by rw[hA.out];rfl⟩
 ·
  have hA:Hid (replyF s b=failS s 6):=by
   refine qH ?_;unfold replyF;rw[if_pos];rw[pre1,Bool.and_eq_true,decide_eq_true_eq,decide_eq_true_eq] at hp
   by_cases hz:b.size=41
   ·
    exact .inr (fun h=>hp ⟨by omega,h⟩)
   ·
    exact .inl hz
  have C:=qH (fun W=>cutq_no b ⟨#[3]⟩ (by simpa using hp) W);clear hp hs hb hB;go_enter Tryz.func176,Tryz.ntmps176;go_wp2_with fail;refine(C.out _).mono ?_;rintro e w1 ⟨rfl,rfl⟩;go_wp2;go_ret2;exact⟨s,⟨#[]⟩,6,rfl,HB.out,Only.refl _ _,by rw[hA.out];rfl⟩
end Go.Proofs.YtoaimoemaoinhaaGreatDoor.Sk
namespace Go.Proofs.YtoaimoemaoinhaaGreatDoor.Sk
open Go.RowKit Go.Rt Go.Rw
theorem greetF_none (s:Sd) (b:ByteArray) (h:readHF b=none):greetF s b=failS s 6:=by unfold greetF;rw[h]
theorem greetF_some (s:Sd) (b want:ByteArray) (p:Pr) (h:readHF b=some (p,want)) :
  greetF s b=if seqB want s.self.name=false∨seqB p.name s.self.name=true then failS s 351 else ({ s with other:=p,state:=2 },⟨#[]⟩,0):=by
 unfold greetF;rw[h]
theorem toList_nil {b:ByteArray} : b.toList = []↔b.size=0:=by
 rw[ByteArray.toList_eq];constructor
 ·
  intro h
  have:b.data.toList.length=0:=by rw[h];rfl
  simpa using this
 ·
  intro h;apply List.eq_nil_of_length_eq_zero
  simpa using h
theorem nil_facts {b:ByteArray} (h:b.size=0):b.toList = []∧b.toList.isEmpty=true:=by
 have:=toList_nil.2 h
 exact⟨this,by rw[this];rfl⟩
theorem cons_facts {b:ByteArray} (h:b.size≠0):(¬b.toList = [])∧b.toList.isEmpty=false:=by
 have:¬b.toList = []:=fun e=>h (toList_nil.1 e)
 exact⟨this,by rw[List.isEmpty_eq_false_iff];exact this⟩
set_option maxHeartbeats 2000000 in
theorem greet_any (s:Sd) (_hs:SdOk s) (b:ByteArray) (hb:b.size≤100000) (B:Nat) (w:World) (hB:Blk w B 141 (sdC s)) :
  Calls Tryz.prog 174 #[.pointer (some ⟨B,0,none⟩),.string b] w (Mid 141 B (greetF s b) w):=by
 have HB:=qH hB;have e2:(ByteArray.mk #[1,1]).size=2:=rfl
 by_cases hp:preF b ⟨#[1,1]⟩=true
 ·
  have hp1:=hp;unfold preF at hp1;rw[e2,Bool.and_eq_true,decide_eq_true_eq] at hp1;have h0:¬(b.size<2∨seqB (b.extract 0 2) helloC=false):=by
   rintro(h|h)
   ·
    omega
   ·
    have:seqB (b.extract 0 2) helloC=true:=hp1.2
    rw[this] at h;cases h
  have C2:Hid (∀ W,Calls Tryz.prog 200 #[.string b,.string ⟨#[1,1]⟩] W fun e w'=>e = .returned (.tuple #[.string (b.extract 2 b.size),.bool true])∧W=w'):=qH (fun W=>cutq_yes b ⟨#[1,1]⟩ hp W);have hRz:(b.extract 2 b.size).size=b.size-2:=ext_size _ _ _ (Nat.le_refl _);have CP:=qH (fun W=>cutP_any (b.extract 2 b.size) (by omega) W);have HN:=qH (fun h=>greetF_none s b (readHF_none b h));have HBd:=qH (fun r p h hr=>greetF_none s b (readHF_bad b r p h hr))
  have HG:=qH (fun r p h hr=>greetF_some s b _ p (readHF_good b r p h0 h hr));obtain⟨R,hR⟩:∃ R,R=b.extract 2 b.size:=⟨_,rfl⟩;rw[←hR] at hRz C2 CP HN HBd HG;have hRle:R.size≤100000:=by omega
  have SCW:=qH (sd_cells hB);have HFR:=qH (fun j=>hB.frozen j);have LTB:=qH hB.lt;clear hp hp1 h0 hR hRz hB e2 _hs hb;go_enter Tryz.func174,Tryz.ntmps174;go_wp2_with fail;refine(C2.out _).mono ?_;rintro e w0 ⟨rfl,rfl⟩;go_wp2_with fail;refine(CP.out _).mono ?_;rintro e w1 ⟨⟨nm,g,r,ok,rfl,hrd⟩,b1⟩;have HRD:=qH hrd;have B1:=qH b1;clear hrd b1;cases ok with
  | false=>
   have hA:=qH (HN.out HRD.out);have B2:=qH (B1.out.alloc B1.out.size (.cells #[.string nm,.int .i64 (g:Int)] 52));go_wp2;go_ret2;exact⟨s,⟨#[]⟩,6,rfl,HB.out.below B2.out LTB.out,Only.of_below [B] B2.out (Nat.le_refl _),by rw[hA.out];rfl⟩
  | true=>
   have HRD2:Hid (readPF R=some (⟨nm,g⟩,r)):=qH HRD.out;have hrz:=readPF_le HRD2.out;have hrz2:r.size≤100000:=by omega
   have B2:=qH (B1.out.alloc B1.out.size (.cells #[.string nm,.int .i64 (g:Int)] 52));have k0:(w1.alloc (.cells #[.string nm,.int .i64 (g:Int)] 52)).cell? ⟨w1.heap.size,0,none⟩=some (.string nm):=by simp
   have k1:(w1.alloc (.cells #[.string nm,.int .i64 (g:Int)] 52)).cell? ⟨w1.heap.size,1,none⟩=some (.int .i64 (g:Int)):=by simp
   have K0:=qH k0;have K1:=qH k1;have Z1:=qH B1.out.size;clear HRD hrz B1 HN k0 k1
   by_cases hr0:r.size=0∨r.size<1+atB r 0
   ·
    have C:Hid (∀ W,Calls Tryz.prog 202 #[.string r] W fun e w'=>e = .returned (.tuple #[.string ⟨#[]⟩,.string ⟨#[]⟩,.bool false])∧W=w'):=by
     refine qH fun W=>?_
     rcases hr0 with h0|h0
     ·
      exact cut_none r h0 W
     ·
      rcases Nat.eq_zero_or_pos r.size with hq|hq
      ·
       exact cut_none r hq W
      ·
       exact cut_short r hq (by rw[←atB_get r 0 hq];exact h0) W
    have hA:=qH (HBd.out r _ HRD2.out (by rcases hr0 with h|h;exact .inl h;exact .inr (.inl (by omega))));clear hr0;go_wp2_with fail;refine(C.out _).mono ?_;rintro e w2 ⟨rfl,rfl⟩;go_wp2;go_ret2;exact⟨s,⟨#[]⟩,6,rfl,HB.out.below B2.out LTB.out,Only.of_below [B] B2.out (Nat.le_refl _),by rw[hA.out];rfl⟩
   ·
    have hrp:0<r.size:=by omega
    have hrl:1+atB r 0≤r.size:=by omega
    have C:=qH (fun W=>cut_any' r hrp hrl (by omega) W);have hTz:(r.extract (1+atB r 0) r.size).size=r.size-(1+atB r 0):=ext_size _ _ _ (Nat.le_refl _)
    by_cases hr1:r.size=1+atB r 0
    ·
     have hW:r.extract 1 (1+atB r 0)=r.extract 1 r.size:=by rw[←hr1]
     rw[hW] at C;obtain⟨t1,t2⟩:=nil_facts (b:=r.extract (1+atB r 0) r.size) (by omega);have HG1:=qH (HG.out r ⟨nm,g⟩ HRD2.out);have HB1:=qH (HBd.out r ⟨nm,g⟩ HRD2.out);obtain⟨tl,htl⟩:∃ tl,tl=r.extract (1+atB r 0) r.size:=⟨_,rfl⟩;obtain⟨want,hwant⟩:∃ want,want=r.extract 1 r.size:=⟨_,rfl⟩;rw[←htl] at C t1 t2;rw[←hwant] at C HG1 HB1;have CN:=qH (fun W=>nameV_any want W);have T1:=qH t1;clear hTz htl hwant hW HBd HG t1
     cases hn:nameF want with
     | false=>
      rw[hn] at CN;have hA:=qH (HB1.out (.inr (.inr hn)));clear HG1 HB1 hr0 hrl hr1 hn;have t1:=T1.out;go_wp2_with fail;refine(C.out _).mono ?_;rintro e w2 ⟨rfl,b2⟩;have B3:=qH (B2.out.trans (b2.mono B2.out.size));clear b2;go_wp2_with fail;refine(CN.out _).mono ?_;rintro e w3 ⟨rfl,b3⟩;have B4:=qH (B3.out.trans (b3.mono B3.out.size));clear b3;go_wp2;go_ret2;exact⟨s,⟨#[]⟩,6,rfl,HB.out.below B4.out LTB.out,Only.of_below [B] B4.out (Nat.le_refl _),by rw[hA.out];rfl⟩
     | true=>
      rw[hn] at CN;have hA:=qH (HG1.out (by rintro(h|h|h);exact hr0 (.inl h);exact h hr1;rw[hn] at h;cases h));clear HG1 HB1 hr0 hrl hr1 hn;have t1:=T1.out;go_wp2_with fail;refine(C.out _).mono ?_;rintro e w2 ⟨rfl,b2⟩;have B3:=qH (B2.out.trans (b2.mono B2.out.size));have K0a:=qH (cell_keep b2 K0.out);have K1a:=qH (cell_keep b2 K1.out);clear b2;go_wp2_with fail;refine(CN.out _).mono ?_;rintro e w3 ⟨rfl,b3⟩
      have B4:=qH (B3.out.trans (b3.mono B3.out.size));have k0:=cell_keep b3 K0a.out;have k1:=cell_keep b3 K1a.out;have hB4:=HB.out.below B4.out LTB.out;have s0:=(sd_cells hB4).c0;have s2:=(sd_cells hB4).c2;have s3:=(sd_cells hB4).c3;have s10:=(sd_cells hB4).c10;have fr:=fun j=>hB4.frozen j
      have HB4:=qH hB4;clear b3 hB4;cases x1:(want.toList==s.self.name.toList) with
      | false=>
       have hE:Hid (greetF s b=failS s 351):=qH (by rw[hA.out,if_pos (.inl x1)]);go_wp2_with fail;go_quiet (fail);go_wp2;go_ret2;exact⟨s,⟨#[]⟩,351,rfl,HB4.out.drewN _,Only.of_below [B] (below_drewN B4.out _) (Nat.le_refl _),by rw[hE.out];rfl⟩
      | true=>
       cases x2:(nm.toList==s.self.name.toList) with
       | true=>
        have hE:Hid (greetF s b=failS s 351):=qH (by rw[hA.out,if_pos (.inr x2)]);go_wp2_with fail;go_quiet (fail);go_wp2;go_ret2;exact⟨s,⟨#[]⟩,351,rfl,HB4.out.drewN _,Only.of_below [B] (below_drewN B4.out _) (Nat.le_refl _),by rw[hE.out];rfl⟩
       | false=>
        have hE:Hid (greetF s b=({ s with other:=⟨nm,g⟩,state:=2 },⟨#[]⟩,0)):=by
         refine qH ?_;rw[hA.out,if_neg];rintro(h|h)
         ·
          have:seqB want s.self.name=true:=x1
          rw[this] at h;cases h
         ·
          have:seqB nm s.self.name=false:=x2
          rw[this] at h;cases h
        go_wp2_with fail;go_quiet (fail);go_wp2;go_ret2;have O1:=Only.of_below [B] B4.out (Nat.le_refl _);have X:=((HB4.out.set_ 2 (.string nm)).set_ 3 (.int .i64 (g:Int))).set_ 10 (.int .i64 2);have O:=((O1.trans (Only.setCell w3 ⟨B,2,none⟩ (.string nm) (by simp))).trans (Only.setCell _ ⟨B,3,none⟩ (.int .i64 (g:Int)) (by simp))).trans (Only.setCell _ ⟨B,10,none⟩ (.int .i64 2) (by simp));exact⟨{ s with other:=⟨nm,g⟩,state:=2 },⟨#[]⟩,0,rfl,X.drewN nq,⟨O.os,O.tape,O.output,O.size,O.block⟩,by rw[hE.out];rfl⟩
    ·
     have hA:=qH (HBd.out r _ HRD2.out (.inr (.inl hr1)));obtain⟨t1,t2⟩:=cons_facts (b:=r.extract (1+atB r 0) r.size) (by omega);obtain⟨tl,htl⟩:∃ tl,tl=r.extract (1+atB r 0) r.size:=⟨_,rfl⟩;rw[←htl] at C t1 t2;clear hTz htl hr0 hr1 hrl HBd HG;go_wp2_with fail;refine(C.out _).mono ?_;rintro e w2 ⟨rfl,b2⟩;have B3:=qH (B2.out.trans (b2.mono B2.out.size));clear b2;go_wp2;go_ret2;exact⟨s,⟨#[]⟩,6,rfl,HB.out.below B3.out LTB.out,Only.of_below [B] B3.out (Nat.le_refl _),by rw[hA.out];rfl⟩
 ·
  have hA:Hid (greetF s b=failS s 6):=by
   refine qH (greetF_none s b (readHF_short b ?_));unfold preF at hp;rw[e2,Bool.and_eq_true,decide_eq_true_eq] at hp
   by_cases hz:b.size<2
   ·
    exact .inl hz
   ·
    refine .inr ?_;cases hh:seqB (b.extract 0 2) helloC with
    | false=>rfl
    | true=>exact absurd ⟨by omega,hh⟩ hp
  have C:=qH (fun W=>cutq_no b ⟨#[1,1]⟩ (by simpa using hp) W);clear hp _hs hb hB e2;go_enter Tryz.func174,Tryz.ntmps174;go_wp2_with fail;refine(C.out _).mono ?_;rintro e w1 ⟨rfl,rfl⟩;go_wp2;go_ret2;exact⟨s,⟨#[]⟩,6,rfl,HB.out,Only.refl _ _,by rw[hA.out];rfl⟩
end Go.Proofs.YtoaimoemaoinhaaGreatDoor.Sk
