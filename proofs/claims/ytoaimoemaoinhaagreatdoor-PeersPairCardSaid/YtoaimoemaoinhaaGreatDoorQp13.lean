/- PeersX: a part of the proof. No condition beyond the premises of each theorem. -/
import Derived.Test.YtoaimoemaoinhaaGreatDoorQp12
import Derived.Test.YtoaimoemaoinhaaGreatDoorQp08
import Derived.MapKept
import Derived.Deep.RegionLaw
import Derived.Test.YtoaimoemaoinhaaGreatDoorQp00
set_option maxRecDepth 100000
namespace Go.Proofs.YtoaimoemaoinhaaGreatDoor.Sk
open Go.RowKit Go.Rt Go.Rw
theorem busy_eq : ByteArray.mk #[2]++numF 2 1=busyC:=ByteArray.ext (by simp[ByteArray.data_append,numF,numL,busyC])
theorem stale_eq : ByteArray.mk #[2]++numF 3 1=staleC:=ByteArray.ext (by simp[ByteArray.data_append,numF,numL,staleC])
theorem pre2_no (b:ByteArray) (c:ByteArray) (hc:c.size=2) (h:¬preF b c=true):b.size<2∨seqB (b.extract 0 2) c=false:=by
 unfold preF at h;rw[hc,Bool.and_eq_true,decide_eq_true_eq] at h
 by_cases hz:b.size<2
 ·
  exact .inl hz
 ·
  refine .inr ?_;cases hh:seqB (b.extract 0 2) c with
  | false=>rfl
  | true=>exact absurd ⟨by omega,hh⟩ h
theorem pre2_yes (b:ByteArray) (c:ByteArray) (hc:c.size=2) (h:preF b c=true):¬(b.size<2∨seqB (b.extract 0 2) c=false):=by
 unfold preF at h;rw[hc,Bool.and_eq_true,decide_eq_true_eq] at h;rintro(q|q)
 ·
  omega
 ·
  have:seqB (b.extract 0 2) c=true:=h.2
  rw[this] at q;cases q
theorem offerF_refused (s:Sd) (b:ByteArray) (h:seqB b busyC=true∨seqB b staleC=true):offerF s b=failS s 351:=by unfold offerF;rw[if_pos h]
theorem offerF_form (s:Sd) (b:ByteArray) (h:¬(seqB b busyC=true∨seqB b staleC=true)) (h2:b.size<2∨seqB (b.extract 0 2) offerC=false):offerF s b=failS s 6:=by unfold offerF;rw[if_neg h,if_pos h2]
theorem offerF_none (s:Sd) (b:ByteArray) (h:¬(seqB b busyC=true∨seqB b staleC=true)) (h2:¬(b.size<2∨seqB (b.extract 0 2) offerC=false)) (h3:readPF (b.extract 2 b.size)=none):offerF s b=failS s 6:=by
 unfold offerF;rw[if_neg h,if_neg h2,h3]
theorem offerF_some (s:Sd) (b r:ByteArray) (p:Pr) (h:¬(seqB b busyC=true∨seqB b staleC=true)) (h2:¬(b.size<2∨seqB (b.extract 0 2) offerC=false)) (h3:readPF (b.extract 2 b.size)=some (p,r)) :
  offerF s b=if r.size≠8 then failS s 6 else if seqB p.name s.want=false then failS s 351 else ({ s with other:=p,their:=valF r 8,sent:=true },replyC++numF s.chal 8++proofF letD s.self p s.cookie (valF r 8) s.chal,0):=by
 unfold offerF;rw[if_neg h,if_neg h2,h3]
theorem readPF_valid {b r:ByteArray} {p:Pr} (h:readPF b=some (p,r)):nameF p.name=true∧p.gen≤2147483647:=by
 unfold readPF at h;split at h
 ·
  cases h
 ·
  simp only at h
  split at h
  ·
   rename_i hv;simp only[Option.some.injEq,Prod.mk.injEq] at h;rw[←h.1];unfold validF genB at hv;simp only[Bool.and_eq_true,decide_eq_true_eq] at hv;exact⟨hv.1,hv.2.2⟩
  ·
   cases h
set_option maxHeartbeats 2000000 in
theorem offer_any (s:Sd) (hs:SdOk s) (b:ByteArray) (hb:b.size≤100000) (B:Nat) (w:World) (hB:Blk w B 141 (sdC s)) (ht:Tabs w) :
  Calls Tryz.prog 175 #[.pointer (some ⟨B,0,none⟩),.string b] w (Mid 141 B (offerF s b) w):=by
 have HB:=qH hB;have LTB:=qH hB.lt;have HT:=qH ht;have HOK:=qH hs;obtain⟨nB0,nB1⟩:=Tabs.ne ht hB;have HTO:Hid (∀ W,Only [B] w W→Tabs W):=qH (fun W h=>ht.only h (by simp;omega) (by simp;omega));have z2:=numF_size 2 1;have z3:=numF_size 3 1;have HE2:=qH busy_eq;have HE3:=qH stale_eq;have C1:Hid (∀ W,Calls Tryz.prog 126 #[.int .u64 2,.int .i64 1] W fun e w'=>e = .returned (.string (numF 2 1))∧Below W.heap.size W w'):=qH (fun W=>bytes_any 2 1 (by omega) W)
 have C2:Hid (∀ W,Calls Tryz.prog 126 #[.int .u64 3,.int .i64 1] W fun e w'=>e = .returned (.string (numF 3 1))∧Below W.heap.size W w'):=qH (fun W=>bytes_any 3 1 (by omega) W);obtain⟨q2,hq2⟩:∃ q,q=numF 2 1:=⟨_,rfl⟩;obtain⟨q3,hq3⟩:∃ q,q=numF 3 1:=⟨_,rfl⟩;rw[←hq2] at z2 C1 HE2;rw[←hq3] at z3 C2 HE3;have z2':q2.size≤1:=by omega
 have z3':q3.size≤1:=by omega
 have sz2:¬9223372036854775807<1+q2.size:=by omega
 have sz3:¬9223372036854775807<1+q3.size:=by omega
 clear z2 z3 hq2 hq3 hs ht hB nB0 nB1;cases x1:(b.toList==(ByteArray.mk #[2]++q2).toList) with
 | true=>
  have hA:Hid (offerF s b=failS s 351):=qH (offerF_refused s b (.inl (by unfold seqB;rw[←HE2.out];exact x1)));go_enter Tryz.func175,Tryz.ntmps175;go_wp2_with fail;refine(C1.out _).mono ?_;rintro e w1 ⟨rfl,b1⟩;have B1:=qH b1;clear b1;go_wp2;go_ret2;exact⟨s,⟨#[]⟩,351,rfl,HB.out.below B1.out LTB.out,Only.of_below [B] B1.out (Nat.le_refl _),by rw[hA.out];rfl⟩
 | false=>
  cases x2:(b.toList==(ByteArray.mk #[2]++q3).toList) with
  | true=>
   have hA:Hid (offerF s b=failS s 351):=qH (offerF_refused s b (.inr (by unfold seqB;rw[←HE3.out];exact x2)));go_enter Tryz.func175,Tryz.ntmps175;go_wp2_with fail;refine(C1.out _).mono ?_;rintro e w1 ⟨rfl,b1⟩;have B1:=qH b1;clear b1;go_wp2_with fail;refine(C2.out _).mono ?_;rintro e w2 ⟨rfl,b2⟩;have B2:=qH (B1.out.trans (b2.mono B1.out.size));clear b2;go_wp2;go_ret2;exact⟨s,⟨#[]⟩,351,rfl,HB.out.below B2.out LTB.out,Only.of_below [B] B2.out (Nat.le_refl _),by rw[hA.out];rfl⟩
  | false=>
   have hNR:Hid (¬(seqB b busyC=true∨seqB b staleC=true)):=by
    refine qH ?_;rintro(h|h)
    ·
     rw[←HE2.out] at h;unfold seqB at h;rw[x1] at h;cases h
    ·
     rw[←HE3.out] at h;unfold seqB at h;rw[x2] at h;cases h
   by_cases hp:preF b ⟨#[2,1]⟩=true
   ·
    have hP2:=qH (pre2_yes b ⟨#[2,1]⟩ rfl hp);have CC:Hid (∀ W,Calls Tryz.prog 200 #[.string b,.string ⟨#[2,1]⟩] W fun e w'=>e = .returned (.tuple #[.string (b.extract 2 b.size),.bool true])∧W=w'):=qH (fun W=>cutq_yes b ⟨#[2,1]⟩ hp W);have hRz:(b.extract 2 b.size).size=b.size-2:=ext_size _ _ _ (Nat.le_refl _);have CP:=qH (fun W=>cutP_any (b.extract 2 b.size) (by omega) W);have HN:=qH (fun h=>offerF_none s b hNR.out hP2.out h)
    have HG:=qH (fun r p h=>offerF_some s b r p hNR.out hP2.out h);obtain⟨R,hR⟩:∃ R,R=b.extract 2 b.size:=⟨_,rfl⟩;rw[←hR] at hRz CC CP HN HG;have hRle:R.size≤100000:=by omega
    clear hp hR hRz hb hNR hP2 HE2 HE3;go_enter Tryz.func175,Tryz.ntmps175;go_wp2_with fail;refine(C1.out _).mono ?_;rintro e w1 ⟨rfl,b1⟩;have B1:=qH b1;clear b1;go_wp2_with fail;refine(C2.out _).mono ?_;rintro e w2 ⟨rfl,b2⟩;have B2:=qH (B1.out.trans (b2.mono B1.out.size));clear b2;go_wp2_with fail;refine(CC.out _).mono ?_;rintro e w2' ⟨rfl,rfl⟩;go_wp2_with fail;refine(CP.out _).mono ?_;rintro e w3 ⟨⟨nm,g,r,ok,rfl,hrd⟩,b3⟩
    have HRD:=qH hrd;have B3:=qH (B2.out.trans (b3.mono B2.out.size));have B4:=qH (B3.out.alloc B3.out.size (.cells #[.string nm,.int .i64 (g:Int)] 52));clear hrd b3;cases ok with
    | false=>
     have hA:=qH (HN.out HRD.out);go_wp2;go_ret2;exact⟨s,⟨#[]⟩,6,rfl,HB.out.below B4.out LTB.out,Only.of_below [B] B4.out (Nat.le_refl _),by rw[hA.out];rfl⟩
    | true=>
     have HRD2:Hid (readPF R=some (⟨nm,g⟩,r)):=qH HRD.out;have hrz:=readPF_le HRD2.out;have hrz2:r.size≤100000:=by omega
     have hrv:=qH (readPF_valid HRD2.out);have HA:=qH (HG.out r ⟨nm,g⟩ HRD2.out);clear HRD hrz HN HG HRD2
     by_cases h8:r.size=8
     ·
      have h8':((r.size:Int) != 8)=false:=by rw[bne_eq_false_iff_eq];omega
      have HA2:Hid (offerF s b=if seqB nm s.want=false then failS s 351 else ({ s with other:=⟨nm,g⟩,their:=valF r 8,sent:=true },replyC++numF s.chal 8++proofF letD s.self ⟨nm,g⟩ s.cookie (valF r 8) s.chal,0)):=by
       refine qH ?_;rw[HA.out,if_neg (by simp[h8])]
      have CV:Hid (∀ W,Calls Tryz.prog 203 #[.string r] W fun e w'=>e = .returned (.int .u64 (valF r 8))∧W=w'):=by
       refine qH fun W=>?_
       have:=value_any r (by omega) W
       rwa [h8] at this
      have htl:=valF_lt r 8;obtain⟨t,htt⟩:∃ t,t=valF r 8:=⟨_,rfl⟩;rw[←htt] at HA2 CV htl;have HTL:Hid (t≤18446744073709551615):=by
       refine qH ?_
       have:(256:Nat) ^ 8=18446744073709551616:=by decide
       omega
      clear HA h8 htl htt;have lx:=B3.out.size;have k0:(w3.alloc (.cells #[.string nm,.int .i64 (g:Int)] 52)).cell? ⟨w3.heap.size,0,none⟩=some (.string nm):=by simp
      have k1:(w3.alloc (.cells #[.string nm,.int .i64 (g:Int)] 52)).cell? ⟨w3.heap.size,1,none⟩=some (.int .i64 (g:Int)):=by simp
      have hB4:=HB.out.below B4.out LTB.out;have neX:¬w3.heap.size=B:=by have:=LTB.out;omega
      have neX2:¬B=w3.heap.size:=by omega
      have LX:Hid (w.heap.size≤w3.heap.size):=qH lx;have SC4:=sd_cells hB4;have s4:=SC4.c4;have s2:=SC4.c2;have s3:=SC4.c3;have s7:=SC4.c7;have s9:=SC4.c9;have fr:=fun j=>hB4.frozen j
      have HB4:=qH hB4;have T4:=qH (HT.out.below B4.out HT.out.two);clear hB4 SC4;go_wp2_with fail;generalize w3.heap.size=X at neX neX2 LX k0 k1 lx ⊢;generalize w3.alloc (.cells #[.string nm,.int .i64 (g:Int)] 52)=W4 at k0 k1 s4 s2 s3 s7 s9 fr HB4 T4 B4 ⊢;cases x3:(nm.toList==s.want.toList) with
      | false=>
       have hA:Hid (offerF s b=failS s 351):=qH (by rw[HA2.out,if_pos (show seqB nm s.want=false from x3)]);go_quiet (fail);go_wp2;go_ret2;exact⟨s,⟨#[]⟩,351,rfl,HB4.out.drewN _,Only.of_below [B] (below_drewN B4.out _) (Nat.le_refl _),by rw[hA.out];rfl⟩
      | true=>
       have hA:Hid (offerF s b=({ s with other:=⟨nm,g⟩,their:=t,sent:=true },replyC++numF s.chal 8++proofF letD s.self ⟨nm,g⟩ s.cookie t s.chal,0)):=by
        refine qH ?_;rw[HA2.out,if_neg];rw[show seqB nm s.want=true from x3];decide
       go_quiet (fail);have B5:=qH (below_drewN B4.out nq);have HB5:=qH (HB4.out.drewN nq);have T5:=qH (T4.out.below (below_drewN (Below.refl W4.heap.size W4) nq) T4.out.two);have j0:(W4.drewN nq).cell? ⟨X,0,none⟩=some (.string nm):=k0;have j1:(W4.drewN nq).cell? ⟨X,1,none⟩=some (.int .i64 (g:Int)):=k1;have SC5:=sd_cells HB5.out;have r2:=SC5.c2;have r3:=SC5.c3;have r7:=SC5.c7;have r9:=SC5.c9;have fr5:=fun j=>HB5.out.frozen j
       clear k0 k1 s4 s2 s3 s7 s9 fr SC5 HA2;go_wp2_with fail;generalize W4.drewN nq=W5 at j0 j1 r2 r3 r7 r9 fr5 HB5 T5 B5 ⊢;go_region_held3 (fun w'=>w'.cell? ⟨X,0,none⟩=some (.string nm)∧w'.cell? ⟨X,1,none⟩=some (.int .i64 (g:Int))) (((try dsimp only);refine⟨?_,?_⟩<;>first|(go_keep;done)|(simp[*];done)))
        ((go_at_call 203;refine(CV.out _).mono ?_;rintro e w6 ⟨rfl,rfl⟩))
       have hX:=(‹_∧_› : ((((W5.setCell ⟨B,2,none⟩ (.string nm)).setCell ⟨B,3,none⟩ (.int .i64 (g:Int))).setCell ⟨B,7,none⟩ (.int .u64 (t:Int))).setCell ⟨B,9,none⟩ (.bool true)).drew.cell? ⟨X,0,none⟩=some (.string nm)∧((((W5.setCell ⟨B,2,none⟩ (.string nm)).setCell ⟨B,3,none⟩ (.int .i64 (g:Int))).setCell ⟨B,7,none⟩ (.int .u64 (t:Int))).setCell ⟨B,9,none⟩ (.bool true)).drew.cell? ⟨X,1,none⟩=some (.int .i64 (g:Int)))
       have X6:Blk ((((W5.setCell ⟨B,2,none⟩ (.string nm)).setCell ⟨B,3,none⟩ (.int .i64 (g:Int))).setCell ⟨B,7,none⟩ (.int .u64 (t:Int))).setCell ⟨B,9,none⟩ (.bool true)).drew B 141 (sdC { s with other:=⟨nm,g⟩,their:=t,sent:=true }):=((((HB5.out.set_ 2 (.string nm)).set_ 3 (.int .i64 (g:Int))).set_ 7 (.int .u64 (t:Int))).set_ 9 (.bool true)).drew;have O6:Only [B] w ((((W5.setCell ⟨B,2,none⟩ (.string nm)).setCell ⟨B,3,none⟩ (.int .i64 (g:Int))).setCell ⟨B,7,none⟩ (.int .u64 (t:Int))).setCell ⟨B,9,none⟩ (.bool true)).drew:=
        (((((Only.of_below [B] B5.out (Nat.le_refl _)).trans (Only.setCell _ _ _ (by simp))).trans (Only.setCell _ _ _ (by simp))).trans (Only.setCell _ _ _ (by simp))).trans (Only.setCell _ _ _ (by simp))).trans (Only.drew _ _)
       have T6:=HTO.out _ O6;clear r2 r3 r7 r9 fr5 j0 j1;go_wp2_with fail;generalize ((((W5.setCell ⟨B,2,none⟩ (.string nm)).setCell ⟨B,3,none⟩ (.int .i64 (g:Int))).setCell ⟨B,7,none⟩ (.int .u64 (t:Int))).setCell ⟨B,9,none⟩ (.bool true)).drew=W6 at hX X6 O6 T6 ⊢;have O6':=qH O6;have X6':=qH X6;have SC6:=sd_cells X6;have HS5:Hid (∀ n,(W6.drewN n).cell? ⟨B,0,none⟩=some (.string s.self.name)∧(W6.drewN n).cell? ⟨B,1,none⟩=some (.int .i64 s.self.gen)∧(W6.drewN n).cell? ⟨X,0,none⟩=some (.string nm)∧(W6.drewN n).cell? ⟨X,1,none⟩=some (.int .i64 (g:Int))∧(W6.drewN n).cell? ⟨B,5,none⟩=some (.string s.cookie)∧(W6.drewN n).cell? ⟨B,6,none⟩=some (.int .u64 s.chal)∧(W6.drewN n).cell? ⟨B,7,none⟩=some (.int .u64 t)∧(W6.drewN n).cell? ⟨B,4,none⟩=some (.string s.want)∧St W6 (W6.drewN n)):=
        qH (fun n=>⟨SC6.c0,SC6.c1,hX.1,hX.2,SC6.c5,SC6.c6,SC6.c7,SC6.c4,(St.refl T6).drewN n⟩)
       have C8:Hid (∀ W,Calls Tryz.prog 126 #[.int .u64 (s.chal:Int),.int .i64 8] W fun e w'=>e = .returned (.string (numF s.chal 8))∧Below W.heap.size W w'):=qH (fun W=>bytes_any s.chal 8 (by omega) W);have z8:=numF_size s.chal 8;have CQ:=qH (fun W hW=>proof_any letD s.self ⟨nm,g⟩ s.cookie t s.chal (by decide) (nameF_size _ HOK.out.self.1).2 (nameF_size _ hrv.out.1).2 HOK.out.self.2 hrv.out.2 HOK.out.cookie W hW)
       have hQz:(proofF letD s.self ⟨nm,g⟩ s.cookie t s.chal).size=32:=macS_size _ _;obtain⟨Q,hQ⟩:∃ Q,Q=proofF letD s.self ⟨nm,g⟩ s.cookie t s.chal:=⟨_,rfl⟩;obtain⟨q8,hq8⟩:∃ q,q=numF s.chal 8:=⟨_,rfl⟩;rw[←hQ] at hA CQ hQz;rw[←hq8] at hA C8 z8;have CQ2:Hid (∀ W,Tabs W→Calls Tryz.prog 204 #[.string ⟨#[68]⟩,.agg #[.string s.self.name,.int .i64 s.self.gen],.agg #[.string nm,.int .i64 (g:Int)],.string s.cookie,.int .u64 (t:Int),.int .u64 s.chal] W fun e w'=>e = .returned (.string Q)∧Below W.heap.size W w'):=CQ
       have hQs:¬9223372036854775807<1+q8.size:=by omega
       have hQs2:¬9223372036854775807<1+q8.size+Q.size:=by omega
       clear CQ hQ hq8 hX SC6 X6 O6 T6;go_region_held3 (fun w'=>w'.cell? ⟨B,0,none⟩=some (.string s.self.name)∧w'.cell? ⟨B,1,none⟩=some (.int .i64 s.self.gen)∧w'.cell? ⟨X,0,none⟩=some (.string nm)∧w'.cell? ⟨X,1,none⟩=some (.int .i64 (g:Int))∧w'.cell? ⟨B,5,none⟩=some (.string s.cookie)∧w'.cell? ⟨B,6,none⟩=some (.int .u64 s.chal)∧w'.cell? ⟨B,7,none⟩=some (.int .u64 t)∧w'.cell? ⟨B,4,none⟩=some (.string s.want)∧St W6 w')
        (first|exact HS5.out 1|(obtain⟨s1,s2,s3,s4,s5,s6,s7,s8,s9⟩:=(‹_∧_∧_∧_∧_∧_∧_∧_∧St _ _›);exact⟨cell_keep (by assumption) s1,cell_keep (by assumption) s2,cell_keep (by assumption) s3,cell_keep (by assumption) s4,cell_keep (by assumption) s5,cell_keep (by assumption) s6,cell_keep (by assumption) s7,cell_keep (by assumption) s8,s9.keep (by assumption)⟩))
        (first
         | (go_at_call 126;refine(C8.out _).mono ?_;rintro e w7 ⟨rfl,b7⟩)
         | (go_at_call 204;refine(CQ2.out _ ((‹_∧_∧_∧_∧_∧_∧_∧_∧St _ _›).2.2.2.2.2.2.2.2).tabs).mono ?_;rintro e w8 ⟨rfl,b8⟩))
       all_goals
        have hSt:=(‹_∧_∧_∧_∧_∧_∧_∧_∧St _ _›).2.2.2.2.2.2.2.2;go_wp2;go_ret2;exact⟨{ s with other:=⟨nm,g⟩,their:=t,sent:=true },replyC++q8++Q,0,rfl,X6'.out.below hSt.bel X6'.out.lt,O6'.out.trans (Only.of_below [B] hSt.bel (Nat.le_refl _)),by rw[hA.out];rfl⟩
     ·
      have h8':((r.size:Int) != 8)=true:=by rw[bne_iff_ne];omega
      have hA:Hid (offerF s b=failS s 6):=qH (by rw[HA.out,if_pos h8]);clear h8;go_wp2;go_ret2;exact⟨s,⟨#[]⟩,6,rfl,HB.out.below B4.out LTB.out,Only.of_below [B] B4.out (Nat.le_refl _),by rw[hA.out];rfl⟩
   ·
    have hA:Hid (offerF s b=failS s 6):=qH (offerF_form s b hNR.out (pre2_no b ⟨#[2,1]⟩ rfl hp));have CC:=qH (fun W=>cutq_no b ⟨#[2,1]⟩ (by simpa using hp) W);clear hp hb hNR HE2 HE3;go_enter Tryz.func175,Tryz.ntmps175;go_wp2_with fail;refine(C1.out _).mono ?_;rintro e w1 ⟨rfl,b1⟩;have B1:=qH b1;clear b1;go_wp2_with fail;refine(C2.out _).mono ?_;rintro e w2 ⟨rfl,b2⟩;have B2:=qH (B1.out.trans (b2.mono B1.out.size))
    clear b2;go_wp2_with fail;refine(CC.out _).mono ?_;rintro e w2' ⟨rfl,rfl⟩;go_wp2;go_ret2;exact⟨s,⟨#[]⟩,6,rfl,HB.out.below B2.out LTB.out,Only.of_below [B] B2.out (Nat.le_refl _),by rw[hA.out];rfl⟩
end Go.Proofs.YtoaimoemaoinhaaGreatDoor.Sk
namespace Go.Proofs.YtoaimoemaoinhaaGreatDoor.Sk
open Go.RowKit Go.Rt Go.Rw Go.MapKept
abbrev KE := Bool×Bool×Nat×Nat
def fnV (f:Nat):Value:=.func (.func f) #[] #[]
def ent (p:KE):MapEntry:={ key:=.agg #[.bool p.1,.bool p.2.1],val:=fnV p.2.2.1,born:=p.2.2.2 }
def MB (w:World) (B:Nat) (L:List KE):Prop:=∃ c,w.heap[B]? = some (.map (L.map ent).toArray c)
def findK (x y:Bool):List KE→Nat→Option (Nat×Value)
 | [],_=>none
 | p::r,i=>if (x==p.1&&y==p.2.1)=true then some (i,fnV p.2.2.1) else findK x y r (i+1)
theorem und77 : Tryz.prog.underlying 205=some (.map 139 204):=by kernel_rfl
theorem eq44 (a b c d:Bool) (w:World):(Op.equal 139 (.agg #[.bool a,.bool b]) (.agg #[.bool c,.bool d])).run Tryz.prog w = .ok (a==c&&b==d) w:=by
 cases a<;>cases b<;>cases c<;>cases d<;>kernel_rfl
theorem ck44 (e a b:Bool) (w:World):(Instr.checkKey e 10000 139 (.agg #[.bool a,.bool b])).run Tryz.prog w = .ok () w:=by
 cases e<;>cases a<;>cases b<;>kernel_rfl
theorem asking44 (x y:Bool) (w:World):∀ (L:List KE) (i:Nat),(Instr.findAsking 139 (.agg #[.bool x,.bool y]) (L.map ent) i).run Tryz.prog w = .ok (findK x y L i) w
 | [],i=>by simp[Instr.findAsking,findK]
 | p::r,i=>by
  have ih:=asking44 x y w r (i+1);have e:(Op.equal 139 (.agg #[.bool x,.bool y]) (ent p).key).run Tryz.prog w = .ok (x==p.1&&y==p.2.1) w:=eq44 x y p.1 p.2.1 w;simp only[List.map_cons,Instr.findAsking,Sem.run_bind,e,Result.andThen,findK];split
  ·
   rfl
  ·
   exact ih
theorem st44 : (match Tryz.prog.underlying 139 with|some (.struct _)=>true|_=>false)=true:=by kernel_rfl
theorem now44 : ∃ fs,Tryz.prog.underlying 139=some (.struct fs):=by
 have h:=st44;generalize Tryz.prog.underlying 139=u at h ⊢
 match u,h with
 | some (.struct fs),_=>exact⟨fs,rfl⟩
theorem find44 (x y:Bool) (w:World) (L:List KE):(Instr.findKey 139 (.agg #[.bool x,.bool y]) (L.map ent)).run Tryz.prog w = .ok (findK x y L 0) w:=by
 cases L with
 | nil=>
  obtain⟨fs,hd⟩:=now44;simp[Instr.findKey,run_underlying hd,Instr.findNow,findK,Result.andThen]
 | cons p r=>
  obtain⟨fs,hd⟩:=now44
  have:=asking44 x y w (p::r) 0
  have hn:Instr.findNow (.struct fs) (.agg #[.bool x,.bool y]) ((p::r).map ent) 0=none:=rfl;simp only[Instr.findKey,Sem.run_bind,run_underlying hd,Result.andThen,hn];exact this
theorem lookup44 {w:World} {B:Nat} {L:List KE} (h:MB w B L) (x y:Bool) (i:Nat) (v:Value) (hf:findK x y L 0=some (i,v)) :
  (Instr.lookup 205 (.map (some B)) (.agg #[.bool x,.bool y]) false).run Tryz.prog w = .ok v w:=by
 obtain⟨c,hb⟩:=h;have hk:=find44 x y w L;rw[hf] at hk;have hl:((L.map ent).toArray).toList=L.map ent:=by simp
 simp only[Instr.lookup,Sem.run_bind,run_underlying und77,MapKept.run_getObj_map hb,ck44,hk,Result.andThen,Sem.run_pure]
 simp
def stepK (x y:Bool):Nat:=if x then (if y then 177 else 175) else (if y then 176 else 174)
def Table (w:World) (e:Ending) (w':World):Prop:=
 ∃ (B:Nat) (L:List KE),e = .returned (.map (some B))∧MB w' B L∧(∀ x y,∃ i,findK x y L 0=some (i,fnV (stepK x y)))∧Below w.heap.size w w'
theorem MB.new (w:World):MB (w.alloc (.map #[] 0)) w.heap.size []:=⟨0,World.alloc_heap_new w _⟩
theorem MB.drew {w:World} {B:Nat} {L:List KE} (h:MB w B L):MB w.drew B L:=h
def MBB (w0 w:World) (B:Nat) (L:List KE):Prop:=MB w B L∧Below B w0 w
def clk (w:World) (B:Nat):Nat:=match w.heap[B]? with
 | some (.map _ c)=>c
 | _=>0
def insW (B:Nat) (w:World) (x y:Bool) (f:Nat):World:=match w.heap[B]? with
 | some (.map es c)=>w.putObj B (.map (es.push (ent (x,y,f,c))) (c+1))
 | _=>w
theorem MBB.ins {w0 w:World} {B:Nat} {L:List KE} (h:MBB w0 w B L) (x y:Bool) (f:Nat):MBB w0 (insW B w x y f) B (L ++ [(x,y,f,clk w B)]):=by
 obtain⟨⟨c,hb⟩,hbel⟩:=h;have hlt:=(Array.getElem?_eq_some_iff.1 hb).1;have e:insW B w x y f=w.putObj B (.map ((L ++ [(x,y,f,clk w B)]).map ent).toArray (c+1)):=by
  unfold insW clk;rw[hb]
  simp
 rw[e];exact⟨⟨c+1,World.putObj_heap_same hlt⟩,hbel.trans ⟨rfl,rfl,rfl,by simp,fun k hk=>World.putObj_heap_other (by omega)⟩⟩
def Free (w0:World) (B:Nat) (w:World) (x y:Bool):Prop:=∃ L,MBB w0 w B L∧findK x y L 0=none
theorem findK_snoc (x y:Bool) (p:KE) (hp:¬(x=p.1∧y=p.2.1)):∀ (L:List KE) (i:Nat),findK x y L i=none→findK x y (L ++ [p]) i=none
 | [],i,_=>by
  have:(x==p.1&&y==p.2.1)=false:=by
   rw[Bool.eq_false_iff];intro h;simp only[Bool.and_eq_true,beq_iff_eq] at h;exact hp h
  simp[findK,this]
 | q::r,i,h=>by
  simp only[findK,List.cons_append] at h ⊢;split at h
  ·
   cases h
  ·
   rename_i hq;rw[if_neg hq];exact findK_snoc x y p hp r (i+1) h
theorem Free.ins {w0 w:World} {B:Nat} {x' y':Bool} (h:Free w0 B w x' y') (x y:Bool) (f:Nat) (hne:¬(x'=x∧y'=y)):Free w0 B (insW B w x y f) x' y':=by
 obtain⟨L,h1,h2⟩:=h;exact⟨_,h1.ins x y f,findK_snoc x' y' _ hne L 0 h2⟩
theorem Free.run {w0 w:World} {B:Nat} {x y:Bool} (h:Free w0 B w x y) (f:Nat):(Instr.mapUpdate 205 (.map (some B)) (.agg #[.bool x,.bool y]) (.func (.func f) #[] #[])).run Tryz.prog w = .ok () (insW B w x y f):=by
 obtain⟨L,⟨⟨c,hb⟩,_⟩,h2⟩:=h;have hk:=find44 x y w L;rw[h2] at hk;have hl:((L.map ent).toArray).toList=L.map ent:=by simp
 have e:insW B w x y f=w.putObj B (.map ((L.map ent).toArray.push (ent (x,y,f,c))) (c+1)):=by
  unfold insW;rw[hb]
 rw[e];simp only[Instr.mapUpdate,Sem.run_bind,run_underlying und77,MapKept.run_getObj_map hb,ck44,hk,Result.andThen,run_setObj_map _ hb,World.putObj];simp[ent,fnV]
set_option maxHeartbeats 8000000 in
theorem steps_any (w:World):Calls Tryz.prog 131 #[] w (Table w):=by
 have hmm:=@run_makeMap Tryz.prog;have M0:MBB w (w.alloc (.map #[] 0)).drew w.heap.size []:=⟨(MB.new w).drew,((Below.refl _ _).alloc (Nat.le_refl _) _).drew⟩;have f00:Free w w.heap.size (w.alloc (.map #[] 0)).drew false false:=⟨_,M0,rfl⟩;have f01:Free w w.heap.size (w.alloc (.map #[] 0)).drew false true:=⟨_,M0,rfl⟩;have f10:Free w w.heap.size (w.alloc (.map #[] 0)).drew true false:=⟨_,M0,rfl⟩;have f11:Free w w.heap.size (w.alloc (.map #[] 0)).drew true true:=⟨_,M0,rfl⟩
 have hI:=fun(W:World) (x y:Bool) (f:Nat) (h:Free w w.heap.size W x y)=>h.run f
 have hF:=fun(W:World) (x y:Bool) (f:Nat) (x' y':Bool) (hne:¬(x'=x∧y'=y)) (h:Free w w.heap.size W x' y')=>h.ins x y f hne
 have hF2:=fun(W:World) (x y:Bool) (f:Nat) (a b:Bool) (g:Nat) (x' y':Bool) (hne:¬(x'=x∧y'=y)) (hn2:¬(x'=a∧y'=b)) (h:Free w w.heap.size W x' y')=>(h.ins x y f hne).ins a b g hn2
 have hF3:=fun(W:World) (x y:Bool) (f:Nat) (a b:Bool) (g:Nat) (c d:Bool) (k:Nat) (x' y':Bool) (hne:¬(x'=x∧y'=y)) (hn2:¬(x'=a∧y'=b)) (hn3:¬(x'=c∧y'=d)) (h:Free w w.heap.size W x' y')=>((h.ins x y f hne).ins a b g hn2).ins c d k hn3
 have HM:=qH M0;clear M0;go_enter Tryz.func131,Tryz.ntmps131;go_wp2;go_region_held3 (fun _=>True) (trivial) (fail)
 all_goals
  go_wp2;go_ret;exact⟨w.heap.size,_,rfl,((((HM.out.ins _ _ _).ins _ _ _).ins _ _ _).ins _ _ _).1,fun x y=>by cases x<;>cases y<;>exact⟨_,rfl⟩,((((HM.out.ins _ _ _).ins _ _ _).ins _ _ _).ins _ _ _).2⟩
end Go.Proofs.YtoaimoemaoinhaaGreatDoor.Sk
namespace Go.Proofs.YtoaimoemaoinhaaGreatDoor.Sk
open Go.RowKit Go.Rt Go.Rw
set_option maxHeartbeats 4000000 in
theorem take_greet (s:Sd) (hs:SdOk s) (h1:s.state=1) (hd:s.dials=false) (he:s.sent=false) (b:ByteArray) (hb:b.size≤100000) (B:Nat) (w:World) (hB:Blk w B 141 (sdC s)) (ht:Tabs w) :
  Calls Tryz.prog 73 #[.pointer (some ⟨B,0,none⟩),.string b] w (Fin 141 B (takeF s b) w):=by
 have hT:Hid (takeF s b=greetF s b):=qH (by unfold takeF moveF;rw[if_neg (by simp[h1])];simp[hd,he]);rw[hT.out];have SC:=sd_cells hB;have c8:=SC.c8;have c9:=SC.c9;have c10:=SC.c10;rw[hd] at c8;rw[he] at c9;rw[h1] at c10;have c10':w.cell? ⟨B,10,none⟩=some (.int .i64 1):=c10;have HB:=qH hB;have LTB:=qH hB.lt;have HM:Hid (∀ W,Blk W B 141 (sdC s)→Tabs W→Calls Tryz.prog 174 #[.pointer (some ⟨B,0,none⟩),.string b] W (Mid 141 B (greetF s b) W)):=qH (fun W h t=>greet_any s hs b hb B W h)
 have HS:=qH (fun W=>steps_any W);have HT:=qH ht;have HBd:Hid (Blk w.drew B 141 (sdC s)):=qH hB.drew;have HTd:Hid (Tabs w.drew):=qH (ht.below (Below.refl _ w).drew ht.two);obtain⟨rr,hrr⟩:∃ rr,rr=greetF s b:=⟨_,rfl⟩;rw[←hrr] at HM ⊢;clear c10 SC hs hb hB ht h1 hd he hT hrr;go_enter Tryz.func73,Tryz.ntmps73;go_wp2_with fail;go_region_with (first
   | (go_at_call 131;refine(HS.out _).mono ?_;rintro e w1 ⟨C,L,rfl,hmb,hfk,b1⟩;obtain⟨ix,hix⟩:=hfk false false;have hl:=lookup44 hmb false false ix _ hix;simp only[fnV,stepK,Bool.false_eq_true,if_false] at hl;have d8:w1.cell? ⟨B,8,none⟩=some (.bool false):=cell_keep (W:=w.drew) b1 c8;have d9:w1.cell? ⟨B,9,none⟩=some (.bool false):=cell_keep (W:=w.drew) b1 c9;clear hix hfk)
   | (go_at_call 174;refine(HM.out _ (HBd.out.below b1 LTB.out) (HTd.out.below b1 HT.out.two)).mono ?_;rintro e w2 ⟨s1,out,err,rfl,hbk,hon,hr⟩;have HR:=qH hr;have HK:=qH hbk;have HO:=qH (((Only.drew [B] w).trans (Only.of_below [B] b1 (Nat.le_refl _))).trans hon);clear hr hbk hon b1 hmb hl))
 all_goals
  by_cases herr:err=0
  ·
   have he1:((err:Int) != 0)=false:=by rw[bne_eq_false_iff_eq];omega
   have hrr:Hid (rr=(s1,out,0)):=qH (by rw[HR.out,if_pos herr]);clear herr;go_wp2;go_ret2;exact⟨by rw[hrr.out];rfl,by rw[hrr.out];exact HK.out,HO.out⟩
  ·
   have he1:((err:Int) != 0)=true:=by rw[bne_iff_ne];omega
   have hrr:Hid (rr=({ s1 with state:=4 },⟨#[]⟩,err)):=qH (by rw[HR.out,if_neg herr]);have k10:=(sd_cells HK.out).c10;have f10:=HK.out.frozen 10;clear herr;go_wp2;go_ret2;exact⟨by rw[hrr.out];rfl,by rw[hrr.out];exact HK.out.set_ 10 (.int .i64 4),HO.out.trans (Only.setCell _ _ _ (by simp))⟩
set_option maxHeartbeats 4000000 in
theorem take_offer (s:Sd) (hs:SdOk s) (h1:s.state=1) (hd:s.dials=true) (he:s.sent=false) (b:ByteArray) (hb:b.size≤100000) (B:Nat) (w:World) (hB:Blk w B 141 (sdC s)) (ht:Tabs w) :
  Calls Tryz.prog 73 #[.pointer (some ⟨B,0,none⟩),.string b] w (Fin 141 B (takeF s b) w):=by
 have hT:Hid (takeF s b=offerF s b):=qH (by unfold takeF moveF;rw[if_neg (by simp[h1])];simp[hd,he]);rw[hT.out];have SC:=sd_cells hB;have c8:=SC.c8;have c9:=SC.c9;have c10:=SC.c10;rw[hd] at c8;rw[he] at c9;rw[h1] at c10;have c10':w.cell? ⟨B,10,none⟩=some (.int .i64 1):=c10;have HB:=qH hB;have LTB:=qH hB.lt;have HM:Hid (∀ W,Blk W B 141 (sdC s)→Tabs W→Calls Tryz.prog 175 #[.pointer (some ⟨B,0,none⟩),.string b] W (Mid 141 B (offerF s b) W)):=qH (fun W h t=>offer_any s hs b hb B W h t)
 have HS:=qH (fun W=>steps_any W);have HT:=qH ht;have HBd:Hid (Blk w.drew B 141 (sdC s)):=qH hB.drew;have HTd:Hid (Tabs w.drew):=qH (ht.below (Below.refl _ w).drew ht.two);obtain⟨rr,hrr⟩:∃ rr,rr=offerF s b:=⟨_,rfl⟩;rw[←hrr] at HM ⊢;clear c10 SC hs hb hB ht h1 hd he hT hrr;go_enter Tryz.func73,Tryz.ntmps73;go_wp2_with fail;go_region_with (first
   | (go_at_call 131;refine(HS.out _).mono ?_;rintro e w1 ⟨C,L,rfl,hmb,hfk,b1⟩;obtain⟨ix,hix⟩:=hfk true false;have hl:=lookup44 hmb true false ix _ hix;simp only[fnV,stepK,Bool.false_eq_true,if_false,if_true] at hl;have d8:w1.cell? ⟨B,8,none⟩=some (.bool true):=cell_keep (W:=w.drew) b1 c8;have d9:w1.cell? ⟨B,9,none⟩=some (.bool false):=cell_keep (W:=w.drew) b1 c9;clear hix hfk)
   | (go_at_call 175;refine(HM.out _ (HBd.out.below b1 LTB.out) (HTd.out.below b1 HT.out.two)).mono ?_;rintro e w2 ⟨s1,out,err,rfl,hbk,hon,hr⟩;have HR:=qH hr;have HK:=qH hbk;have HO:=qH (((Only.drew [B] w).trans (Only.of_below [B] b1 (Nat.le_refl _))).trans hon);clear hr hbk hon b1 hmb hl))
 all_goals
  by_cases herr:err=0
  ·
   have he1:((err:Int) != 0)=false:=by rw[bne_eq_false_iff_eq];omega
   have hrr:Hid (rr=(s1,out,0)):=qH (by rw[HR.out,if_pos herr]);clear herr;go_wp2;go_ret2;exact⟨by rw[hrr.out];rfl,by rw[hrr.out];exact HK.out,HO.out⟩
  ·
   have he1:((err:Int) != 0)=true:=by rw[bne_iff_ne];omega
   have hrr:Hid (rr=({ s1 with state:=4 },⟨#[]⟩,err)):=qH (by rw[HR.out,if_neg herr]);have k10:=(sd_cells HK.out).c10;have f10:=HK.out.frozen 10;clear herr;go_wp2;go_ret2;exact⟨by rw[hrr.out];rfl,by rw[hrr.out];exact HK.out.set_ 10 (.int .i64 4),HO.out.trans (Only.setCell _ _ _ (by simp))⟩
set_option maxHeartbeats 4000000 in
theorem take_reply (s:Sd) (hs:SdOk s) (h1:s.state=1) (hd:s.dials=false) (he:s.sent=true) (b:ByteArray) (hb:b.size≤100000) (B:Nat) (w:World) (hB:Blk w B 141 (sdC s)) (ht:Tabs w) :
  Calls Tryz.prog 73 #[.pointer (some ⟨B,0,none⟩),.string b] w (Fin 141 B (takeF s b) w):=by
 have hT:Hid (takeF s b=replyF s b):=qH (by unfold takeF moveF;rw[if_neg (by simp[h1])];simp[hd,he]);rw[hT.out];have SC:=sd_cells hB;have c8:=SC.c8;have c9:=SC.c9;have c10:=SC.c10;rw[hd] at c8;rw[he] at c9;rw[h1] at c10;have c10':w.cell? ⟨B,10,none⟩=some (.int .i64 1):=c10;have HB:=qH hB;have LTB:=qH hB.lt;have HM:Hid (∀ W,Blk W B 141 (sdC s)→Tabs W→Calls Tryz.prog 176 #[.pointer (some ⟨B,0,none⟩),.string b] W (Mid 141 B (replyF s b) W)):=qH (fun W h t=>reply_any s hs b hb B W h t)
 have HS:=qH (fun W=>steps_any W);have HT:=qH ht;have HBd:Hid (Blk w.drew B 141 (sdC s)):=qH hB.drew;have HTd:Hid (Tabs w.drew):=qH (ht.below (Below.refl _ w).drew ht.two);obtain⟨rr,hrr⟩:∃ rr,rr=replyF s b:=⟨_,rfl⟩;rw[←hrr] at HM ⊢;clear c10 SC hs hb hB ht h1 hd he hT hrr;go_enter Tryz.func73,Tryz.ntmps73;go_wp2_with fail;go_region_with (first
   | (go_at_call 131;refine(HS.out _).mono ?_;rintro e w1 ⟨C,L,rfl,hmb,hfk,b1⟩;obtain⟨ix,hix⟩:=hfk false true;have hl:=lookup44 hmb false true ix _ hix;simp only[fnV,stepK,Bool.false_eq_true,if_false,if_true] at hl;have d8:w1.cell? ⟨B,8,none⟩=some (.bool false):=cell_keep (W:=w.drew) b1 c8;have d9:w1.cell? ⟨B,9,none⟩=some (.bool true):=cell_keep (W:=w.drew) b1 c9;clear hix hfk)
   | (go_at_call 176;refine(HM.out _ (HBd.out.below b1 LTB.out) (HTd.out.below b1 HT.out.two)).mono ?_;rintro e w2 ⟨s1,out,err,rfl,hbk,hon,hr⟩;have HR:=qH hr;have HK:=qH hbk;have HO:=qH (((Only.drew [B] w).trans (Only.of_below [B] b1 (Nat.le_refl _))).trans hon);clear hr hbk hon b1 hmb hl))
 all_goals
  by_cases herr:err=0
  ·
   have he1:((err:Int) != 0)=false:=by rw[bne_eq_false_iff_eq];omega
   have hrr:Hid (rr=(s1,out,0)):=qH (by rw[HR.out,if_pos herr]);clear herr;go_wp2;go_ret2;exact⟨by rw[hrr.out];rfl,by rw[hrr.out];exact HK.out,HO.out⟩
  ·
   have he1:((err:Int) != 0)=true:=by rw[bne_iff_ne];omega
   have hrr:Hid (rr=({ s1 with state:=4 },⟨#[]⟩,err)):=qH (by rw[HR.out,if_neg herr]);have k10:=(sd_cells HK.out).c10;have f10:=HK.out.frozen 10;clear herr;go_wp2;go_ret2;exact⟨by rw[hrr.out];rfl,by rw[hrr.out];exact HK.out.set_ 10 (.int .i64 4),HO.out.trans (Only.setCell _ _ _ (by simp))⟩
set_option maxHeartbeats 4000000 in
theorem take_ack (s:Sd) (hs:SdOk s) (h1:s.state=1) (hd:s.dials=true) (he:s.sent=true) (b:ByteArray) (hb:b.size≤100000) (B:Nat) (w:World) (hB:Blk w B 141 (sdC s)) (ht:Tabs w) :
  Calls Tryz.prog 73 #[.pointer (some ⟨B,0,none⟩),.string b] w (Fin 141 B (takeF s b) w):=by
 have hT:Hid (takeF s b=ackF s b):=qH (by unfold takeF moveF;rw[if_neg (by simp[h1])];simp[hd,he]);rw[hT.out];have SC:=sd_cells hB;have c8:=SC.c8;have c9:=SC.c9;have c10:=SC.c10;rw[hd] at c8;rw[he] at c9;rw[h1] at c10;have c10':w.cell? ⟨B,10,none⟩=some (.int .i64 1):=c10;have HB:=qH hB;have LTB:=qH hB.lt;have HM:Hid (∀ W,Blk W B 141 (sdC s)→Tabs W→Calls Tryz.prog 177 #[.pointer (some ⟨B,0,none⟩),.string b] W (Mid 141 B (ackF s b) W)):=qH (fun W h t=>ack_any s hs b hb B W h t)
 have HS:=qH (fun W=>steps_any W);have HT:=qH ht;have HBd:Hid (Blk w.drew B 141 (sdC s)):=qH hB.drew;have HTd:Hid (Tabs w.drew):=qH (ht.below (Below.refl _ w).drew ht.two);obtain⟨rr,hrr⟩:∃ rr,rr=ackF s b:=⟨_,rfl⟩;rw[←hrr] at HM ⊢;clear c10 SC hs hb hB ht h1 hd he hT hrr;go_enter Tryz.func73,Tryz.ntmps73;go_wp2_with fail;go_region_with (first
   | (go_at_call 131;refine(HS.out _).mono ?_;rintro e w1 ⟨C,L,rfl,hmb,hfk,b1⟩;obtain⟨ix,hix⟩:=hfk true true;have hl:=lookup44 hmb true true ix _ hix;simp only[fnV,stepK,if_true] at hl;have d8:w1.cell? ⟨B,8,none⟩=some (.bool true):=cell_keep (W:=w.drew) b1 c8;have d9:w1.cell? ⟨B,9,none⟩=some (.bool true):=cell_keep (W:=w.drew) b1 c9;clear hix hfk)
   | (go_at_call 177;refine(HM.out _ (HBd.out.below b1 LTB.out) (HTd.out.below b1 HT.out.two)).mono ?_;rintro e w2 ⟨s1,out,err,rfl,hbk,hon,hr⟩;have HR:=qH hr;have HK:=qH hbk;have HO:=qH (((Only.drew [B] w).trans (Only.of_below [B] b1 (Nat.le_refl _))).trans hon);clear hr hbk hon b1 hmb hl))
 all_goals
  by_cases herr:err=0
  ·
   have he1:((err:Int) != 0)=false:=by rw[bne_eq_false_iff_eq];omega
   have hrr:Hid (rr=(s1,out,0)):=qH (by rw[HR.out,if_pos herr]);clear herr;go_wp2;go_ret2;exact⟨by rw[hrr.out];rfl,by rw[hrr.out];exact HK.out,HO.out⟩
  ·
   have he1:((err:Int) != 0)=true:=by rw[bne_iff_ne];omega
   have hrr:Hid (rr=({ s1 with state:=4 },⟨#[]⟩,err)):=qH (by rw[HR.out,if_neg herr]);have k10:=(sd_cells HK.out).c10;have f10:=HK.out.frozen 10;clear herr;go_wp2;go_ret2;exact⟨by rw[hrr.out];rfl,by rw[hrr.out];exact HK.out.set_ 10 (.int .i64 4),HO.out.trans (Only.setCell _ _ _ (by simp))⟩
theorem answerF_no (s:Sd) (how:Int) (h:s.state≠2∨how<1∨3<how):answerF s how=(s,⟨#[]⟩,2):=by unfold answerF;rw[if_pos h]
theorem answerF_refuse (s:Sd) (how:Int) (h:¬(s.state≠2∨how<1∨3<how)) (h1:how≠1):answerF s how=({ s with state:=4 },statusC++numF how.toNat 1,0):=by unfold answerF;rw[if_neg h,if_pos h1]
theorem answerF_accept (s:Sd) (h:¬(s.state≠2)):answerF s 1=({ s with state:=1,sent:=true },offerC++encF s.self++numF s.chal 8,0):=by
 unfold answerF;rw[if_neg (by rintro(q|q|q);exact h q;omega;omega)];rfl
set_option maxHeartbeats 1000000 in
theorem answer_any (s:Sd) (hs:SdOk s) (h0:s.state≠0) (how:Int) (B:Nat) (w:World) (hB:Blk w B 141 (sdC s)) :
  Calls Tryz.prog 80 #[.pointer (some ⟨B,0,none⟩),.int .i64 how] w (Fin 141 B (answerF s how) w):=by
 have SC:=sd_cells hB;have c10:=SC.c10;have hs0:((s.state:Int)==0)=false:=by rw[beq_eq_false_iff_ne];omega
 have HB:=qH hB;have LTB:=qH hB.lt
 by_cases h2:s.state=2
 ·
  have hs2:((s.state:Int) != 2)=false:=by rw[bne_eq_false_iff_eq];omega
  by_cases hl:how<1
  ·
   have hA:=qH (answerF_no s how (.inr (.inl hl)));clear hB h0 SC hs h2;go_enter Tryz.func80,Tryz.ntmps80;go_wp2;go_ret2;rw[hA.out];exact⟨rfl,HB.out,Only.refl _ _⟩
  ·
   by_cases hu:3<how
   ·
    have hA:=qH (answerF_no s how (.inr (.inr hu)));clear hB h0 SC hs h2;go_enter Tryz.func80,Tryz.ntmps80;go_wp2;go_ret2;rw[hA.out];exact⟨rfl,HB.out,Only.refl _ _⟩
   ·
    by_cases h1:how=1
    ·
     subst h1;have hA:=qH (answerF_accept s (by simp[h2]));have C1:Hid (∀ W,Calls Tryz.prog 67 #[.agg #[.string s.self.name,.int .i64 s.self.gen]] W fun e w'=>e = .returned (.string (encF s.self))∧Below W.heap.size W w'):=qH (fun W=>enc_any s.self.name s.self.gen (by have:=(nameF_size _ hs.self.1).2;omega) hs.self.2 W);have C2:Hid (∀ W,Calls Tryz.prog 126 #[.int .u64 (s.chal:Int),.int .i64 8] W fun e w'=>e = .returned (.string (numF s.chal 8))∧Below W.heap.size W w'):=qH (fun W=>bytes_any s.chal 8 (by omega) W)
     have z1:=encF_size s.self;have z1':=(nameF_size _ hs.self.1).2;have z2:=numF_size s.chal 8;obtain⟨q1,hq1⟩:∃ q,q=encF s.self:=⟨_,rfl⟩;obtain⟨q2,hq2⟩:∃ q,q=numF s.chal 8:=⟨_,rfl⟩;rw[←hq1] at hA C1 z1;rw[←hq2] at hA C2 z2;have s1:¬9223372036854775807<2+q1.size:=by omega
     have s2:¬9223372036854775807<2+q1.size+q2.size:=by omega
     have X1:Blk ((w.setCell ⟨B,10,none⟩ (.int .i64 1)).setCell ⟨B,9,none⟩ (.bool true)) B 141 (sdC { s with state:=1,sent:=true }):=(hB.set_ 10 (.int .i64 1)).set_ 9 (.bool true);have O1:Only [B] w ((w.setCell ⟨B,10,none⟩ (.int .i64 1)).setCell ⟨B,9,none⟩ (.bool true)):=(Only.setCell _ _ _ (by simp)).trans (Only.setCell _ _ _ (by simp));have c9:=SC.c9;have f9:=hB.frozen 9;have f10:=hB.frozen 10;have X1':=qH X1
     have O1':=qH O1;clear hq1 hq2 z1 z1' z2 hB h0 SC hs h2 X1 O1 hl hu;go_enter Tryz.func80,Tryz.ntmps80;go_wp2_with fail;generalize (w.setCell ⟨B,10,none⟩ (.int .i64 1)).setCell ⟨B,9,none⟩ (.bool true)=W1 at X1' O1' ⊢;have SC1:=sd_cells X1'.out;have HS0:Hid (∀ n,(W1.drewN n).cell? ⟨B,0,none⟩=some (.string s.self.name)∧(W1.drewN n).cell? ⟨B,1,none⟩=some (.int .i64 s.self.gen)∧(W1.drewN n).cell? ⟨B,6,none⟩=some (.int .u64 s.chal)∧Below W1.heap.size W1 (W1.drewN n)):=qH (fun n=>⟨SC1.c0,SC1.c1,SC1.c6,below_drewN (Below.refl _ _) n⟩)
     clear SC1 c9 f9 f10 c10;go_region_held3 (fun w'=>w'.cell? ⟨B,0,none⟩=some (.string s.self.name)∧w'.cell? ⟨B,1,none⟩=some (.int .i64 s.self.gen)∧w'.cell? ⟨B,6,none⟩=some (.int .u64 s.chal)∧Below W1.heap.size W1 w')
      (first|exact HS0.out 1|(obtain⟨s1,s2,s3,s4⟩:=(‹_∧_∧_∧Below W1.heap.size W1 _›);exact⟨cell_keep (by assumption) s1,cell_keep (by assumption) s2,cell_keep (by assumption) s3,s4.trans (Below.mono (by assumption) s4.size)⟩))
      (first
       | (go_at_call 67;refine(C1.out _).mono ?_;rintro e w2 ⟨rfl,b2⟩)
       | (go_at_call 126;refine(C2.out _).mono ?_;rintro e w3 ⟨rfl,b3⟩))
     all_goals
      have hbe:=(‹_∧_∧_∧Below W1.heap.size W1 _›).2.2.2;go_wp2;go_ret2;rw[hA.out];exact⟨rfl,X1'.out.below hbe X1'.out.lt,O1'.out.trans (Only.of_below [B] hbe (Nat.le_refl _))⟩
    ·
     have hA:=qH (answerF_refuse s how (by rintro(q|q|q);exact q h2;exact hl q;exact hu q) h1);have hn1:(how != 1)=true:=by rw[bne_iff_ne];exact h1
     have hw:IntKind.u64.wrap how=(how.toNat:Int):=by rw[IntKind.wrap_u64];omega
     have C2:Hid (∀ W,Calls Tryz.prog 126 #[.int .u64 (how.toNat:Int),.int .i64 1] W fun e w'=>e = .returned (.string (numF how.toNat 1))∧Below W.heap.size W w'):=qH (fun W=>bytes_any how.toNat 1 (by omega) W);have z2:=numF_size how.toNat 1;obtain⟨q2,hq2⟩:∃ q,q=numF how.toNat 1:=⟨_,rfl⟩;obtain⟨k,hk⟩:∃ k,k=how.toNat:=⟨_,rfl⟩;rw[←hq2] at hA C2 z2;rw[←hk] at hw C2;have s2:¬9223372036854775807<1+q2.size:=by omega
     have X1:=qH (hB.set_ 10 (.int .i64 4));have O1:Hid (Only [B] w (w.setCell ⟨B,10,none⟩ (.int .i64 4))):=qH (Only.setCell _ _ _ (by simp));have f10:=hB.frozen 10;clear hq2 hk z2 hB h0 SC hs h2 h1;go_enter Tryz.func80,Tryz.ntmps80;go_wp2_with fail;refine(C2.out _).mono ?_;rintro e w2 ⟨rfl,b2⟩;have X2:=qH (X1.out.below b2 X1.out.lt);have O2:=qH (O1.out.trans (Only.of_below [B] b2 (Nat.le_refl _)))
     clear b2;go_wp2;go_ret2;rw[hA.out];exact⟨rfl,X2.out,O2.out⟩
 ·
  have hA:=qH (answerF_no s how (.inl h2));have hs2:((s.state:Int) != 2)=true:=by rw[bne_iff_ne];omega
  clear hB h0 SC hs h2;go_enter Tryz.func80,Tryz.ntmps80;go_wp2;go_ret2;rw[hA.out];exact⟨rfl,HB.out,Only.refl _ _⟩
set_option maxHeartbeats 1000000 in
theorem state_any (s:Sd) (B:Nat) (w:World) (hB:Blk w B 141 (sdC s)) :
  Calls Tryz.prog 74 #[.pointer (some ⟨B,0,none⟩)] w fun e w'=>e = .returned (.int .i64 s.state)∧w=w':=by
 have c10:=(sd_cells hB).c10;clear hB;go_enter Tryz.func74,Tryz.ntmps74;go_wp2;go_ret;exact⟨rfl,rfl⟩
set_option maxHeartbeats 1000000 in
theorem peerP_any (s:Sd) (B:Nat) (w:World) (hB:Blk w B 141 (sdC s)) :
  Calls Tryz.prog 75 #[.pointer (some ⟨B,0,none⟩)] w fun e w'=>e = .returned (.agg #[.string s.other.name,.int .i64 s.other.gen])∧Below w.heap.size w w':=by
 have SC:=sd_cells hB;have c2:=SC.c2;have c3:=SC.c3;have lt:=hB.lt;have ne:¬B=w.heap.size:=by omega
 have ne2:¬w.heap.size=B:=by omega
 clear SC hB;go_enter Tryz.func75,Tryz.ntmps75;go_wp2;exact bodyPost_ret (v:=.agg #[.string s.other.name,.int .i64 s.other.gen]) (by simp[results,Tryz.results75,go_sem]) rfl ⟨rfl,(Below.refl _ _).alloc (Nat.le_refl _) _⟩
end Go.Proofs.YtoaimoemaoinhaaGreatDoor.Sk
