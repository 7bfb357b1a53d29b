/- PeersX: a part of the proof. No condition beyond the premises of each theorem. -/
import Derived.Test.YtoaimoemaoinhaaGreatDoorQp18
import Derived.Test.YtoaimoemaoinhaaGreatDoorQp00
set_option maxRecDepth 100000
namespace Go.Proofs.YtoaimoemaoinhaaGreatDoor
open Go.RowKit Go.Rt Go.Rw
theorem takeL_app (a r:List UInt8) (n:Nat) (h:a.length=n):takeL (a++r) n=some (a,r):=by
 subst h;unfold takeL;rw[if_pos (by simp)]
 simp
theorem numP_app (a r:List UInt8) (k:Nat) (h:a.length=k):numP (a++r) k=some (beN a,r):=by
 unfold numP;rw[takeL_app a r k h];rfl
theorem numP_cons (c:UInt8) (r:List UInt8):numP (c::r) 1=some (c.toNat,r):=by
 have:=numP_app [c] r 1 rfl
 rw[List.singleton_append] at this;rw[this];simp[beN]
theorem beN_num4 (n:Int):(beN (num4 n):Int)=n % 4294967296:=by
 have h1:=u8_toNat (n / 16777216);have h2:=u8_toNat (n / 65536);have h3:=u8_toNat (n / 256);have h4:=u8_toNat n;show ((((((0*256+(u8 (n / 16777216)).toNat)*256+(u8 (n / 65536)).toNat)*256+(u8 (n / 256)).toNat)*256+(u8 n).toNat:Nat)):Int)=_;omega
theorem beN_num2 (n:Int):(beN (num2 n):Int)=n % 65536:=by
 have h3:=u8_toNat (n / 256);have h4:=u8_toNat n;show ((((0*256+(u8 (n / 256)).toNat)*256+(u8 n).toNat:Nat)):Int)=_;omega
theorem numP_num4 (n:Int) (r:List UInt8):numP (num4 n++r) 4=some ((n % 4294967296).toNat,r):=by
 have:=beN_num4 n
 rw[numP_app _ _ 4 rfl,show beN (num4 n)=(n % 4294967296).toNat by omega]
theorem numP_num2 (n:Int) (r:List UInt8):numP (num2 n++r) 2=some ((n % 65536).toNat,r):=by
 have:=beN_num2 n
 rw[numP_app _ _ 2 rfl,show beN (num2 n)=(n % 65536).toNat by omega]
theorem numP_u8 (n:Int) (r:List UInt8):numP (u8 n::r) 1=some ((n % 256).toNat,r):=by
 have:=u8_toNat n
 rw[numP_cons,show (u8 n).toNat=(n % 256).toNat by omega]
theorem bA_list (s:ByteArray):bA s.data.toList=s:=by unfold bA;simp
theorem nameP_app (s:ByteArray) (h:s.size<256) (r:List UInt8):nameP (atomB s++r)=some (s.data.toList,r):=by
 unfold nameP atomB;rw[List.cons_append,List.cons_append,numP_cons];dsimp only;rw[if_pos (show (119:UInt8).toNat=119 from rfl),numP_u8];dsimp only;rw[takeL_app]
 simp
 omega
theorem leN_leB : ∀ n,leN (leB n)=n:=by
 intro n
 induction n using Nat.strongRecOn with
 | _ n ih=>
  by_cases h:n=0
  ·
   subst h;rw[leB_zero];rfl
  ·
   rw[leB_pos h,leN,ih (n / 256) (by omega)]
   have:=u8_toNat n
   omega
theorem lastZ_cons (c:UInt8) (r:List UInt8) (h:r≠[]):lastZ (c::r)=lastZ r:=by
 cases r with
 | nil=>exact absurd rfl h
 | cons d r=>unfold lastZ;simp
theorem lastZ_leB : ∀ n,n≠0→lastZ (leB n)=false:=by
 intro n
 induction n using Nat.strongRecOn with
 | _ n ih=>
  intro h;rw[leB_pos h]
  by_cases h2:n / 256=0
  ·
   rw[h2,leB_zero]
   have:=u8_toNat n
   unfold lastZ
   simp
   intro hc;rw[hc] at this
   simp at this
   omega
  ·
   rw[lastZ_cons _ _ (by rw[leB_pos h2];simp)];exact ih _ (by omega) h2
theorem leB_len4 (n:Nat) (h:2147483648≤n):4≤(leB n).length:=by
 by_cases hl:(leB n).length≤3
 ·
  have:=leN_lt (leB n)
  rw[leN_leB] at this
  have:=Nat.lt_of_lt_of_le this (Nat.pow_le_pow_right (by omega) hl)
  omega
 ·
  omega
theorem large_back (n:Int) (h:n < -2147483648∨2147483648≤n) (hn : -9223372036854775808≤n∧n≤9223372036854775807) (r:List UInt8):largeP (u8 (leB n.natAbs).length::signB n::leB n.natAbs++r)=some (n,r):=by
 have h8:=leB_len 8 n.natAbs (by omega);have h4:=leB_len4 n.natAbs (by omega);have hz:=lastZ_leB n.natAbs (by omega);have hl:=leN_leB n.natAbs;unfold largeP;rw[List.cons_append,List.cons_append,numP_u8];dsimp only;rw[numP_cons];dsimp only;have hs:(signB n).toNat≤1:=by unfold signB;split<;>decide
 rw[show (((leB n.natAbs).length:Int) % 256).toNat=(leB n.natAbs).length by omega,if_pos ⟨h4,h8,hs⟩,takeL_app _ _ _ rfl];dsimp only;rw[hz,if_neg (by decide),hl]
 by_cases h0:n<0
 ·
  have:(signB n).toNat=1:=by unfold signB;rw[if_pos h0];rfl
  rw[if_pos this,if_pos (by omega)]
  congr 2
  omega
 ·
  have:¬(signB n).toNat=1:=by unfold signB;rw[if_neg h0];decide
  rw[if_neg this,if_pos (by omega)]
  congr 2
  omega
theorem body_cons (T:Nat→List UInt8→Pr Tm) (p:Nat) (c:UInt8) (k:Nat) (hk:c.toNat=k) (r:List UInt8):bodyP T p (c::r)=tagP T p k r:=by
 unfold bodyP;rw[numP_cons,hk]
theorem tag_97 (T:Nat→List UInt8→Pr Tm) (p:Nat) (r:List UInt8):tagP T p 97 r=p97 p r:=by simp[tagP]
theorem tag_98 (T:Nat→List UInt8→Pr Tm) (p:Nat) (r:List UInt8):tagP T p 98 r=p98 p r:=by simp[tagP]
theorem tag_110 (T:Nat→List UInt8→Pr Tm) (p:Nat) (r:List UInt8):tagP T p 110 r=p110 p r:=by simp[tagP]
theorem tag_119 (T:Nat→List UInt8→Pr Tm) (p:Nat) (r:List UInt8):tagP T p 119 r=p119 p r:=by simp[tagP]
theorem tag_104 (T:Nat→List UInt8→Pr Tm) (p:Nat) (r:List UInt8):tagP T p 104 r=p104 T p r:=by simp[tagP]
theorem tag_108 (T:Nat→List UInt8→Pr Tm) (p:Nat) (r:List UInt8):tagP T p 108 r=p108 T p r:=by simp[tagP]
theorem tag_109 (T:Nat→List UInt8→Pr Tm) (p:Nat) (r:List UInt8):tagP T p 109 r=p109 p r:=by simp[tagP]
theorem tag_77 (T:Nat→List UInt8→Pr Tm) (p:Nat) (r:List UInt8):tagP T p 77 r=p77 p r:=by simp[tagP]
theorem tag_88 (T:Nat→List UInt8→Pr Tm) (p:Nat) (r:List UInt8):tagP T p 88 r=p88 p r:=by simp[tagP]
theorem tag_90 (T:Nat→List UInt8→Pr Tm) (p:Nat) (r:List UInt8):tagP T p 90 r=p90 p r:=by simp[tagP]
theorem tag_113 (T:Nat→List UInt8→Pr Tm) (p:Nat) (r:List UInt8):tagP T p 113 r=p113 p r:=by simp[tagP,funP]
theorem tag_112 (T:Nat→List UInt8→Pr Tm) (p:Nat) (r:List UInt8):tagP T p 112 r=p112 T p r:=by simp[tagP,funP]
theorem int_back (T:Nat→List UInt8→Pr Tm) (p:Nat) (n:Int) (hn : -9223372036854775808≤n∧n≤9223372036854775807) (r:List UInt8):bodyP T p (intB n++r)=some (intT n,p,r):=by
 unfold intB;split
 ·
  rename_i h;show bodyP T p (97::u8 n::r)=_;rw[body_cons T p _ 97 rfl,tag_97];unfold p97;rw[numP_u8];dsimp only;rw[show (((n % 256).toNat:Nat):Int)=n by omega]
 ·
  split
  ·
   rename_i h1 h2;show bodyP T p (98::(num4 n++r))=_;rw[body_cons T p _ 98 rfl,tag_98];unfold p98;rw[numP_num4];dsimp only;rw[show toI32 (n % 4294967296).toNat=n by unfold toI32;split<;>omega,if_pos (by omega)]
  ·
   rename_i h1 h2;show bodyP T p (110::(u8 (leB n.natAbs).length::signB n::leB n.natAbs++r))=_;rw[body_cons T p _ 110 rfl,tag_110];unfold p110;rw[large_back n (by omega) hn]
theorem noB_of {a:ByteArray} (h:a=ByteArray.empty):a=noB:=h
theorem inB_iff {n a b:Int} (h:inB n a b=true):a≤n∧n≤b:=by
 unfold inB at h
 simpa using h
inductive Shape : Fl→List Tm→Prop where
 | int (n:Int):Shape ⟨1,n,0,noB,noB,0,noB,0⟩ []
 | atom (s:ByteArray) (h:nameF s=true):Shape ⟨2,0,0,s,noB,0,noB,0⟩ []
 | ref (n g:Int) (s:ByteArray) (hn:1≤n∧n≤2147483647) (hg:1≤g∧g≤2147483647) (h:nameF s=true):Shape ⟨3,n,g,s,noB,0,noB,0⟩ []
 | clo (n g:Int) (s:ByteArray) (a:Int) (l:List Tm) (hn:0≤n∧n≤999) (hg:1≤g∧g≤2147483647) (h:nameF s=true) (ha:0≤a∧a≤16) (hl:l.length≤200):Shape ⟨4,n,g,s,noB,a,noB,0⟩ l
 | exp (s f:ByteArray) (a:Int) (h:nameF s=true) (h2:nameF f=true) (ha:0≤a∧a≤16):Shape ⟨5,0,0,s,f,a,noB,0⟩ []
 | pid (n g:Int) (s:ByteArray) (hn:1≤n∧n≤2147483647) (hg:1≤g∧g≤2147483647) (h:nameF s=true):Shape ⟨6,n,g,s,noB,0,noB,0⟩ []
 | tup (l:List Tm) (hl:l.length≤255):Shape ⟨7,0,0,noB,noB,0,noB,0⟩ l
 | nil:Shape ⟨8,0,0,noB,noB,0,noB,0⟩ []
 | list (l:List Tm) (hl:2≤l.length):Shape ⟨9,0,0,noB,noB,0,noB,0⟩ l
 | bits (s:ByteArray) (bt:Int) (h:bitsB s bt=true):Shape ⟨10,0,0,noB,noB,0,s,bt⟩ []
set_option maxHeartbeats 2000000 in
theorem shape {f:Fl} {l:List Tm} (h:ownB f l=true):Shape f l:=by
 unfold ownB at h;rw[Bool.and_eq_true,Bool.and_eq_true] at h;obtain⟨h1,h2,h3⟩:=h;obtain⟨k,n,g,nm,fn,ar,bs,bt⟩:=f;have z:=noB_of (a:=nm);have z2:=noB_of (a:=fn);have z3:=noB_of (a:=bs)
 by_cases k1:k=1
 ·
  subst k1;simp[zeroF,bareF,usesL] at h2 h3;obtain⟨rfl,a,b,rfl,c,rfl⟩:=h2;obtain rfl:=z a;obtain rfl:=z2 b;obtain rfl:=z3 c;subst h3;exact .int n
 by_cases k2:k=2
 ·
  subst k2;simp[zeroF,bareF,usesL] at h2 h3;obtain⟨rfl,rfl,_,b,rfl,c,rfl⟩:=h2;obtain rfl:=z2 b;obtain rfl:=z3 c;subst h3;exact .atom nm h1
 by_cases k3:k=3
 ·
  subst k3;simp[zeroF,bareF,usesL] at h2 h3;obtain⟨_,b,rfl,c,rfl⟩:=h2;obtain rfl:=z2 b;obtain rfl:=z3 c;subst h3;replace h1:(inB n 1 2147483647&&(inB g 1 2147483647&&nameF nm))=true:=h1;rw[Bool.and_eq_true,Bool.and_eq_true] at h1;exact .ref n g nm (inB_iff h1.1) (inB_iff h1.2.1) h1.2.2
 by_cases k4:k=4
 ·
  subst k4;simp[zeroF,bareF,usesL] at h2 h3;obtain⟨_,b,c,rfl⟩:=h2;obtain rfl:=z2 b;obtain rfl:=z3 c;replace h1:(inB n 0 999&&(inB g 1 2147483647&&(nameF nm&&(inB ar 0 16&&decide (l.length≤200)))))=true:=h1;rw[Bool.and_eq_true,Bool.and_eq_true,Bool.and_eq_true,Bool.and_eq_true,decide_eq_true_eq] at h1;exact .clo n g nm ar l (inB_iff h1.1) (inB_iff h1.2.1) h1.2.2.1 (inB_iff h1.2.2.2.1) h1.2.2.2.2
 by_cases k5:k=5
 ·
  subst k5;simp[zeroF,bareF,usesL] at h2 h3;obtain⟨rfl,rfl,_,c,rfl⟩:=h2;obtain rfl:=z3 c;subst h3;replace h1:(nameF nm&&(nameF fn&&inB ar 0 16))=true:=h1;rw[Bool.and_eq_true,Bool.and_eq_true] at h1;exact .exp nm fn ar h1.1 h1.2.1 (inB_iff h1.2.2)
 by_cases k6:k=6
 ·
  subst k6;simp[zeroF,bareF,usesL] at h2 h3;obtain⟨_,b,rfl,c,rfl⟩:=h2;obtain rfl:=z2 b;obtain rfl:=z3 c;subst h3;replace h1:(inB n 1 2147483647&&(inB g 1 2147483647&&nameF nm))=true:=h1;rw[Bool.and_eq_true,Bool.and_eq_true] at h1;exact .pid n g nm (inB_iff h1.1) (inB_iff h1.2.1) h1.2.2
 by_cases k7:k=7
 ·
  subst k7;simp[zeroF,bareF,usesL] at h2 h3;obtain⟨rfl,rfl,a,b,rfl,c,rfl⟩:=h2;obtain rfl:=z a;obtain rfl:=z2 b;obtain rfl:=z3 c;replace h1:decide (l.length≤255)=true:=h1;exact .tup l (of_decide_eq_true h1)
 by_cases k8:k=8
 ·
  subst k8;simp[zeroF,bareF,usesL] at h2 h3;obtain⟨rfl,rfl,a,b,rfl,c,rfl⟩:=h2;obtain rfl:=z a;obtain rfl:=z2 b;obtain rfl:=z3 c;subst h3;exact .nil
 by_cases k9:k=9
 ·
  subst k9;simp[zeroF,bareF,usesL] at h2 h3;obtain⟨rfl,rfl,a,b,rfl,c,rfl⟩:=h2;obtain rfl:=z a;obtain rfl:=z2 b;obtain rfl:=z3 c;exact .list l (okF_nine h1 rfl)
 by_cases k10:k=10
 ·
  subst k10;simp[zeroF,bareF,usesL] at h2 h3;obtain⟨rfl,rfl,a,b,rfl,_⟩:=h2;obtain rfl:=z a;obtain rfl:=z2 b;subst h3;exact .bits bs bt h1
 ·
  simp[okF,k1,k2,k3,k4,k5,k6,k7,k8,k9,k10] at h1
theorem cnt_pos : ∀ t,1≤cnt t
 | .mk f l=>by rw[cnt];omega
theorem cntL_len : ∀ l,l.length≤cntL l
 | []=>Nat.le_refl _
 | t::r=>by
  have:=cnt_pos t
  have:=cntL_len r
  rw[cntL,List.length_cons];omega
mutual
theorem cnt_size : ∀ t,formed t=true→cnt t≤sizeT t
 | .mk f l,h=>by
  rw[formed,Bool.and_eq_true] at h
  have:=cntL_size l h.2
  rw[cnt,sizeT]
  have:1≤sizeO f l.length:=by
   unfold sizeO;split
   ·
    rename_i h9
    have:=okF_nine (f:=f) (l:=l) (by unfold ownB at h;rw[Bool.and_eq_true] at h;exact h.1.1) h9
    omega
   ·
    split<;>omega
  omega
theorem cntL_size : ∀ l,formedL l=true→cntL l≤sizeL l
 | [],_=>by rw[cntL,sizeL];exact Nat.le_refl _
 | t::r,h=>by
  rw[formedL,Bool.and_eq_true] at h
  have:=cnt_size t h.1
  have:=cntL_size r h.2
  rw[cntL,sizeL];omega
end
theorem head_back {f:Fl} {l:List Tm} (h:Shape f l) (hfit:fitF f) (T:Nat→List UInt8→Pr Tm) (p:Nat) (m:List UInt8) (hp:p+cntL l≤2000)
  (hl:∀ r,itemsP T l.length p (codeL l++r)=some (l,p+cntL l,r)):bodyP T p (headB f l.length++codeL l++m)=some (.mk f l,p+cntL l,m):=by
 have hlen:=cntL_len l;have hIQ:∀ n r,n=l.length→itemsQ T n p (codeL l++r)=some (l,p+cntL l,r):=by
  rintro n r rfl;unfold itemsQ;rw[if_pos (by omega),hl]
 rw[List.append_assoc];cases h with
 | int n=>exact int_back T p n hfit.2.2.1 m
 | atom s h=>
  have:=nameF_size s h
  show bodyP T p (119::u8 s.size::(s.data.toList++m))=_;rw[body_cons T p _ 119 rfl,tag_119];unfold p119;rw[numP_u8];dsimp only;rw[takeL_app _ _ _ (by simp;omega)];dsimp only;rw[bA_list];rfl
 | ref n g s hn hg h=>
  have:=nameF_size s h
  have e:headB ⟨3,n,g,s,noB,0,noB,0⟩ ([]:List Tm).length=90::([0,1]++(atomB s++(num4 g++num4 n))):=by simp[headB]
  rw[e,codeL,List.nil_append,List.cons_append,List.append_assoc];rw[body_cons T p _ 90 rfl,tag_90];unfold p90;rw[numP_app _ _ 2 rfl];dsimp only;rw[if_pos (show beN [0,1]=1 from rfl),List.append_assoc,List.append_assoc,nameP_app s (by omega)];dsimp only;rw[numP_num4];dsimp only;rw[numP_num4];dsimp only;rw[bA_list,show (((g % 4294967296).toNat:Nat):Int)=g by omega,show (((n % 4294967296).toNat:Nat):Int)=n by omega]
  rfl
 | clo n g s a l hn hg h ha hl2=>
  have:=nameF_size s h
  show bodyP T p (112::u8 a::((num2 n++(u8 l.length::(atomB s++num4 g)))++(codeL l++m)))=_;rw[body_cons T p _ 112 rfl,tag_112];unfold p112;rw[numP_u8];dsimp only;rw[List.append_assoc,numP_num2];dsimp only;rw[List.cons_append,numP_u8];dsimp only;rw[List.append_assoc,nameP_app s (by omega)];dsimp only;rw[numP_num4];dsimp only;rw[hIQ _ m (by omega)];dsimp only;rw[bA_list,show (((g % 4294967296).toNat:Nat):Int)=g by omega,show (((n % 65536).toNat:Nat):Int)=n by omega,show (((a % 256).toNat:Nat):Int)=a by omega]
 | exp s f a h h2 ha=>
  have:=nameF_size s h
  have:=nameF_size f h2
  have ia:intB a = [97,u8 a]:=by unfold intB;rw[if_pos (by omega)]
  show bodyP T p (113::((atomB s++(atomB f++intB a))++m))=_;rw[body_cons T p _ 113 rfl,tag_113];unfold p113;rw[List.append_assoc,nameP_app s (by omega)];dsimp only;rw[List.append_assoc,nameP_app f (by omega)];dsimp only;rw[ia,List.cons_append,List.singleton_append,numP_cons];dsimp only;rw[if_pos (show (97:UInt8).toNat=97 from rfl),numP_u8];dsimp only;rw[bA_list,bA_list,show (((a % 256).toNat:Nat):Int)=a by omega]
  rfl
 | pid n g s hn hg h=>
  have:=nameF_size s h
  show bodyP T p (88::((atomB s++(num4 n++(num4 0++num4 g)))++m))=_;rw[body_cons T p _ 88 rfl,tag_88];unfold p88;rw[List.append_assoc,nameP_app s (by omega)];dsimp only;rw[List.append_assoc,numP_num4];dsimp only;rw[List.append_assoc,numP_num4];dsimp only;rw[if_pos (by decide),numP_num4];dsimp only;rw[bA_list,show (((g % 4294967296).toNat:Nat):Int)=g by omega,show (((n % 4294967296).toNat:Nat):Int)=n by omega]
  rfl
 | tup l hl2=>
  show bodyP T p (104::u8 l.length::(codeL l++m))=_;rw[body_cons T p _ 104 rfl,tag_104];unfold p104;rw[numP_u8];dsimp only;rw[hIQ _ m (by omega)]
 | nil=>rfl
 | list l hl2=>
  show bodyP T p (108::(num4 ((l.length:Int)-1)++(codeL l++m)))=_;rw[body_cons T p _ 108 rfl,tag_108];unfold p108;rw[numP_num4];dsimp only;rw[hIQ _ m (by omega)]
 | bits s bt h=>
  unfold bitsB at h;rw[Bool.and_eq_true,Bool.and_eq_true,decide_eq_true_eq] at h;obtain⟨hb,hs,_⟩:=h;have hb:=inB_iff hb
  by_cases h8:bt % 8=0
  ·
   have e:headB ⟨10,0,0,noB,noB,0,s,bt⟩ 0=109::(num4 s.size++s.data.toList):=by simp[headB,h8]
   show bodyP T p (headB ⟨10,0,0,noB,noB,0,s,bt⟩ 0++m)=_;rw[e];show bodyP T p (109::(num4 s.size++s.data.toList++m))=_;rw[body_cons T p _ 109 rfl,tag_109];unfold p109;rw[List.append_assoc,numP_num4];dsimp only;rw[takeL_app _ _ _ (by simp;omega)];dsimp only;rw[bA_list,show 8*((s.data.toList.length:Nat):Int)=bt by simp;omega];rfl
  ·
   have e:headB ⟨10,0,0,noB,noB,0,s,bt⟩ 0=77::(num4 s.size++(u8 (bt % 8)::s.data.toList)):=by simp[headB,h8]
   show bodyP T p (headB ⟨10,0,0,noB,noB,0,s,bt⟩ 0++m)=_;rw[e];show bodyP T p (77::(num4 s.size++(u8 (bt % 8)::s.data.toList)++m))=_;rw[body_cons T p _ 77 rfl,tag_77];unfold p77;rw[List.append_assoc,numP_num4];dsimp only;rw[List.cons_append,numP_u8];dsimp only;rw[if_pos (by omega),takeL_app _ _ _ (by simp;omega)];dsimp only;rw[bA_list,show 8*(((((s.size:Nat):Int) % 4294967296).toNat:Int)-1)+((bt % 8 % 256).toNat:Int)=bt by omega]
   rfl
mutual
theorem term_back : ∀ t,formed t=true→fitT t→∀ d p m,p+cnt t≤2000→cnt t≤d→termP d p (codeT t++m)=some (t,p+cnt t,m)
 | .mk f l,h,hf,d,p,m,hp,hd=>by
  rw[formed,Bool.and_eq_true] at h;rw[fitT] at hf;rw[cnt] at hp hd ⊢;obtain⟨e,rfl⟩:∃ e,d=e+1:=⟨d-1,by omega⟩;rw[termP,if_pos (by omega),codeT,head_back (shape h.1) hf.1 _ _ _ (by omega) (fun r=>items_back l h.2 hf.2 e (p+1) r (by omega) (by omega))];rw[Nat.add_assoc]
theorem items_back : ∀ l,formedL l=true→fitL l→∀ d p m,p+cntL l≤2000→cntL l≤d→itemsP (termP d) l.length p (codeL l++m)=some (l,p+cntL l,m)
 | [],_,_,d,p,m,_,_=>by
  rw[List.length_nil,itemsP,codeL,cntL];rfl
 | t::r,h,hf,d,p,m,hp,hd=>by
  rw[formedL,Bool.and_eq_true] at h;rw[fitL] at hf;rw[cntL] at hp hd ⊢;rw[List.length_cons,itemsP,codeL,List.append_assoc,term_back t h.1 hf.1 d p _ (by omega) (by omega)];dsimp only;rw[items_back r h.2 hf.2 d (p+cnt t) m (by omega) (by omega)];dsimp only;rw[Nat.add_assoc]
end
theorem u8_eq {n:Int} {c:UInt8} (h:n % 256=(c.toNat:Int)):u8 n=c:=by
 apply UInt8.toNat_inj.1
 have:=u8_toNat n
 omega
theorem numP_one {r r1:List UInt8} {n:Nat} (h:numP r 1=some (n,r1)):r=u8 n::r1∧n<256:=by
 cases r with
 | nil=>simp[numP,takeL] at h
 | cons c r=>
  rw[numP_cons] at h;cases h
  have:=UInt8.toNat_lt c
  exact⟨by rw[u8_eq (c:=c) (by omega)],this⟩
theorem numP_split {r r1:List UInt8} {k n:Nat} (h:numP r k=some (n,r1)):∃ a,a.length=k∧r=a++r1∧n=beN a:=by
 unfold numP at h;cases hq:takeL r k with
 | none=>rw[hq] at h;cases h
 | some q=>
  rw[hq] at h;cases h
  have:=takeL_len (a:=q.1) (r1:=q.2) hq
  exact⟨q.1,this.1,this.2,rfl⟩
theorem numP_two {r r1:List UInt8} {n:Nat} (h:numP r 2=some (n,r1)):r=num2 n++r1∧n<65536:=by
 obtain⟨a,ha,rfl,hn⟩:=numP_split h
 match a,ha with
 | [c,d],_=>
  have h1:=UInt8.toNat_lt c;have h2:=UInt8.toNat_lt d;have e:n=(0*256+c.toNat)*256+d.toNat:=hn;refine⟨?_,by omega⟩;unfold num2;rw[u8_eq (n:=(n:Int) / 256) (c:=c) (by omega),u8_eq (n:=(n:Int)) (c:=d) (by omega)]
theorem numP_four {r r1:List UInt8} {n:Nat} (h:numP r 4=some (n,r1)):r=num4 n++r1∧n<4294967296:=by
 obtain⟨a,ha,rfl,hn⟩:=numP_split h
 match a,ha with
 | [b,c,d,f],_=>
  have h1:=UInt8.toNat_lt c;have h2:=UInt8.toNat_lt d;have h3:=UInt8.toNat_lt b;have h4:=UInt8.toNat_lt f;have e:n=(((0*256+b.toNat)*256+c.toNat)*256+d.toNat)*256+f.toNat:=hn;refine⟨?_,by omega⟩;unfold num4;rw[u8_eq (n:=(n:Int) / 16777216) (c:=b) (by omega),u8_eq (n:=(n:Int) / 65536) (c:=c) (by omega),u8_eq (n:=(n:Int) / 256) (c:=d) (by omega),u8_eq (n:=(n:Int)) (c:=f) (by omega)]
theorem u8_congr {x y:Int} (h:x % 256=y % 256):u8 x=u8 y:=by unfold u8;rw[h]
theorem num4_congr {x y:Int} (h:x % 4294967296=y % 4294967296):num4 x=num4 y:=by
 unfold num4;rw[u8_congr (x:=x / 16777216) (y:=y / 16777216) (by omega),u8_congr (x:=x / 65536) (y:=y / 65536) (by omega),u8_congr (x:=x / 256) (y:=y / 256) (by omega),u8_congr (x:=x) (y:=y) (by omega)]
theorem bA_data (a:List UInt8):(bA a).data.toList=a:=by simp[bA]
theorem bA_size (a:List UInt8):(bA a).size=a.length:=by show a.toArray.size=_;simp
theorem nameP_split {r r1:List UInt8} {a:List UInt8} (h:nameP r=some (a,r1)):r=atomB (bA a)++r1∧a.length<256:=by
 unfold nameP at h;cases hq:numP r 1 with
 | none=>rw[hq] at h;cases h
 | some q=>
  obtain⟨t,r2⟩:=q;rw[hq] at h;dsimp only at h;split at h
  ·
   rename_i ht;subst ht;cases hq2:numP r2 1 with
   | none=>rw[hq2] at h;cases h
   | some q=>
    obtain⟨n,r3⟩:=q;rw[hq2] at h;dsimp only at h;obtain⟨e1,_⟩:=numP_one hq;obtain⟨e2,hn⟩:=numP_one hq2;obtain⟨ha,e3⟩:=takeL_len h;subst e1 e2 e3;refine⟨?_,by omega⟩;unfold atomB;rw[bA_size,ha];simp[bA,u8]
  ·
   cases h
theorem leB_leN : ∀ b,(b = []∨lastZ b=false)→leB (leN b)=b
 | [],_=>by rw[leN,leB_zero]
 | c::t,h=>by
  have h:lastZ (c::t)=false:=by rcases h with h|h;cases h;exact h
  have hc:=UInt8.toNat_lt c
  by_cases ht:t = []
  ·
   subst ht;unfold lastZ at h
   simp at h
   have h0:c.toNat≠0:=fun e=>h e
   rw[leN,leN,leB_pos (by omega),show (c.toNat+256*0) / 256=0 by omega,leB_zero,u8_eq (c:=c) (by omega)]
  ·
   rw[lastZ_cons _ _ ht] at h;have ih:=leB_leN t (.inr h);have h0:leN t≠0:=by intro e;rw[e,leB_zero] at ih;exact ht ih.symm
   rw[leN,leB_pos (by omega),show (c.toNat+256*leN t) / 256=leN t by omega,ih,u8_eq (c:=c) (by omega)]
theorem largeP_split {r r1:List UInt8} {n:Int} (h:largeP r=some (n,r1)):110::r=intB n++r1∧(-9223372036854775808≤n∧n≤9223372036854775807):=by
 unfold largeP at h;cases hq:numP r 1 with
 | none=>rw[hq] at h;cases h
 | some q=>
  obtain⟨k,r2⟩:=q;rw[hq] at h;dsimp only at h;cases hq2:numP r2 1 with
  | none=>rw[hq2] at h;cases h
  | some q=>
   obtain⟨sg,r3⟩:=q;rw[hq2] at h;dsimp only at h;split at h
   ·
    rename_i hk;cases hq3:takeL r3 k with
    | none=>rw[hq3] at h;cases h
    | some q=>
     obtain⟨b,r4⟩:=q;rw[hq3] at h;dsimp only at h;obtain⟨e1,_⟩:=numP_one hq;obtain⟨e2,_⟩:=numP_one hq2;obtain⟨hb,e3⟩:=takeL_len hq3;cases hz:lastZ b with
     | true=>rw[hz] at h;cases h
     | false=>
      rw[hz,if_neg (by decide)] at h;have hl:=leB_leN b (.inr hz);subst e1 e2 e3 hb;split at h
      ·
       rename_i h1;split at h
       ·
        cases h;refine⟨?_,by omega⟩;unfold intB;rw[if_neg (by omega),if_neg (by omega),Int.natAbs_neg,Int.natAbs_natCast,hl,h1]
        have:signB (-(leN b:Int))=1:=by unfold signB;rw[if_pos (by omega)]
        rw[this];rfl
       ·
        cases h
      ·
       rename_i h1;split at h
       ·
        cases h;refine⟨?_,by omega⟩;unfold intB;rw[if_neg (by omega),if_neg (by omega),Int.natAbs_natCast,hl,show sg=0 by omega]
        have:signB (leN b:Int)=0:=by unfold signB;rw[if_neg (by omega)]
        rw[this];rfl
       ·
        cases h
   ·
    cases h
def Snd (T:Nat→List UInt8→Pr Tm) (k:Nat):Prop:=∀ p r t p1 r1,T p r=some (t,p1,r1)→codeT t++r1=r∧p1+k=p+cnt t∧(r.length≤200000→fitT t)
theorem itemsP_split {T:Nat→List UInt8→Pr Tm} (hT:Snd T 0):∀ n p r ts p1 r1,itemsP T n p r=some (ts,p1,r1)→ts.length=n∧codeL ts++r1=r∧p1=p+cntL ts∧(r.length≤200000→fitL ts)
 | 0,p,r,ts,p1,r1,h=>by
  cases h;exact⟨rfl,rfl,rfl,fun _=>trivial⟩
 | n+1,p,r,ts,p1,r1,h=>by
  rw[itemsP] at h;cases hq:T p r with
  | none=>rw[hq] at h;cases h
  | some q=>
   obtain⟨t,p2,r2⟩:=q;rw[hq] at h;dsimp only at h;cases hq2:itemsP T n p2 r2 with
   | none=>rw[hq2] at h;cases h
   | some q=>
    obtain⟨us,p3,r3⟩:=q;rw[hq2] at h;cases h;obtain⟨e1,c1,f1⟩:=hT _ _ _ _ _ hq;obtain⟨hl,e2,c2,f2⟩:=itemsP_split hT n _ _ _ _ _ hq2;refine⟨by rw[List.length_cons,hl],by rw[codeL,List.append_assoc,e2,e1],by rw[cntL];omega,fun h=>?_⟩;rw[fitL];refine⟨f1 h,f2 ?_⟩;rw[←e1,List.length_append] at h;omega
theorem itemsQ_split {T:Nat→List UInt8→Pr Tm} (hT:Snd T 0) {n p:Nat} {r:List UInt8} {ts:List Tm} {p1:Nat} {r1:List UInt8} (h:itemsQ T n p r=some (ts,p1,r1)):ts.length=n∧codeL ts++r1=r∧p1=p+cntL ts∧(r.length≤200000→fitL ts):=by
 unfold itemsQ at h;split at h
 ·
  exact itemsP_split hT _ _ _ _ _ _ h
 ·
  cases h
theorem fitF_mk {k n g:Int} {nm fn:ByteArray} {ar:Int} {bs:ByteArray} {bt:Int} (h1:nm.size≤200000) (h2:fn.size≤200000) (h3:bs.size≤200000) (hk : -9223372036854775808≤k∧k≤9223372036854775807) (hn : -9223372036854775808≤n∧n≤9223372036854775807) (hg : -9223372036854775808≤g∧g≤9223372036854775807) (ha : -9223372036854775808≤ar∧ar≤9223372036854775807) (hb : -9223372036854775808≤bt∧bt≤9223372036854775807):fitF ⟨k,n,g,nm,fn,ar,bs,bt⟩:=⟨⟨h1,h2,h3⟩,hk,hn,hg,ha,hb⟩
theorem int_snd (n:Int) (p:Nat) (r r1:List UInt8) (h:intB n++r1=r) (hn : -9223372036854775808≤n∧n≤9223372036854775807):codeT (intT n)++r1=r∧p+1=p+cnt (intT n)∧(r.length≤200000→fitT (intT n)):=by
 refine⟨?_,rfl,fun _=>?_⟩
 ·
  rw[←h];show (headB ⟨1,n,0,noB,noB,0,noB,0⟩ 0++codeL [])++r1=_;rw[codeL,List.append_nil];rfl
 ·
  unfold intT;rw[fitT];exact⟨fitF_mk (by decide) (by decide) (by decide) (by omega) hn (by omega) (by omega) (by omega),trivial⟩
theorem flat_snd {f:Fl} {b r r1:List UInt8} (p:Nat) (h:headB f 0=b) (e:b++r1=r) (hf:r.length≤200000→fitF f):codeT (.mk f [])++r1=r∧p+1=p+cnt (.mk f [])∧(r.length≤200000→fitT (.mk f [])):=by
 refine⟨?_,by rw[cnt,cntL],fun q=>?_⟩
 ·
  rw[codeT,codeL,List.append_nil,List.length_nil,h,e]
 ·
  rw[fitT];exact⟨hf q,trivial⟩
theorem deep_snd {f:Fl} {l:List Tm} {b r r1 r2:List UInt8} {p p1:Nat} (h:headB f l.length=b) (e:b++r2=r) (e2:codeL l++r1=r2) (hp:p1=p+cntL l) (hf:r.length≤200000→fitF f) (hl:r2.length≤200000→fitL l):codeT (.mk f l)++r1=r∧p1+1=p+cnt (.mk f l)∧(r.length≤200000→fitT (.mk f l)):=by
 refine⟨?_,by rw[cnt];omega,fun q=>?_⟩
 ·
  rw[codeT,h,List.append_assoc,e2,e]
 ·
  rw[fitT];exact⟨hf q,hl (by rw[←e,List.length_append] at q;omega)⟩
set_option maxHeartbeats 1000000 in
theorem tag_snd {T:Nat→List UInt8→Pr Tm} (hT:Snd T 0) {p tag:Nat} {r:List UInt8} {t:Tm} {p1:Nat} {r1:List UInt8} (h:tagP T p tag r=some (t,p1,r1)):codeT t++r1=u8 tag::r∧p1+1=p+cnt t∧((u8 tag::r).length≤200000→fitT t):=by
 unfold tagP at h;split at h
 ·
  rename_i e;subst e;unfold p97 at h;split at h
  ·
   cases h
  ·
   rename_i n r2 hq;cases h;obtain⟨rfl,hn⟩:=numP_one hq;exact int_snd _ _ _ _ (by unfold intB;rw[if_pos (by omega)];rfl) (by omega)
 split at h
 ·
  rename_i e;subst e;unfold p98 at h;split at h
  ·
   cases h
  ·
   rename_i n r2 hq;split at h
   ·
    rename_i hc;cases h;obtain⟨rfl,hn⟩:=numP_four hq;have hr : -2147483648≤toI32 n∧toI32 n<2147483648:=by unfold toI32;split<;>omega
    have hm:toI32 n % 4294967296=(n:Int) % 4294967296:=by unfold toI32;split<;>omega
    exact int_snd _ _ _ _ (by unfold intB;rw[if_neg (by omega),if_pos (by omega),num4_congr hm];rfl) (by omega)
   ·
    cases h
 split at h
 ·
  rename_i e;subst e;unfold p110 at h;split at h
  ·
   cases h
  ·
   rename_i n r2 hq;cases h;obtain⟨e,hn⟩:=largeP_split hq;exact int_snd _ _ _ _ e.symm hn
 split at h
 ·
  rename_i e;subst e;unfold p119 at h;split at h
  ·
   cases h
  ·
   rename_i n r2 hq;split at h
   ·
    cases h
   ·
    rename_i a r3 hq2;cases h;obtain⟨rfl,hn⟩:=numP_one hq;obtain⟨ha,rfl⟩:=takeL_len hq2;have hs:=bA_size a;exact flat_snd _ (b:=atomB (bA a)) rfl (by unfold atomB;rw[hs,ha];simp[bA];rfl) (fun _=>fitF_mk (by omega) (by decide) (by decide) (by omega) (by omega) (by omega) (by omega) (by omega))
 split at h
 ·
  rename_i e;subst e;unfold p104 at h;split at h
  ·
   cases h
  ·
   rename_i n r2 hq;split at h
   ·
    cases h
   ·
    rename_i ts p2 r3 hq2;cases h;obtain⟨rfl,hn⟩:=numP_one hq;obtain⟨hl,e2,hp,hf⟩:=itemsQ_split hT hq2;exact deep_snd (b:=[104,u8 n]) (by rw[hl];rfl) rfl e2 hp (fun _=>fitF_mk (by decide) (by decide) (by decide) (by omega) (by omega) (by omega) (by omega) (by omega)) hf
 split at h
 ·
  rename_i e;subst e;cases h;exact flat_snd _ (b:=[106]) rfl rfl (fun _=>fitF_mk (by decide) (by decide) (by decide) (by omega) (by omega) (by omega) (by omega) (by omega))
 split at h
 ·
  rename_i e;subst e;unfold p108 at h;split at h
  ·
   cases h
  ·
   rename_i n r2 hq;split at h
   ·
    cases h
   ·
    rename_i ts p2 r3 hq2;cases h;obtain⟨rfl,hn⟩:=numP_four hq;obtain⟨hl,e2,hp,hf⟩:=itemsQ_split hT hq2;exact deep_snd (b:=108::num4 n) (by rw[hl];show 108::num4 _=_;rw[show (((n+1:Nat):Int)-1)=n by omega]) rfl e2 hp (fun _=>fitF_mk (by decide) (by decide) (by decide) (by omega) (by omega) (by omega) (by omega) (by omega)) hf
 split at h
 ·
  rename_i e;subst e;unfold p109 at h;split at h
  ·
   cases h
  ·
   rename_i n r2 hq;split at h
   ·
    cases h
   ·
    rename_i a r3 hq2;cases h;obtain⟨rfl,hn⟩:=numP_four hq;obtain⟨ha,rfl⟩:=takeL_len hq2;have hs:=bA_size a;refine flat_snd _ (b:=109::(num4 n++a)) ?_ (by rw[List.cons_append,List.append_assoc];rfl) (fun q=>?_)
    ·
     have:8*(a.length:Int) % 8=0:=by omega
     simp[headB,hs,ha,bA_data]
    ·
     simp at q
     exact fitF_mk (by decide) (by decide) (by omega) (by omega) (by omega) (by omega) (by omega) (by omega)
 split at h
 ·
  rename_i e;subst e;unfold p77 at h;split at h
  ·
   cases h
  ·
   rename_i n r2 hq;split at h
   ·
    cases h
   ·
    rename_i k r3 hq2;split at h
    ·
     rename_i hc;split at h
     ·
      cases h
     ·
      rename_i a r4 hq3;cases h;obtain⟨rfl,hn⟩:=numP_four hq;obtain⟨rfl,hk⟩:=numP_one hq2;obtain⟨ha,rfl⟩:=takeL_len hq3;have hs:=bA_size a;refine flat_snd _ (b:=77::(num4 n++(u8 k::a))) ?_ (by rw[List.cons_append,List.append_assoc,List.cons_append];rfl) (fun q=>?_)
      ·
       have h1:¬k=0:=by omega
       have h2:(8*((n:Int)-1)+k) % 8=k:=by omega
       simp[headB,h1,h2,hs,ha,bA_data]
      ·
       simp at q
       exact fitF_mk (by decide) (by decide) (by omega) (by omega) (by omega) (by omega) (by omega) (by omega)
    ·
     cases h
 split at h
 ·
  rename_i e;subst e;unfold p88 at h;split at h
  ·
   cases h
  ·
   rename_i a r2 hq;split at h
   ·
    cases h
   ·
    rename_i n r3 hq2;split at h
    ·
     cases h
    ·
     rename_i z r4 hq3;split at h
     ·
      rename_i hz;split at h
      ·
       cases h
      ·
       rename_i g r5 hq4;cases h;subst hz;obtain⟨rfl,ha⟩:=nameP_split hq;obtain⟨rfl,hn⟩:=numP_four hq2;obtain⟨rfl,_⟩:=numP_four hq3;obtain⟨rfl,hg⟩:=numP_four hq4;have hs:=bA_size a;exact flat_snd _ (b:=88::(atomB (bA a)++(num4 n++(num4 0++num4 g)))) rfl (by simp;rfl) (fun _=>fitF_mk (by omega) (by decide) (by decide) (by omega) (by omega) (by omega) (by omega) (by omega))
     ·
      cases h
 split at h
 ·
  rename_i e;subst e;unfold p90 at h;split at h
  ·
   cases h
  ·
   rename_i z r2 hq;split at h
   ·
    rename_i hz;split at h
    ·
     cases h
    ·
     rename_i a r3 hq2;split at h
     ·
      cases h
     ·
      rename_i g r4 hq3;split at h
      ·
       cases h
      ·
       rename_i n r5 hq4;cases h;subst hz;obtain⟨rfl,_⟩:=numP_two hq;obtain⟨rfl,ha⟩:=nameP_split hq2;obtain⟨rfl,hg⟩:=numP_four hq3;obtain⟨rfl,hn⟩:=numP_four hq4;have hs:=bA_size a;exact flat_snd _ (b:=90::0::1::(atomB (bA a)++(num4 g++num4 n))) rfl (by simp;exact⟨rfl,rfl⟩) (fun _=>fitF_mk (by omega) (by decide) (by decide) (by omega) (by omega) (by omega) (by omega) (by omega))
   ·
    cases h
 unfold funP at h;split at h
 ·
  rename_i e;subst e;unfold p113 at h;split at h
  ·
   cases h
  ·
   rename_i a r2 hq;split at h
   ·
    cases h
   ·
    rename_i f r3 hq2;split at h
    ·
     cases h
    ·
     rename_i z r4 hq3;split at h
     ·
      rename_i hz;split at h
      ·
       cases h
      ·
       rename_i k r5 hq4;cases h;subst hz;obtain⟨rfl,ha⟩:=nameP_split hq;obtain⟨rfl,hf⟩:=nameP_split hq2;obtain⟨rfl,_⟩:=numP_one hq3;obtain⟨rfl,hk⟩:=numP_one hq4;have hs:=bA_size a;have hs2:=bA_size f;exact flat_snd _ (b:=113::(atomB (bA a)++(atomB (bA f) ++ [97,u8 k]))) (by simp[headB];unfold intB;rw[if_pos (by omega)]) (by simp;exact⟨rfl,rfl⟩) (fun _=>fitF_mk (by omega) (by omega) (by decide) (by omega) (by omega) (by omega) (by omega) (by omega))
     ·
      cases h
 split at h
 ·
  rename_i e;subst e;unfold p112 at h;split at h
  ·
   cases h
  ·
   rename_i k r2 hq;split at h
   ·
    cases h
   ·
    rename_i n r3 hq2;split at h
    ·
     cases h
    ·
     rename_i c r4 hq3;split at h
     ·
      cases h
     ·
      rename_i a r5 hq4;split at h
      ·
       cases h
      ·
       rename_i g r6 hq5;split at h
       ·
        cases h
       ·
        rename_i ts p2 r7 hq6;cases h;obtain⟨rfl,hk⟩:=numP_one hq;obtain⟨rfl,hn⟩:=numP_two hq2;obtain⟨rfl,hc⟩:=numP_one hq3;obtain⟨rfl,ha⟩:=nameP_split hq4;obtain⟨rfl,hg⟩:=numP_four hq5;obtain⟨hl,e2,hp,hf⟩:=itemsQ_split hT hq6;have hs:=bA_size a;exact deep_snd (b:=112::u8 k::(num2 n++(u8 c::(atomB (bA a)++num4 g)))) (by rw[hl];rfl) (by simp;rfl) e2 hp (fun _=>fitF_mk (by omega) (by decide) (by decide) (by omega) (by omega) (by omega) (by omega) (by omega)) hf
 ·
  cases h
theorem body_snd {T:Nat→List UInt8→Pr Tm} (hT:Snd T 0):Snd (bodyP T) 1:=by
 intro p r t p1 r1 h;unfold bodyP at h;split at h
 ·
  cases h
 ·
  rename_i tag r2 hq;obtain⟨rfl,_⟩:=numP_one hq;exact tag_snd hT h
theorem term_snd : ∀ d,Snd (termP d) 0
 | 0=>fun p r t p1 r1 h=>by cases h
 | d+1=>fun p r t p1 r1 h=>by
  rw[termP] at h;split at h
  ·
   obtain⟨h1,h2,h3⟩:=body_snd (term_snd d) _ _ _ _ _ h;exact⟨h1,by omega,h3⟩
  ·
   cases h
end Go.Proofs.YtoaimoemaoinhaaGreatDoor
