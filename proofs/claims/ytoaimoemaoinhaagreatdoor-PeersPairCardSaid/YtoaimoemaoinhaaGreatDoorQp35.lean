/- PeersX: a part of the proof. No condition beyond the premises of each theorem. -/
import Derived.Test.YtoaimoemaoinhaaGreatDoorQp34
import Derived.Test.YtoaimoemaoinhaaGreatDoorQp28
import Derived.Test.YtoaimoemaoinhaaGreatDoorQp31
import Derived.Test.YtoaimoemaoinhaaGreatDoorQp32
import Derived.Test.YtoaimoemaoinhaaGreatDoorQp00
set_option maxRecDepth 100000
namespace Go.Proofs.YtoaimoemaoinhaaGreatDoor
open Go.RowKit Go.Rt Go.Rw Go.Mp
structure Up (x:Cx) (d:Bool) (num id:Nat):Prop where
 d:x.dials=d
 num:x.num=num
 gen:x.gen=1
 ms:x.ms = []
 id:x.id=id
inductive Pp (x:ByteArray) (M:Nat):Nat→Ds→Nu→Prop
 | I {A B i j:Nat} {la lb:Bool} {n:Nu} (h:A≤M∧B≤M∧i≤M∧j≤M):Pp x M 0 ⟨NA x A i none la,NB x B j none lb,[],[],false,false⟩ n
 | S1 {A B i j kx:Nat} {la lb:Bool} {n:Nu} (h:A≤M∧B+1≤M∧i≤M∧j≤M∧kx≤M):Pp x M 4 ⟨NA x A i (some (cD exA exB x i kx)) la,NB x B j none lb,[],[pH exA exB i],false,false⟩ n
 | S2 {A B i j kx ky:Nat} {la lb:Bool} {n:Nu} (h:A+1≤M∧B+1≤M∧i≤M∧j≤M∧kx≤M∧ky≤M):Pp x M 6 ⟨NA x A i (some (cD exA exB x i kx)) la,NB x B j (some (cD exB exA x j ky)) lb,[pH exB exA j],[pH exA exB i],false,false⟩ n
 | S2p {A B i j kx ky:Nat} {la lb:Bool} {n:Nu} (h:A≤M∧B+1≤M∧i≤M∧j≤M∧kx≤M∧ky≤M):Pp x M 5 ⟨NA x A i (some (cD exA exB x i kx)) la,NB x B j (some (cD exB exA x j ky)) lb,[],[pH exA exB i,pY j],false,false⟩ n
 | S3a {A B i j kx ky:Nat} {la lb:Bool} {n:Nu} (h:A≤M∧B≤M∧i≤M∧j≤M∧kx≤M∧ky≤M):Pp x M 3 ⟨NA x A i (some (cD exA exB x i kx)) la,NB x B j (some (cI exB exA x i ky)) lb,[pO exB i ky],[],false,false⟩ n
 | S3b {A B i j kx ky:Nat} {la lb:Bool} {n:Nu} (h:A+1≤M∧B≤M∧i≤M∧j≤M∧kx≤M∧ky≤M):Pp x M 5 ⟨NA x A i (some (cD exA exB x i kx)) la,NB x B j (some (cI exB exA x i ky)) lb,[pH exB exA j,pO exB i ky],[],false,false⟩ n
 | S3c {A B i j kx ky:Nat} {la lb:Bool} {n:Nu} (h:A≤M∧B≤M∧i≤M∧j≤M∧kx≤M∧ky≤M):Pp x M 4 ⟨NA x A i (some (cD exA exB x i kx)) la,NB x B j (some (cI exB exA x i ky)) lb,[pO exB i ky],[pY j],false,false⟩ n
 | S4a {A B i j kx ky:Nat} {la lb:Bool} {n:Nu} (h:A≤M∧B≤M∧i≤M∧j≤M∧kx≤M∧ky≤M):Pp x M 2 ⟨NA x A i (some (cE exA exB x i kx ky)) la,NB x B j (some (cI exB exA x i ky)) lb,[],[pR exA exB x i kx ky],false,false⟩ n
 | S4b {A B i j kx ky:Nat} {la lb:Bool} {n:Nu} (h:A≤M∧B≤M∧i≤M∧j≤M∧kx≤M∧ky≤M):Pp x M 3 ⟨NA x A i (some (cE exA exB x i kx ky)) la,NB x B j (some (cI exB exA x i ky)) lb,[],[pY j,pR exA exB x i kx ky],false,false⟩ n
 | S5 {A B i j kx ky k:Nat} {la:Bool} {cb:Cx} {n:Nu} (hb:Up cb false i k) (h:A≤M∧B≤M∧i≤M∧j≤M∧kx≤M∧ky≤M∧k≤M) (hn:n.sb=(k:Int)∧n.gb=0) :
   Pp x M (1+k) ⟨NA x A i (some (cE exA exB x i kx ky)) la,NB x B j (some cb) true,pA exB exA x i kx ky::fL false i exB exA n.eb 0 k,[],false,true⟩ n
 | U {A B i j num ga ka gb kb:Nat} {d:Bool} {ca cb:Cx} {n:Nu} (ha:Up ca d num (gb+kb)) (hb:Up cb (!d) num (ga+ka)) (h:A≤M∧B≤M∧i≤M∧j≤M∧num≤M∧ga+ka≤M∧gb+kb≤M)
   (hn:n.ga=(ga:Int)∧n.sb=((ga+ka:Nat):Int)∧n.gb=(gb:Int)∧n.sa=((gb+kb:Nat):Int)) :
   Pp x M (ka+kb) ⟨NA x A i (some ca) true,NB x B j (some cb) true,fL (!d) num exB exA n.eb ga ka,fL d num exA exB n.ea gb kb,true,true⟩ n
 | T1 {A B i j ky:Nat} {la lb:Bool} {n:Nu} (h:A+1≤M∧B≤M∧i≤M∧j≤M∧ky≤M):Pp x M 4 ⟨NA x A i none la,NB x B j (some (cD exB exA x j ky)) lb,[pH exB exA j],[],false,false⟩ n
 | T2 {A B i j kx ky:Nat} {la lb:Bool} {n:Nu} (h:A≤M∧B≤M∧i≤M∧j≤M∧kx≤M∧ky≤M):Pp x M 3 ⟨NA x A i (some (cI exA exB x j kx)) la,NB x B j (some (cD exB exA x j ky)) lb,[],[pO exA j kx],false,false⟩ n
 | T3 {A B i j kx ky:Nat} {la lb:Bool} {n:Nu} (h:A≤M∧B≤M∧i≤M∧j≤M∧kx≤M∧ky≤M):Pp x M 2 ⟨NA x A i (some (cI exA exB x j kx)) la,NB x B j (some (cE exB exA x j ky kx)) lb,[pR exB exA x j ky kx],[],false,false⟩ n
 | T4 {A B i j kx ky k:Nat} {lb:Bool} {ca:Cx} {n:Nu} (ha:Up ca false j k) (h:A≤M∧B≤M∧i≤M∧j≤M∧kx≤M∧ky≤M∧k≤M) (hn:n.sa=(k:Int)∧n.ga=0) :
   Pp x M (1+k) ⟨NA x A i (some ca) true,NB x B j (some (cE exB exA x j ky kx)) lb,[],pA exA exB x j ky kx::fL false j exA exB n.ea 0 k,true,false⟩ n
inductive EcA (n:Nu) (ua ub:Bool):List Ev→Bool→Nu→Prop
 | no:EcA n ua ub [] ua n
 | up (h:ua=false):EcA n ua ub [upE exB 1] true { n with ea:=n.ea+1,sa:=0,fa:=0,ga:=0 }
 | sig (h:ua=true) (h2:ub=true) (m:Nat) (h3:n.ga=(m:Int)) (h4:m≤1000000):EcA n ua ub [sigE exB (sgN exB exA n.eb m)] ua { n with fa:=n.eb,ga:=n.ga+1 }
inductive EcB (n:Nu) (ua ub:Bool):List Ev→Bool→Nu→Prop
 | no:EcB n ua ub [] ub n
 | up (h:ub=false):EcB n ua ub [upE exA 1] true { n with eb:=n.eb+1,sb:=0,fb:=0,gb:=0 }
 | sig (h:ua=true) (h2:ub=true) (m:Nat) (h3:n.gb=(m:Int)) (h4:m≤1000000):EcB n ua ub [sigE exA (sgN exA exB n.ea m)] ub { n with fb:=n.ea,gb:=n.gb+1 }
structure NuOk (C:Nat) (ua ub:Bool) (n:Nu):Prop where
 ea:0≤n.ea∧n.ea≤C+(if ua then 1 else 0)
 eb:0≤n.eb∧n.eb≤C+(if ub then 1 else 0)
 ta:0≤n.ta∧n.ta≤n.eb∧(ub=true→n.ta<n.eb)
 tb:0≤n.tb∧n.tb≤n.ea∧(ua=true→n.tb<n.ea)
 fa:ua=true→n.fa=0∨(ub=true∧n.fa=n.eb)
 fb:ub=true→n.fb=0∨(ua=true∧n.fb=n.ea)
 sa:0≤n.sa∧n.sa≤C
 sb:0≤n.sb∧n.sb≤C
theorem NuOk.evA {C:Nat} {ua ub ua':Bool} {n n':Nu} {evs:List Ev} (h:NuOk C ua ub n) (e:EcA n ua ub evs ua' n'):NuOk C ua' ub n':=by
 obtain⟨h1,h2,h3,h4,h5,h6,h7,h8⟩:=h;cases e with
 | no=>exact⟨h1,h2,h3,h4,h5,h6,h7,h8⟩
 | up q=>
  subst q;simp only[Bool.false_eq_true,if_false,false_and,or_false,false_implies] at *;refine⟨by simp only[if_true];omega,h2,h3,⟨h4.1,by simp only;omega,fun _=>by simp only;omega⟩,fun _=>.inl rfl,fun q=>.inl (h6 q),⟨by simp only;omega,by simp only;omega⟩,h8⟩
 | sig q q2=>exact⟨h1,h2,h3,h4,fun _=>.inr ⟨q2,rfl⟩,h6,h7,h8⟩
theorem NuOk.evB {C:Nat} {ua ub ub':Bool} {n n':Nu} {evs:List Ev} (h:NuOk C ua ub n) (e:EcB n ua ub evs ub' n'):NuOk C ua ub' n':=by
 obtain⟨h1,h2,h3,h4,h5,h6,h7,h8⟩:=h;cases e with
 | no=>exact⟨h1,h2,h3,h4,h5,h6,h7,h8⟩
 | up q=>
  subst q;simp only[Bool.false_eq_true,if_false,false_and,or_false,false_implies] at *;refine⟨h1,by simp only[if_true];omega,⟨h3.1,by simp only;omega,fun _=>by simp only;omega⟩,h4,fun q=>.inl (h5 q),fun _=>.inl rfl,h7,⟨by simp only;omega,by simp only;omega⟩⟩
 | sig q q2=>exact⟨h1,h2,h3,h4,h5,fun _=>.inr ⟨q,rfl⟩,h7,h8⟩
theorem NuOk.mono {C:Nat} {ua ub:Bool} {n:Nu} (h:NuOk C ua ub n):NuOk (C+1) ua ub n:=
 ⟨⟨h.ea.1,by have:=h.ea.2;omega⟩,⟨h.eb.1,by have:=h.eb.2;omega⟩,h.ta,h.tb,h.fa,h.fb,⟨h.sa.1,by have:=h.sa.2;omega⟩,⟨h.sb.1,by have:=h.sb.2;omega⟩⟩
theorem NuOk.sentA {C:Nat} {ua ub:Bool} {n:Nu} (h:NuOk C ua ub n):NuOk (C+1) ua ub { n with sa:=n.sa+1 }:=
 ⟨h.mono.ea,h.mono.eb,h.ta,h.tb,h.fa,h.fb,⟨by have:=h.sa;simp only;omega,by have:=h.sa;simp only;omega⟩,h.mono.sb⟩
theorem NuOk.sentB {C:Nat} {ua ub:Bool} {n:Nu} (h:NuOk C ua ub n):NuOk (C+1) ua ub { n with sb:=n.sb+1 }:=
 ⟨h.mono.ea,h.mono.eb,h.ta,h.tb,h.fa,h.fb,h.mono.sa,⟨by have:=h.sb;simp only;omega,by have:=h.sb;simp only;omega⟩⟩
def cutU (ua ub:Bool) (n:Nu):Nu:={ n with ta:=if ua then max n.ta n.fa else n.ta,tb:=if ub then max n.tb n.fb else n.tb }
theorem NuOk.cut {C:Nat} {ua ub:Bool} {n:Nu} (h:NuOk C ua ub n):NuOk (C+1) false false (cutU ua ub n):=by
 obtain⟨h1,h2,h3,h4,h5,h6,h7,h8⟩:=h;unfold cutU;cases ua<;>cases ub<;>refine⟨?_,?_,?_,?_,fun q=>(by cases q),fun q=>(by cases q),?_,?_⟩<;>simp only[Bool.false_eq_true,if_false,if_true,true_implies,false_implies,true_and,false_and,or_false,and_true] at *<;>omega
section
variable {x:ByteArray} {M r:Nat} {s:Ds} {n:Nu}
theorem Pp.mono {M':Nat} (h:Pp x M r s n) (hm:M≤M'):Pp x M' r s n:=by
 cases h with
 | I h=>exact .I (by omega)
 | S1 h=>exact .S1 (by omega)
 | S2 h=>exact .S2 (by omega)
 | S2p h=>exact .S2p (by omega)
 | S3a h=>exact .S3a (by omega)
 | S3b h=>exact .S3b (by omega)
 | S3c h=>exact .S3c (by omega)
 | S4a h=>exact .S4a (by omega)
 | S4b h=>exact .S4b (by omega)
 | S5 hb h hn=>exact .S5 hb (by omega) hn
 | U ha hb h hn=>exact .U ha hb (by omega) hn
 | T1 h=>exact .T1 (by omega)
 | T2 h=>exact .T2 (by omega)
 | T3 h=>exact .T3 (by omega)
 | T4 ha h hn=>exact .T4 ha (by omega) hn
def PasA (x:ByteArray) (M r:Nat) (s:Ds) (n:Nu) (p:ByteArray) (rest:List ByteArray):Prop:=
 ∃ n' evs ua' nu' r',pktN gP s.na exB p=((n',evs),0)∧PkG s.na exB p∧EcA n s.ua s.ub evs ua' nu'∧(outQ n' exB).length≤1∧Pp x M r' ⟨dropO n' exB,s.nb,rest,s.wb++outQ n' exB,ua',s.ub⟩ nu'∧r'<r
def PasB (x:ByteArray) (M r:Nat) (s:Ds) (n:Nu) (p:ByteArray) (rest:List ByteArray):Prop:=
 ∃ n' evs ub' nu' r',pktN gP s.nb exA p=((n',evs),0)∧PkG s.nb exA p∧EcB n s.ua s.ub evs ub' nu'∧(outQ n' exA).length≤1∧Pp x M r' ⟨s.na,dropO n' exA,s.wa++outQ n' exA,rest,s.ua,ub'⟩ nu'∧r'<r
theorem pasA_of {p:ByteArray} {rest out:List ByteArray} {c':Option Cx} {l' ua':Bool} {ch' di' r':Nat} {evs:List Ev} {nu':Nu} (h:pktN gP s.na exB p=((mkN exA exB x ch' di' c' l' out,evs),0)) (hp:PkG s.na exB p)
  (he:EcA n s.ua s.ub evs ua' nu') (ho:out.length≤1) (hP:Pp x M r' ⟨NA x ch' di' c' l',s.nb,rest,s.wb++out,ua',s.ub⟩ nu') (hr:r'<r):PasA x M r s n p rest:=by
 refine⟨_,evs,ua',nu',r',h,hp,he,?_,?_,hr⟩
 ·
  rw[mk_outQ];exact ho
 ·
  rw[mk_outQ,mk_drop];exact hP
theorem pasB_of {p:ByteArray} {rest out:List ByteArray} {c':Option Cx} {l' ub':Bool} {ch' di' r':Nat} {evs:List Ev} {nu':Nu} (h:pktN gP s.nb exA p=((mkN exB exA x ch' di' c' l' out,evs),0)) (hp:PkG s.nb exA p)
  (he:EcB n s.ua s.ub evs ub' nu') (ho:out.length≤1) (hP:Pp x M r' ⟨s.na,NB x ch' di' c' l',s.wa++out,rest,s.ua,ub'⟩ nu') (hr:r'<r):PasB x M r s n p rest:=by
 refine⟨_,evs,ub',nu',r',h,hp,he,?_,?_,hr⟩
 ·
  rw[mk_outQ];exact ho
 ·
  rw[mk_outQ,mk_drop];exact hP
theorem up_cU {me ot x:ByteArray} {num kx ky:Nat} : Up (cU me ot x num kx ky 0) true num 0:=⟨rfl,rfl,rfl,rfl,rfl⟩
theorem up_cV {me ot x:ByteArray} {num kx ky:Nat} : Up (cV me ot x num kx ky 0) false num 0:=⟨rfl,rfl,rfl,rfl,rfl⟩
theorem pp_passA (h:Pp x M r s n) (hM:M≤1000000) (hn:0≤n.eb∧n.eb≤2000000) (p:ByteArray) (rest:List ByteArray) (hw:s.wa=p::rest):PasA x M r s n p rest:=by
 cases h with
 | I h=>cases hw
 | S1 h=>cases hw
 | S2 h=>
  cases hw;exact pasA_of (p_busy TAB _ (by omega) _ rfl busyAB) (ok_pH rfl rfl (by omega)).g .no (by simp) (.S2p (by omega)) (by omega)
 | S2p h=>cases hw
 | S3a h=>
  cases hw;exact pasA_of (p_offer TAB _ _ _ (by omega) (by omega)) (ok_pO rfl (by omega)).g .no (by simp) (.S4a (by omega)) (by omega)
 | S3b h=>
  cases hw;exact pasA_of (p_busy TAB _ (by omega) _ rfl busyAB) (ok_pH rfl rfl (by omega)).g .no (by simp) (.S3c (by omega)) (by omega)
 | S3c h=>
  cases hw;exact pasA_of (p_offer TAB _ _ _ (by omega) (by omega)) (ok_pO rfl (by omega)).g .no (by simp) (.S4b (by omega)) (by omega)
 | S4a h=>cases hw
 | S4b h=>cases hw
 | @S5 A B i j kx ky k la cb n hb h hn2=>
  cases hw;have hP:Pp x M (k+0) ⟨NA x A i (some (cU exA exB x i kx ky 0)) true,NB x B j (some cb) true,fL (!true) i exB exA n.eb 0 k,fL true i exA exB (n.ea+1) 0 0,true,true⟩ { n with ea:=n.ea+1,sa:=0,fa:=0,ga:=0 }:=.U (n:={ n with ea:=n.ea+1,sa:=0,fa:=0,ga:=0 }) (A:=A) (B:=B) (i:=i) (j:=j) (num:=i) (d:=true) (ga:=0) (ka:=k) (gb:=0) (kb:=0) up_cU (by rw[Nat.zero_add];exact hb) (by omega) ⟨rfl,by rw[Nat.zero_add];exact hn2.1,hn2.2,rfl⟩
  exact pasA_of (p_ack TAB i kx ky _ (Sk.proofL_size ..) (by omega) (seqB_refl' _)) (ok_pA (by omega)).g (.up rfl) (by simp)
   (r':=k+0) (nu':={ n with ea:=n.ea+1,sa:=0,fa:=0,ga:=0 }) hP (by omega)
 | @U A B i j num ga ka gb kb d ca cb n ha hb h hn2=>
  cases ka with
  | zero=>cases hw
  | succ k=>
   rw[fL_cons] at hw;cases hw;have hP:Pp x M (k+kb) ⟨NA x A i (some ca) true,NB x B j (some cb) true,fL (!d) num exB exA n.eb (ga+1) k,fL d num exA exB n.ea gb kb,true,true⟩ { n with fa:=n.eb,ga:=n.ga+1 }:=.U (n:={ n with fa:=n.eb,ga:=n.ga+1 }) (A:=A) (B:=B) (i:=i) (j:=j) (num:=num) (d:=d) (ga:=ga+1) (ka:=k) (gb:=gb) (kb:=kb) ha (by rw[show ga+1+k=ga+(k+1) by omega];exact hb) (by omega) ⟨show n.ga+1=((ga+1:Nat):Int) by omega,show n.sb=((ga+1+k:Nat):Int) by omega,hn2.2.2.1,hn2.2.2.2⟩
   exact pasA_of (p_frag TAB (!d) num n.eb ga ca (by omega) (by omega) (by omega) ha.num (by rw[ha.d,Bool.not_not])) (pkg_frag TAB (by omega) (by omega) (by omega) ha.gen ha.ms) (.sig rfl rfl ga hn2.1 (by omega)) (by simp)
    (r':=k+kb) (nu':={ n with fa:=n.eb,ga:=n.ga+1 }) (by rw[List.append_nil];exact hP) (by omega)
 | T1 h=>
  cases hw;exact pasA_of (p_hello TAB _ (by omega) (fun _ h=>by cases h) rfl) (ok_pH rfl rfl (by omega)).g .no (by simp) (.T2 (by omega)) (by omega)
 | T2 h=>cases hw
 | @T3 A B i j kx ky la lb n h=>
  cases hw;exact pasA_of (p_reply TAB j ky kx _ (Sk.proofD_size ..) (by omega) (by omega) (seqB_refl' _)) (ok_pR (by omega)).g (.up rfl) (by simp) (.T4 (n:={ n with ea:=n.ea+1,sa:=0,fa:=0,ga:=0 }) (k:=0) up_cV (by omega) ⟨rfl,rfl⟩) (by omega)
 | T4 ha h hn2=>cases hw
theorem pp_passB (h:Pp x M r s n) (hM:M≤1000000) (hn:0≤n.ea∧n.ea≤2000000) (p:ByteArray) (rest:List ByteArray) (hw:s.wb=p::rest):PasB x M r s n p rest:=by
 cases h with
 | I h=>cases hw
 | S1 h=>
  cases hw;exact pasB_of (p_hello TBA _ (by omega) (fun _ h=>by cases h) rfl) (ok_pH rfl rfl (by omega)).g .no (by simp) (.S3a (by omega)) (by omega)
 | S2 h=>
  cases hw;exact pasB_of (p_hello TBA _ (by omega) (fun _ h=>by cases h;exact⟨rfl,rfl⟩) busyBA) (ok_pH rfl rfl (by omega)).g .no (by simp) (.S3b (by omega)) (by omega)
 | S2p h=>
  cases hw;exact pasB_of (p_hello TBA _ (by omega) (fun _ h=>by cases h;exact⟨rfl,rfl⟩) busyBA) (ok_pH rfl rfl (by omega)).g .no (by simp) (.S3c (by omega)) (by omega)
 | S3a h=>cases hw
 | S3b h=>cases hw
 | S3c h=>
  cases hw;exact pasB_of (p_ignore TBA _ (by omega) _ rfl) (ok_pY (by omega)).g .no (by simp) (.S3a (by omega)) (by omega)
 | @S4a A B i j kx ky la lb n h=>
  cases hw;exact pasB_of (p_reply TBA i kx ky _ (Sk.proofD_size ..) (by omega) (by omega) (seqB_refl' _)) (ok_pR (by omega)).g (.up rfl) (by simp) (.S5 (n:={ n with eb:=n.eb+1,sb:=0,fb:=0,gb:=0 }) (k:=0) up_cV (by omega) ⟨rfl,rfl⟩) (by omega)
 | S4b h=>
  cases hw;exact pasB_of (p_ignore TBA _ (by omega) _ rfl) (ok_pY (by omega)).g .no (by simp) (.S4a (by omega)) (by omega)
 | S5 hb h hn2=>cases hw
 | @U A B i j num ga ka gb kb d ca cb n ha hb h hn2=>
  cases kb with
  | zero=>cases hw
  | succ k=>
   rw[fL_cons] at hw;cases hw;have hP:Pp x M (ka+k) ⟨NA x A i (some ca) true,NB x B j (some cb) true,fL (!d) num exB exA n.eb ga ka,fL d num exA exB n.ea (gb+1) k,true,true⟩ { n with fb:=n.ea,gb:=n.gb+1 }:=.U (n:={ n with fb:=n.ea,gb:=n.gb+1 }) (A:=A) (B:=B) (i:=i) (j:=j) (num:=num) (d:=d) (ga:=ga) (ka:=ka) (gb:=gb+1) (kb:=k) (by rw[show gb+1+k=gb+(k+1) by omega];exact ha) hb (by omega) ⟨hn2.1,hn2.2.1,show n.gb+1=((gb+1:Nat):Int) by omega,show n.sa=((gb+1+k:Nat):Int) by omega⟩
   exact pasB_of (p_frag TBA d num n.ea gb cb (by omega) (by omega) (by omega) hb.num hb.d) (pkg_frag TBA (by omega) (by omega) (by omega) hb.gen hb.ms) (.sig rfl rfl gb hn2.2.2.1 (by omega)) (by simp)
    (r':=ka+k) (nu':={ n with fb:=n.ea,gb:=n.gb+1 }) (by rw[List.append_nil];exact hP) (by omega)
 | T1 h=>cases hw
 | T2 h=>
  cases hw;exact pasB_of (p_offer TBA _ _ _ (by omega) (by omega)) (ok_pO rfl (by omega)).g .no (by simp) (.T3 (by omega)) (by omega)
 | T3 h=>cases hw
 | @T4 A B i j kx ky k lb ca n ha h hn2=>
  cases hw;have hP:Pp x M (0+k) ⟨NA x A i (some ca) true,NB x B j (some (cU exB exA x j ky kx 0)) true,fL (!false) j exB exA (n.eb+1) 0 0,fL false j exA exB n.ea 0 k,true,true⟩ { n with eb:=n.eb+1,sb:=0,fb:=0,gb:=0 }:=.U (n:={ n with eb:=n.eb+1,sb:=0,fb:=0,gb:=0 }) (A:=A) (B:=B) (i:=i) (j:=j) (num:=j) (d:=false) (ga:=0) (ka:=0) (gb:=0) (kb:=k) (by rw[Nat.zero_add];exact ha) up_cU (by omega) ⟨hn2.2,rfl,rfl,by rw[Nat.zero_add];exact hn2.1⟩
  exact pasB_of (p_ack TBA j ky kx _ (Sk.proofL_size ..) (by omega) (seqB_refl' _)) (ok_pA (by omega)).g (.up rfl) (by simp)
   (r':=0+k) (nu':={ n with eb:=n.eb+1,sb:=0,fb:=0,gb:=0 }) hP (by omega)
def DiaA (x:ByteArray) (M _r:Nat) (s:Ds) (n:Nu):Prop:=(outQ (dialN s.na exB).1 exB).length≤1∧∃ r',Pp x (M+1) r' ⟨dropO (dialN s.na exB).1 exB,s.nb,s.wa,s.wb++outQ (dialN s.na exB).1 exB,s.ua,s.ub⟩ n
def DiaB (x:ByteArray) (M _r:Nat) (s:Ds) (n:Nu):Prop:=(outQ (dialN s.nb exA).1 exA).length≤1∧∃ r',Pp x (M+1) r' ⟨s.na,dropO (dialN s.nb exA).1 exA,s.wa++outQ (dialN s.nb exA).1 exA,s.wb,s.ua,s.ub⟩ n
theorem diA_no {ch di:Nat} {l:Bool} {c:Cx} (hs:s.na=NA x ch di (some c) l) (h:Pp x M r s n):DiaA x M r s n:=by
 have e:dialN s.na exB=(NA x ch di (some c) l,8):=by rw[hs];exact d_twice TAB c
 have e2:(⟨NA x ch di (some c) l,s.nb,s.wa,s.wb,s.ua,s.ub⟩:Ds)=s:=by rw[←hs]
 unfold DiaA;rw[e];refine⟨by rw[mk_outQ];simp,r,?_⟩;rw[mk_outQ,mk_drop,List.append_nil];show Pp x (M+1) r ⟨NA x ch di (some c) l,s.nb,s.wa,s.wb,s.ua,s.ub⟩ n;rw[e2];exact h.mono (by omega)
theorem diB_no {ch di:Nat} {l:Bool} {c:Cx} (hs:s.nb=NB x ch di (some c) l) (h:Pp x M r s n):DiaB x M r s n:=by
 have e:dialN s.nb exA=(NB x ch di (some c) l,8):=by rw[hs];exact d_twice TBA c
 have e2:(⟨s.na,NB x ch di (some c) l,s.wa,s.wb,s.ua,s.ub⟩:Ds)=s:=by rw[←hs]
 unfold DiaB;rw[e];refine⟨by rw[mk_outQ];simp,r,?_⟩;rw[mk_outQ,mk_drop,List.append_nil];show Pp x (M+1) r ⟨s.na,NB x ch di (some c) l,s.wa,s.wb,s.ua,s.ub⟩ n;rw[e2];exact h.mono (by omega)
theorem diA_yes {ch di r':Nat} {l:Bool} (hs:s.na=NA x ch di none l) (hP:Pp x (M+1) r' ⟨NA x (ch+1) (di+1) (some (cD exA exB x (di+1) ch)) l,s.nb,s.wa,s.wb ++ [pH exA exB (di+1)],s.ua,s.ub⟩ n):DiaA x M r s n:=by
 have e:=@d_yes exA exB x ch di l TAB;unfold DiaA;rw[hs,e];refine⟨by rw[mk_outQ];simp,r',?_⟩;rw[mk_outQ,mk_drop];exact hP
theorem diB_yes {ch di r':Nat} {l:Bool} (hs:s.nb=NB x ch di none l) (hP:Pp x (M+1) r' ⟨s.na,NB x (ch+1) (di+1) (some (cD exB exA x (di+1) ch)) l,s.wa ++ [pH exB exA (di+1)],s.wb,s.ua,s.ub⟩ n):DiaB x M r s n:=by
 have e:=@d_yes exB exA x ch di l TBA;unfold DiaB;rw[hs,e];refine⟨by rw[mk_outQ];simp,r',?_⟩;rw[mk_outQ,mk_drop];exact hP
theorem pp_dialA (h:Pp x M r s n):DiaA x M r s n:=by
 have h0:=h;cases h with
 | I h=>exact diA_yes rfl (.S1 (by omega))
 | T1 h=>exact diA_yes rfl (.S2 (by omega))
 | _=>exact diA_no rfl h0
theorem pp_dialB (h:Pp x M r s n):DiaB x M r s n:=by
 have h0:=h;cases h with
 | I h=>exact diB_yes rfl (.T1 (by omega))
 | S1 h=>exact diB_yes rfl (.S2 (by omega))
 | _=>exact diB_no rfl h0
def SndA (x:ByteArray) (M:Nat) (s:Ds) (n:Nu):Prop:=∃ n1 c r',sendS s.na exB (sgN exA exB n.ea n.sa)=(n1,c)∧(outQ n1 exB).length≤1 ∧
 ((c=0∧s.ua=true∧0≤n.sa∧n.sa≤M∧Pp x (M+1) r' ⟨dropO n1 exB,s.nb,s.wa,s.wb++outQ n1 exB,s.ua,s.ub⟩ { n with sa:=n.sa+1 })∨(c=9∧s.ua=false∧Pp x (M+1) r' ⟨dropO n1 exB,s.nb,s.wa,s.wb++outQ n1 exB,s.ua,s.ub⟩ n))
def SndB (x:ByteArray) (M:Nat) (s:Ds) (n:Nu):Prop:=∃ n1 c r',sendS s.nb exA (sgN exB exA n.eb n.sb)=(n1,c)∧(outQ n1 exA).length≤1 ∧
 ((c=0∧s.ub=true∧0≤n.sb∧n.sb≤M∧Pp x (M+1) r' ⟨s.na,dropO n1 exA,s.wa++outQ n1 exA,s.wb,s.ua,s.ub⟩ { n with sb:=n.sb+1 })∨(c=9∧s.ub=false∧Pp x (M+1) r' ⟨s.na,dropO n1 exA,s.wa++outQ n1 exA,s.wb,s.ua,s.ub⟩ n))
section
variable {me ot ck:ByteArray} {ch di:Nat} {c:Option Cx} {l:Bool}
theorem send_dn {g:Sg} (h:∀ y,c=some y→y.gen=0):sendS (mkN me ot ck ch di c l []) ot g=(mkN me ot ck ch di c l [],9):=by
 unfold sendS;rw[mk_getC];cases c with
 | none=>rfl
 | some y=>exact if_pos (h y rfl)
theorem send_up {c:Cx} {d:Bool} {num id:Nat} (u:Up c d num id) (e:Int):sendS (mkN me ot ck ch di (some c) l []) ot (sgN me ot e (id:Int))=(mkN me ot ck ch di (some { c with id:=id+1 }) l [fP d num me ot e id],0):=by
 unfold sendS;rw[mk_getC];show (if c.gen=0 then _ else _)=_;rw[if_neg (by rw[u.gen];omega),mk_set,mk_send,u.d,u.num,u.id];rfl
theorem Up.next {c:Cx} {d:Bool} {num id:Nat} (u:Up c d num id):Up { c with id:=id+1 } d num (id+1):=⟨u.d,u.num,u.gen,u.ms,rfl⟩
end
theorem snA_dn {ch di:Nat} {c:Option Cx} {l:Bool} (hs:s.na=NA x ch di c l) (hc:∀ y,c=some y→y.gen=0) (hu:s.ua=false) (h:Pp x M r s n):SndA x M s n:=by
 refine⟨s.na,9,r,by rw[hs];exact send_dn hc,by rw[hs,mk_outQ];simp,.inr ⟨rfl,hu,?_⟩⟩;have e1:dropO s.na exB=s.na:=by rw[hs];exact mk_drop
 have e2:outQ s.na exB = []:=by rw[hs];exact mk_outQ
 rw[e1,e2,List.append_nil];exact h.mono (by omega)
theorem snB_dn {ch di:Nat} {c:Option Cx} {l:Bool} (hs:s.nb=NB x ch di c l) (hc:∀ y,c=some y→y.gen=0) (hu:s.ub=false) (h:Pp x M r s n):SndB x M s n:=by
 refine⟨s.nb,9,r,by rw[hs];exact send_dn hc,by rw[hs,mk_outQ];simp,.inr ⟨rfl,hu,?_⟩⟩;have e1:dropO s.nb exA=s.nb:=by rw[hs];exact mk_drop
 have e2:outQ s.nb exA = []:=by rw[hs];exact mk_outQ
 rw[e1,e2,List.append_nil];exact h.mono (by omega)
theorem snA_up {ch di id num r':Nat} {c:Cx} {d:Bool} (hs:s.na=NA x ch di (some c) true) (u:Up c d num id) (hn:n.sa=(id:Int)) (hm:id≤M) (hu:s.ua=true)
  (h:Pp x (M+1) r' ⟨NA x ch di (some { c with id:=id+1 }) true,s.nb,s.wa,s.wb ++ [fP d num exA exB n.ea id],s.ua,s.ub⟩ { n with sa:=n.sa+1 }):SndA x M s n:=by
 refine⟨_,0,r',by rw[hs,hn];exact send_up u _,by rw[mk_outQ];simp,.inl ⟨rfl,hu,by omega,by omega,?_⟩⟩;rw[mk_outQ,mk_drop];exact h
theorem snB_up {ch di id num r':Nat} {c:Cx} {d:Bool} (hs:s.nb=NB x ch di (some c) true) (u:Up c d num id) (hn:n.sb=(id:Int)) (hm:id≤M) (hu:s.ub=true)
  (h:Pp x (M+1) r' ⟨s.na,NB x ch di (some { c with id:=id+1 }) true,s.wa ++ [fP d num exB exA n.eb id],s.wb,s.ua,s.ub⟩ { n with sb:=n.sb+1 }):SndB x M s n:=by
 refine⟨_,0,r',by rw[hs,hn];exact send_up u _,by rw[mk_outQ];simp,.inl ⟨rfl,hu,by omega,by omega,?_⟩⟩;rw[mk_outQ,mk_drop];exact h
theorem pp_sendA (h:Pp x M r s n):SndA x M s n:=by
 have h0:=h;cases h with
 | @U A B i j num ga ka gb kb d ca cb n ha hb h hn2=>
  refine snA_up (r':=ka+(kb+1)) rfl ha hn2.2.2.2 (by omega) rfl ?_;show Pp x (M+1) _ ⟨_,_,_,fL d num exA exB n.ea gb kb++_,_,_⟩ _;rw[fL_snoc];exact .U (n:={ n with sa:=n.sa+1 }) (A:=A) (B:=B) (i:=i) (j:=j) (num:=num) (d:=d) (ga:=ga) (ka:=ka) (gb:=gb) (kb:=kb+1) ha.next hb (by omega) ⟨hn2.1,hn2.2.1,hn2.2.2.1,show n.sa+1=((gb+(kb+1):Nat):Int) by omega⟩
 | @T4 A B i j kx ky k lb ca n ha h hn2=>
  refine snA_up (r':=1+(k+1)) rfl ha hn2.1 (by omega) rfl ?_;show Pp x (M+1) _ ⟨_,_,_,pA exA exB x j ky kx::(fL false j exA exB n.ea 0 k++_),_,_⟩ _
  have:=fL_snoc false j exA exB n.ea 0 k
  rw[Nat.zero_add] at this;rw[this];exact .T4 (n:={ n with sa:=n.sa+1 }) (k:=k+1) ha.next (by omega) ⟨show n.sa+1=((k+1:Nat):Int) by omega,hn2.2⟩
 | _=>exact snA_dn rfl (fun y hy=>by cases hy<;>rfl) rfl h0
theorem pp_sendB (h:Pp x M r s n):SndB x M s n:=by
 have h0:=h;cases h with
 | @U A B i j num ga ka gb kb d ca cb n ha hb h hn2=>
  refine snB_up (r':=ka+1+kb) rfl hb hn2.2.1 (by omega) rfl ?_;show Pp x (M+1) _ ⟨_,_,fL (!d) num exB exA n.eb ga ka++_,_,_,_⟩ _;rw[fL_snoc];exact .U (n:={ n with sb:=n.sb+1 }) (A:=A) (B:=B) (i:=i) (j:=j) (num:=num) (d:=d) (ga:=ga) (ka:=ka+1) (gb:=gb) (kb:=kb) ha hb.next (by omega) ⟨hn2.1,show n.sb+1=((ga+(ka+1):Nat):Int) by omega,hn2.2.2.1,hn2.2.2.2⟩
 | @S5 A B i j kx ky k la cb n hb h hn2=>
  refine snB_up (r':=1+(k+1)) rfl hb hn2.1 (by omega) rfl ?_;show Pp x (M+1) _ ⟨_,_,pA exB exA x i kx ky::(fL false i exB exA n.eb 0 k++_),_,_,_⟩ _
  have:=fL_snoc false i exB exA n.eb 0 k
  rw[Nat.zero_add] at this;rw[this];exact .S5 (n:={ n with sb:=n.sb+1 }) (k:=k+1) hb.next (by omega) ⟨show n.sb+1=((k+1:Nat):Int) by omega,hn2.2⟩
 | _=>exact snB_dn rfl (fun y hy=>by cases hy<;>rfl) rfl h0
theorem mk_cut {me ot ck:ByteArray} {ch di:Nat} {c:Option Cx} {l:Bool} {q:List ByteArray} : cutN (mkN me ot ck ch di c l q) ot=mkN me ot ck ch di none l []:=by
 unfold cutN;rw[mk_drop,mk_rem]
theorem rem_dn {k:ByteArray} {c:Option Cx} (h:∀ y,c=some y→y.gen=0):remO k c = []:=by
 cases c with
 | none=>rfl
 | some y=>exact if_pos (h y rfl)
theorem rem_up {k:ByteArray} {c:Cx} {d:Bool} {num id:Nat} (u:Up c d num id):remO k (some c) = [downE k]:=if_neg (by rw[u.gen];omega)
theorem pp_cut (h:Pp x M r s n) (n':Nu):Pp x M 0 ⟨cutN s.na exB,cutN s.nb exA,[],[],false,false⟩ n'∧remO exB (get s.na.C exB)=(if s.ua then [downE exB] else [])∧remO exA (get s.nb.C exA)=if s.ub then [downE exA] else []:=by
 cases h with
 | S5 hb h hn=>exact⟨by rw[mk_cut,mk_cut];exact .I (by omega),by rw[mk_getC];exact rem_dn (fun y hy=>by cases hy;rfl),by rw[mk_getC];exact rem_up hb⟩
 | U ha hb h hn=>exact⟨by rw[mk_cut,mk_cut];exact .I (by omega),by rw[mk_getC];exact rem_up ha,by rw[mk_getC];exact rem_up hb⟩
 | T4 ha h hn=>exact⟨by rw[mk_cut,mk_cut];exact .I (by omega),by rw[mk_getC];exact rem_up ha,by rw[mk_getC];exact rem_dn (fun y hy=>by cases hy;rfl)⟩
 | _=>exact⟨by rw[mk_cut,mk_cut];exact .I (by omega),by rw[mk_getC];exact rem_dn (fun y hy=>by cases hy<;>rfl),by rw[mk_getC];exact rem_dn (fun y hy=>by cases hy<;>rfl)⟩
structure PpOk (M:Nat) (s:Ds):Prop where
 a:NOk s.na exB
 b:NOk s.nb exA
 la:s.wa.length≤M+2
 lb:s.wb.length≤M+2
 ia:∀ y,get s.na.C exB=some y→y.gen≠0→y.gen=1∧y.id≤M
 ib:∀ y,get s.nb.C exA=some y→y.gen≠0→y.gen=1∧y.id≤M
theorem ids_of {me ot ck:ByteArray} {ch di M:Nat} {c:Option Cx} {l:Bool} (h:∀ y,c=some y→y.gen≠0→y.gen=1∧y.id≤M):∀ y,get (mkN me ot ck ch di c l []).C ot=some y→y.gen≠0→y.gen=1∧y.id≤M:=fun y hy=>h y (by rw[mk_getC] at hy;exact hy)
theorem ids_dn {c:Option Cx} (h:∀ y,c=some y→y.gen=0):∀ y,c=some y→y.gen≠0→y.gen=1∧y.id≤M:=fun y hy q=>absurd (h y hy) q
theorem ids_up {c:Cx} {d:Bool} {num id:Nat} (u:Up c d num id) (h:id≤M):∀ y,some c=some y→y.gen≠0→y.gen=1∧y.id≤M:=fun y hy _=>by cases hy;exact⟨u.gen,by rw[u.id];exact h⟩
theorem up_ok {c:Cx} {d:Bool} {num id:Nat} (u:Up c d num id):CxOk c:=fun h=>by rw[u.gen] at h;cases h
theorem pp_ok (h:Pp x M r s n) (hM:M≤1000000) (hx:x.size≤6000):PpOk M s:=by
 have A:=fun ch di c l (h3:ch+1<18446744073709551616) (h4:di+1<18446744073709551616) h5=>NOk.mk' (me:=exA) (ot:=exB) (ck:=x) (ch:=ch) (di:=di) (c:=c) (l:=l) nOkA hx h3 h4 h5
 have B:=fun ch di c l (h3:ch+1<18446744073709551616) (h4:di+1<18446744073709551616) h5=>NOk.mk' (me:=exB) (ot:=exA) (ck:=x) (ch:=ch) (di:=di) (c:=c) (l:=l) nOkB hx h3 h4 h5
 cases h with
 | S5 hb h hn=>exact⟨A _ _ _ _ (by omega) (by omega) (some_ok (ok_cE TAB hx (by omega) (by omega))),B _ _ _ _ (by omega) (by omega) (some_ok (up_ok hb)),by simp only[List.length_cons,fL_len];omega,by simp,ids_of (ids_dn (fun y hy=>by cases hy;rfl)),ids_of (ids_up hb (by omega))⟩
 | U ha hb h hn=>exact⟨A _ _ _ _ (by omega) (by omega) (some_ok (up_ok ha)),B _ _ _ _ (by omega) (by omega) (some_ok (up_ok hb)),by simp only[fL_len];omega,by simp only[fL_len];omega,ids_of (ids_up ha (by omega)),ids_of (ids_up hb (by omega))⟩
 | T4 ha h hn=>exact⟨A _ _ _ _ (by omega) (by omega) (some_ok (up_ok ha)),B _ _ _ _ (by omega) (by omega) (some_ok (ok_cE TBA hx (by omega) (by omega))),by simp,by simp only[List.length_cons,fL_len];omega,ids_of (ids_up ha (by omega)),ids_of (ids_dn (fun y hy=>by cases hy;rfl))⟩
 | _=>
  refine⟨A _ _ _ _ (by omega) (by omega) ?_,B _ _ _ _ (by omega) (by omega) ?_,by simp,by simp,ids_of (ids_dn (fun y hy=>by cases hy<;>rfl)),ids_of (ids_dn (fun y hy=>by cases hy<;>rfl))⟩ <;>
   first
    | exact none_ok
    | exact some_ok (ok_cD TAB hx (by omega))
    | exact some_ok (ok_cD TBA hx (by omega))
    | exact some_ok (ok_cI TAB hx (by omega))
    | exact some_ok (ok_cI TBA hx (by omega))
    | exact some_ok (ok_cE TAB hx (by omega) (by omega))
    | exact some_ok (ok_cE TBA hx (by omega) (by omega))
theorem pp_start (x:ByteArray) (M:Nat) (h:70≤M) (n:Nu):Pp x M 0 ⟨NA x 7 0 none false,NB x 70 0 none false,[],[],false,false⟩ n:=.I (by omega)
theorem pp_rank (h:Pp x M r s n):r=0↔s.wa.length+s.wb.length=0:=by
 cases h<;>simp[fL_len]<;>omega
theorem pp_end (h:Pp x M 0 s n):s.ua=s.ub∧(s.ua=true→n.ga=n.sb∧n.gb=n.sa):=by
 generalize hr:0=r at h;cases h with
 | I h=>exact⟨rfl,fun h=>by cases h⟩
 | U ha hb h hn=>exact⟨rfl,fun _=>by omega⟩
 | _=>omega
theorem pp_out (h:Pp x M r s n):dropO s.na exB=s.na∧outQ s.na exB = []∧dropO s.nb exA=s.nb∧outQ s.nb exA = []:=by
 cases h<;>exact⟨mk_drop,mk_outQ,mk_drop,mk_outQ⟩
theorem pp_le (h:Pp x M r s n):r≤2*M+6:=by
 cases h<;>omega
end
section
variable {g C:Nat} {ua ub:Bool} {n:Nu}
theorem evdo_no (q:Int):EvDo g q [] ua ub n ua ub n:=by
 intro W v n0 pa pb va vb _ he hb;obtain rfl:v = .slice none 0 0:=he;exact(events_none g q W).mono fun _ _ ⟨h1,h2⟩=>⟨h1,by rw[h2];exact⟨hb,Only.refl _ _⟩⟩
theorem evdo_upA (h:0≤n.ea∧n.ea≤1000000):EvDo g 0 [upE exB 1] false ub n true ub { n with ea:=n.ea+1,sa:=0,fa:=0,ga:=0 }:=by
 intro W v n0 pa pb va vb _ he hb;obtain⟨b,x,rfl,hx,-,hs⟩:=he;exact events_upa hb hx (ev_size _ _) (ev_one hs) rfl rfl rfl h
theorem evdo_upB (h:0≤n.eb∧n.eb≤1000000):EvDo g 1 [upE exA 1] ua false n ua true { n with eb:=n.eb+1,sb:=0,fb:=0,gb:=0 }:=by
 intro W v n0 pa pb va vb _ he hb;obtain⟨b,x,rfl,hx,-,hs⟩:=he;exact events_upb hb hx (ev_size _ _) (ev_one hs) rfl rfl rfl h
theorem evdo_downA : EvDo g 0 [downE exB] true ub n false ub { n with ta:=max n.ta n.fa }:=by
 intro W v n0 pa pb va vb _ he hb;obtain⟨b,x,rfl,hx,-,hs⟩:=he;exact events_downa hb hx (ev_size _ _) (ev_one hs) rfl rfl
theorem evdo_downB : EvDo g 1 [downE exA] ua true n ua false { n with tb:=max n.tb n.fb }:=by
 intro W v n0 pa pb va vb _ he hb;obtain⟨b,x,rfl,hx,-,hs⟩:=he;exact events_downb hb hx (ev_size _ _) (ev_one hs) rfl rfl
theorem items_at {W:World} {n0:Nat} {k me ot:ByteArray} {e m:Int} {x:Sf} (hg:g<n0) (hs:SgAt (fun q=>n0≤q) W (sgN me ot e m) x) :
  ∃ bi oi ci,(evL (sigE k (sgN me ot e m)) x).toArray[40]? = some (.slice (some ⟨bi,oi,none⟩) 2 ci)∧∀ W',Only [g] W W'→W'.cell? ⟨bi,oi+1,none⟩=some (.int .i64 e)∧W'.cell? ⟨bi,oi+10,none⟩=some (.int .i64 m):=by
 obtain⟨-,h⟩:=hs.val.its;obtain⟨-,sa,cap,hv⟩:=h.form;rw[hv] at h;obtain⟨bi,oi,rfl,hl,hb,hc⟩:=h.get (by show 0<2;omega);refine⟨bi,oi,cap,?_,fun W' o=>?_⟩
 ·
  show some x.d.v=_;rw[hv];rfl
 ·
  have hk:∀ i j:Nat,W'.cell? ⟨bi,oi+i*9+j,none⟩=W.cell? ⟨bi,oi+i*9+j,none⟩:=fun i j=>by
   have:=o.block bi hl (by rw[List.mem_singleton];have hb':n0≤bi:=hb;omega)
   simp only[World.cell?,this]
  obtain⟨x0,t0,c0⟩:=hc 0 (by show 0<2;omega);obtain⟨x1,t1,c1⟩:=hc 1 (by show 1<2;omega);have e0:=hk 0 1;have e1:=hk 1 1;rw[c0 1 (by omega)] at e0;rw[c1 1 (by omega)] at e1;refine⟨e0.trans ?_,e1.trans ?_⟩
  ·
   show some (Value.int .i64 x0.f.n)=_;rw[t0.its.1];rfl
  ·
   show some (Value.int .i64 x1.f.n)=_;rw[t1.its.1];rfl
theorem evdo_sigA {m:Nat} (h:n.ga=(m:Int)) (hm:m≤1000000) (ht:0≤n.ta∧n.ta<n.eb) (hf:n.fa=0∨n.fa=n.eb):EvDo g 0 [sigE exB (sgN exB exA n.eb m)] true ub n true ub { n with fa:=n.eb,ga:=n.ga+1 }:=by
 intro W v n0 pa pb va vb hg he hb;obtain⟨b,x,rfl,hx,-,hs⟩:=he;obtain⟨bi,oi,ci,h40,hz⟩:=items_at (k:=exB) hg hs;exact events_siga hb hx (ev_size _ _) (ev_one hs) rfl rfl h40 (fun W' o=>by rw[h];exact hz W' o) (by omega) ht hf
theorem evdo_sigB {m:Nat} (h:n.gb=(m:Int)) (hm:m≤1000000) (ht:0≤n.tb∧n.tb<n.ea) (hf:n.fb=0∨n.fb=n.ea):EvDo g 1 [sigE exA (sgN exA exB n.ea m)] ua true n ua true { n with fb:=n.ea,gb:=n.gb+1 }:=by
 intro W v n0 pa pb va vb hg he hb;obtain⟨b,x,rfl,hx,-,hs⟩:=he;obtain⟨bi,oi,ci,h40,hz⟩:=items_at (k:=exA) hg hs;exact events_sigb hb hx (ev_size _ _) (ev_one hs) rfl rfl h40 (fun W' o=>by rw[h];exact hz W' o) (by omega) ht hf
theorem EcA.evdo {evs:List Ev} {ua':Bool} {n':Nu} (e:EcA n ua ub evs ua' n') (N:NuOk C ua ub n) (hC:C≤1000):EvDo g 0 evs ua ub n ua' ub n':=by
 obtain⟨h1,h2,h3,h4,h5,h6,-,-⟩:=N;cases e with
 | no=>exact evdo_no 0
 | up q=>
  subst q;exact evdo_upA (by rw[if_neg (by decide)] at h1;omega)
 | sig q q2 m q3 q4=>
  subst q;subst q2;refine evdo_sigA q3 q4 ⟨h3.1,h3.2.2 rfl⟩ ?_;rcases h5 rfl with z|z
  ·
   exact .inl z
  ·
   exact .inr z.2
theorem EcB.evdo {evs:List Ev} {ub':Bool} {n':Nu} (e:EcB n ua ub evs ub' n') (N:NuOk C ua ub n) (hC:C≤1000):EvDo g 1 evs ua ub n ua ub' n':=by
 obtain⟨h1,h2,h3,h4,h5,h6,-,-⟩:=N;cases e with
 | no=>exact evdo_no 1
 | up q=>
  subst q;exact evdo_upB (by rw[if_neg (by decide)] at h2;omega)
 | sig q q2 m q3 q4=>
  subst q;subst q2;refine evdo_sigB q3 q4 ⟨h4.1,h4.2.2 rfl⟩ ?_;rcases h6 rfl with z|z
  ·
   exact .inl z
  ·
   exact .inr z.2
end
end Go.Proofs.YtoaimoemaoinhaaGreatDoor
namespace Go.Proofs.YtoaimoemaoinhaaGreatDoor
open Go.RowKit Go.Rt Go.Rw Go.Mp
def nuD (ua ub:Bool):Nu:=⟨if ua then 1 else 0,if ub then 1 else 0,0,0,0,0,0,0,0,0⟩
theorem nd_new {w:World} {base g mc mo ml:Nat} {nm ot ck:ByteArray} {ch:Nat} (h:PM w g mc mo ml nm 1 ck ch 0 [] [] []) (h1:base≤g) (h2:base≤mc) (h3:base≤mo) (h4:base≤ml):NdAt w base (mkN nm ot ck ch 0 none false []) ⟨g,mc,mo,ml,[],[]⟩ where
 pm:=h
 cs:=fun p hp=>by cases hp
 os:=fun p hp=>by cases hp
 eC:=rfl
 eO:=rfl
 nod:=by
  obtain⟨s1,s2,s3,s4,s5,s6⟩:=h.sep;simp[foot,s1,s2,s3,s4,s5,s6]
 low:=by
  intro b hb;have l1:=h.blk.lt;have l2:=h.cm.lt;have l3:=h.om.lt;have l4:=h.lm.lt;simp only[foot,List.flatMap_nil,List.append_nil,List.mem_cons,List.not_mem_nil,or_false] at hb;omega
 bz:=by have:=h.blk.lt;omega
set_option maxHeartbeats 8000000 in
theorem made_any (x y:ByteArray) (w:World):Calls Tryz.prog 8 #[.string x,.string y] w fun e w'=>∃ P:Pb,e = .returned (ptrV P.g)∧PwAt w' w.heap.size ⟨NA x 7 0 none false,NB y 70 0 none false,[],[],false,false⟩ (nuD false false) P∧Below w.heap.size w w':=by
 have CA:=qH (pnew_yes exA 1 x 7 nOkA w);have CB:=qH (fun W=>pnew_yes exB 1 y 70 nOkB W);unfold ptrV at *;go_enter Tryz.func8,Tryz.ntmps8;go_wp2_with fail;refine CA.out.mono ?_;rintro e w1 ⟨g,mc,mo,ml,rfl,h1,h2,h3,h4,hp,b1⟩;have HA:=qH (nd_new (ot:=exB) hp h1 h2 h3 h4);have B1:=qH b1;clear CA hp h1 h2 h3 h4 b1;go_wp2_with fail;refine(CB.out w1).mono ?_;rintro e w2 ⟨g2,mc2,mo2,ml2,rfl,h1,h2,h3,h4,hp,b2⟩
 have HB:=qH (nd_new (ot:=exA) hp h1 h2 h3 h4);have HA2:=qH (HA.out.below b2);have B2:=qH (B1.out.trans (b2.mono B1.out.size));have HSB:=qH (show ∀ b∈foot (⟨g2,mc2,mo2,ml2,[],[]⟩:Nm),w1.heap.size≤b from fun b hb=>(HB.out.low b hb).1);have HSA:=qH (show ∀ b∈foot (⟨g,mc,mo,ml,[],[]⟩:Nm),b<w1.heap.size from fun b hb=>(HA.out.low b hb).2);clear CB hp h1 h2 h3 h4 b2;have AL:=(Below.refl w2.heap.size w2).alloc (Nat.le_refl _) (.cells (prC g g2 (.slice none 0 0) (.slice none 0 0) false false (nuD false false)) 33)
 have HF:Hid (∃ P:Pb,P.g=w2.heap.size∧PwAt (w2.alloc (.cells (prC g g2 (.slice none 0 0) (.slice none 0 0) false false (nuD false false)) 33)) w.heap.size ⟨NA x 7 0 none false,NB y 70 0 none false,[],[],false,false⟩ (nuD false false) P):=qH (by
  have hb:w.heap.size≤w1.heap.size:=B1.out.size;have hb2:w1.heap.size≤w2.heap.size:=HB.out.bz;refine⟨⟨w2.heap.size,⟨g,mc,mo,ml,[],[]⟩,⟨g2,mc2,mo2,ml2,[],[]⟩,.slice none 0 0,.slice none 0 0⟩,rfl,Blk.new _ _ _,HA2.out.below AL,?_,Wq.nil _ _,Wq.nil _ _,?_,Nat.le_trans hb hb2⟩
  ·
   have q:=HB.out.below AL;exact⟨q.pm,fun p hp=>(by cases hp),fun p hp=>(by cases hp),q.eC,q.eO,q.nod,fun b h=>⟨Nat.le_trans hb (q.low b h).1,(q.low b h).2⟩,Nat.le_trans hb q.bz⟩
  ·
   refine⟨fun b h k=>?_,fun _ _ h=>(by cases h),fun _ _ h=>(by cases h),fun h=>?_,fun _ _ h=>(by cases h),fun _ _ h=>(by cases h),fun h=>?_,fun h=>(by cases h),fun h=>(by cases h),fun _ h=>(by cases h)⟩
   ·
    have:=HSA.out b h
    have:=HSB.out b k
    omega
   ·
    have:=(HA2.out.low _ h).2
    exact absurd this (Nat.lt_irrefl _)
   ·
    have:=(HB.out.low _ h).2
    exact absurd this (Nat.lt_irrefl _))
 have B3:=qH (B2.out.alloc B2.out.size (.cells (prC g g2 (.slice none 0 0) (.slice none 0 0) false false (nuD false false)) 33));unfold prC nuD ptrV at HF B3;simp only[if_false,Bool.false_eq_true] at HF B3;clear AL HA HB HA2 HSA HSB B1 B2;go_wp2_with fail;go_ret;obtain⟨P,hg,hp⟩:=HF.out;exact⟨P,by rw[hg];rfl,hp,B3.out⟩
section
variable {x y:ByteArray} {acc:Bool} {base:Nat} {w0:World} {g D q r:Nat} {s:Ds} {w:World}
end
def lst (Q:Nat→Prop) [DecidablePred Q]:Nat→Nat
 | 0=>0
 | k+1=>if Q (lst Q k) then lst Q k else k+1
theorem lst_le (Q:Nat→Prop) [DecidablePred Q]:∀ N,lst Q N≤N
 | 0=>Nat.le_refl _
 | k+1=>by
  have:=lst_le Q k
  unfold lst;split<;>omega
theorem lst_is {Q:Nat→Prop} [DecidablePred Q] {r:Nat} (h:Q r):∀ N,r≤N→Q (lst Q N)∧lst Q N≤r
 | 0,hr=>by
  obtain rfl:r=0:=by omega
  exact⟨h,Nat.le_refl _⟩
 | k+1,hr=>by
  unfold lst;have hk:=lst_le Q k
  by_cases e:r≤k
  ·
   obtain⟨h1,h2⟩:=lst_is h k e;rw[if_pos h1];exact⟨h1,h2⟩
  ·
   obtain rfl:r=k+1:=by omega
   split
   ·
    rename_i q;exact⟨q,by omega⟩
   ·
    exact⟨h,Nat.le_refl _⟩
structure Cok (x:ByteArray) (base M C:Nat) (w0:World):Prop where
 m:M≤900
 c:C≤900
 x:x.size≤6000
 t:Sk.Tabs w0
 b:2≤base
def InP (x:ByteArray) (base:Nat) (w0:World) (g M C r:Nat) (s:Ds) (n:Nu) (w:World):Prop:=∃ P,P.g=g∧PwAt w base s n P∧Pp x M r s n∧NuOk C s.ua s.ub n∧Below base w0 w
section
variable {x:ByteArray} {base:Nat} {w0:World} {g M C r:Nat} {s:Ds} {n:Nu} {w:World}
theorem InP.below {w':World} (h:InP x base w0 g M C r s n w) (b:Below w.heap.size w w'):InP x base w0 g M C r s n w':=by
 obtain⟨P,h1,h2,h3,h4,h5⟩:=h;exact⟨P,h1,h2.below b,h3,h4,h5.trans (b.mono h2.na.bz)⟩
theorem NuOk.num {ua ub:Bool} (h:NuOk C ua ub n) (hC:C≤900):(0≤n.ea∧n.ea≤1000)∧0≤n.eb∧n.eb≤1000:=by
 have h1:=h.ea;have h2:=h.eb;cases ua<;>cases ub<;>simp only[Bool.false_eq_true,if_false,if_true] at h1 h2<;>omega
theorem turnA' (h:InP x base w0 g M C r s n w) (K:Cok x base M C w0) :
  Calls Tryz.prog 16 #[ptrV g,.int .i64 0] w fun e w'=>e = .returned (.tuple #[])∧∃ r' s' n',InP x base w0 g M C r' s' n' w'∧(r'<r∨(r'=r∧s'=s∧s.wa = [])):=by
 obtain⟨P,rfl,hP,hp,hn,hB⟩:=h;cases hw:s.wa with
 | nil=>exact(pass_nonea hP hw).mono fun _ _ ⟨k1,k2⟩=>⟨k1,r,s,n,by rw[k2];exact⟨P,rfl,hP,hp,hn,hB⟩,.inr ⟨rfl,rfl,rfl⟩⟩
 | cons p rest=>
  have ok:=pp_ok hp (by have:=K.m;omega) K.x;have hnn:=hn.num K.c;obtain⟨n',evs,ua',nu',r',h1,h2,h3,h4,h5,h6⟩:=pp_passA hp (by have:=K.m;omega) (by omega) p rest hw;have hd:=pp_out hp;refine(pass_doa hP hw ok.a h2 (K.t.below hB K.b) K.b h1 (h3.evdo hn (by have:=K.c;omega)) h4 (by rw[hd.2.2.2];simp) (by have:=ok.la;have:=K.m;omega) (by have:=ok.lb;have:=K.m;omega)).mono ?_;rintro e w' ⟨he,P',g1,g2,g3⟩
  have ec:colS { s with na:=n',wa:=rest,ua:=ua' } = ⟨dropO n' exB,s.nb,rest,s.wb++outQ n' exB,ua',s.ub⟩:=by
   show (⟨dropO n' exB,dropO s.nb exA,rest++outQ s.nb exA,s.wb++outQ n' exB,ua',s.ub⟩:Ds)=_;rw[hd.2.2.1,hd.2.2.2,List.append_nil]
  rw[ec] at g2;exact⟨he,r',_,nu',⟨P',g1,g2,h5,hn.evA h3,hB.trans g3⟩,.inl h6⟩
theorem turnB' (h:InP x base w0 g M C r s n w) (K:Cok x base M C w0) :
  Calls Tryz.prog 16 #[ptrV g,.int .i64 1] w fun e w'=>e = .returned (.tuple #[])∧∃ r' s' n',InP x base w0 g M C r' s' n' w'∧(r'<r∨(r'=r∧s'=s∧s.wb = [])):=by
 obtain⟨P,rfl,hP,hp,hn,hB⟩:=h;cases hw:s.wb with
 | nil=>exact(pass_noneb hP hw).mono fun _ _ ⟨k1,k2⟩=>⟨k1,r,s,n,by rw[k2];exact⟨P,rfl,hP,hp,hn,hB⟩,.inr ⟨rfl,rfl,rfl⟩⟩
 | cons p rest=>
  have ok:=pp_ok hp (by have:=K.m;omega) K.x;have hnn:=hn.num K.c;obtain⟨n',evs,ub',nu',r',h1,h2,h3,h4,h5,h6⟩:=pp_passB hp (by have:=K.m;omega) (by omega) p rest hw;have hd:=pp_out hp;refine(pass_dob hP hw ok.b h2 (K.t.below hB K.b) K.b h1 (h3.evdo hn (by have:=K.c;omega)) h4 (by rw[hd.2.1];simp) (by have:=ok.lb;have:=K.m;omega) (by have:=ok.la;have:=K.m;omega)).mono ?_;rintro e w' ⟨he,P',g1,g2,g3⟩
  have ec:colS { s with nb:=n',wb:=rest,ub:=ub' } = ⟨s.na,dropO n' exA,s.wa++outQ n' exA,rest,s.ua,ub'⟩:=by
   show (⟨dropO s.na exB,dropO n' exA,s.wa++outQ n' exA,rest++outQ s.na exB,s.ua,ub'⟩:Ds)=_;rw[hd.1,hd.2.1,List.append_nil]
  rw[ec] at g2;exact⟨he,r',_,nu',⟨P',g1,g2,h5,hn.evB h3,hB.trans g3⟩,.inl h6⟩
def AtP (x:ByteArray) (base:Nat) (w0:World) (g M C:Nat) (w:World) (r:Nat):Prop:=∃ s n,InP x base w0 g M C r s n w
theorem AtP.low (h:AtP x base w0 g M C w r):r≤2*M+6:=by
 obtain⟨s,n,P,-,-,h,-⟩:=h;exact pp_le h
noncomputable def rkP (x:ByteArray) (base:Nat) (w0:World) (g M C:Nat) (w:World):Nat:=@lst (AtP x base w0 g M C w) (fun _=>Classical.propDecidable _) (2*M+6)
theorem rkP_is (h:AtP x base w0 g M C w r):AtP x base w0 g M C w (rkP x base w0 g M C w)∧rkP x base w0 g M C w≤r:=@lst_is _ (fun _=>Classical.propDecidable _) r h _ h.low
set_option maxHeartbeats 8000000 in
theorem drain_p (h:InP x base w0 g M C r s n w) (K:Cok x base M C w0) :
  Calls Tryz.prog 17 #[ptrV g] w fun e w'=>e = .returned (.tuple #[])∧AtP x base w0 g M C w' 0:=by
 have H0:Hid (∃ r,AtP x base w0 g M C w r):=qH ⟨r,s,n,h⟩;have HK:=qH K;have w00:IntKind.i64.wrap 0=0:=by kernel_rfl
 clear h K;unfold ptrV;go_enter Tryz.func17,Tryz.ntmps17;go_wp2_with fail;go_loopw [] (fun wr=>Hid (∃ r,AtP x base w0 g M C wr r)) (fun wr=>rkP x base w0 g M C wr)
 case atStart=>exact H0
 case round=>
  obtain⟨r1,h1⟩:=hrel.out;obtain⟨s1,n1,h2⟩:=(rkP_is h1).1;obtain⟨r2,hr2⟩:∃ k,k=rkP x base w0 g M C wr:=⟨_,rfl⟩;rw[←hr2] at h2;have HRK:=qH hr2;have HD:=qH (fun k=>h2.below (below_drewN (Below.refl _ _) k));obtain⟨P1,hg1,hP1,hph1,hn1,hB1⟩:=h2;obtain⟨va,ca,hva,-,-⟩:=hP1.qa.form;obtain⟨vb,cb,hvb,-,-⟩:=hP1.qb.form;have c16:wr.cell? ⟨g,16,none⟩=some (.bool true):=blk_at hP1.blk 16 hg1 rfl rfl;have c2:=hP1.cwa hg1 hva
  have c3:=hP1.cwb hg1 hvb;have ok:=pp_ok hph1 (by have:=HK.out.m;omega) HK.out.x;have HZ:=qH (pp_rank hph1);have HLA:=qH (show s1.wa.length≤1000 from by have:=ok.la;have:=HK.out.m;omega);have HLB:=qH (show s1.wb.length≤1000 from by have:=ok.lb;have:=HK.out.m;omega);obtain⟨la,hla⟩:∃ n,n=s1.wa.length:=⟨_,rfl⟩;obtain⟨lb,hlb⟩:∃ n,n=s1.wb.length:=⟨_,rfl⟩;rw[←hla] at c2 HLA HZ;rw[←hlb] at c3 HLB HZ;have HLL:=qH (show la+lb≠0→¬(s1.wa = []∧s1.wb = []) from fun h ⟨e1,e2⟩=>h (by rw[hla,hlb,e1,e2];rfl))
  clear hla hlb ok hph1 hn1 hB1 hva hvb hP1 hg1 h1 hr2
  by_cases hz:la+lb=0
  ·
   obtain rfl:la=0:=by omega
   obtain rfl:lb=0:=by omega
   have hr0:=HZ.out.2 rfl;subst hr0;clear hz;go_upto_region 0 with fail
   go_quiet (fail);go_wp2_with fail;go_end0;exact⟨rfl,s1,n1,HD.out _⟩
  ·
   have hsum:IntKind.i64.wrap ((la:Int)+(lb:Int))=(la:Int)+(lb:Int):=by
    have:=HLA.out
    have:=HLB.out
    rw[IntKind.wrap_i64]<;>omega
   have hpos:(0:Int)<(la:Int)+(lb:Int):=by omega
   have HNZ:=qH (HLL.out hz);clear hz HLL HZ;go_upto_region 0 with fail
   go_quiet (fail);have HI:=qH (HD.out nq);clear c16 c2 c3 hsum hpos HD HLA HLB;generalize wr.drewN nq=w2 at *;have CA:=qH (turnA' HI.out HK.out);unfold ptrV at CA;go_wp2_with fail;refine CA.out.mono ?_;rintro e w3 ⟨rfl,r3,s3,n3,h3,h4⟩;have H3:=qH h3;have H4:=qH h4;clear h3 h4 CA HI;have CB:=qH (turnB' H3.out HK.out);unfold ptrV at CB;go_wp2_with fail;refine CB.out.mono ?_;rintro e w4 ⟨rfl,r5,s5,n5,h5,h6⟩
   have H5:=qH h5;have HR5:Hid (r5<r2):=qH (by
    rcases H4.out with a|⟨a,b,c⟩<;>rcases h6 with d|⟨d,e,f⟩
    ·
     omega
    ·
     omega
    ·
     omega
    ·
     subst b;exact absurd ⟨c,f⟩ HNZ.out)
   clear h5 h6 CB H3 H4;go_wp2_with fail;go_roundw
   case rel=>exact qH ⟨r5,s5,n5,H5.out⟩
   case measure=>
    have h7:AtP x base w0 g M C w4 r5:=⟨s5,n5,H5.out⟩;have h8:=(rkP_is h7).2;have h9:=HR5.out;have h10:=HRK.out;omega
end
end Go.Proofs.YtoaimoemaoinhaaGreatDoor
