/- PeersX: a part of the proof. No condition beyond the premises of each theorem. -/
import Derived.Test.YtoaimoemaoinhaaGreatDoorQp13
import Derived.Test.YtoaimoemaoinhaaGreatDoorQp08
import Derived.Test.YtoaimoemaoinhaaGreatDoorQp06
import Derived.Lib.Builder
import Derived.Lib.AppendStr
import Derived.Lib.UnsafeStr
import Derived.Laws.Externs
import Derived.Laws.BitsLemmas
import Derived.Test.YtoaimoemaoinhaaGreatDoorQp00
set_option maxRecDepth 100000
namespace Go.Proofs.YtoaimoemaoinhaaGreatDoor.Sk
open Go.RowKit Go.Rt Go.Rw
theorem ba_ext {a b:ByteArray} (h:a.data.toList=b.data.toList):a=b:=WideShapes.bytes_inj h
theorem app_list (a b:ByteArray):(a++b).data.toList=a.data.toList++b.data.toList:=by simp[ByteArray.data_append]
theorem ext_list (a:ByteArray) (i j:Nat):(a.extract i j).data.toList=(a.data.toList.take j).drop i:=by
 rw[ByteArray.data_extract,Array.toList_extract,List.extract_eq_drop_take']
theorem size_list (a:ByteArray):a.size=a.data.toList.length:=by simp[←ByteArray.size_data]
theorem ext_left (a b:ByteArray):(a++b).extract 0 a.size=a:=by
 apply ba_ext;rw[ext_list,app_list,size_list,List.drop_zero,List.take_append_of_le_length (Nat.le_refl _),List.take_length]
theorem ext_right (a b:ByteArray):(a++b).extract a.size (a++b).size=b:=by
 apply ba_ext;rw[ext_list,app_list,size_list,size_list,app_list,List.take_length,List.drop_append_of_le_length (Nat.le_refl _),List.drop_length,List.nil_append]
theorem ext_mid (a b c:ByteArray):(a++b++c).extract a.size (a.size+b.size)=b:=by
 apply ba_ext;rw[ext_list,app_list,app_list,size_list,size_list,←List.length_append,List.take_append_of_le_length (Nat.le_refl _),List.take_length,List.drop_append_of_le_length (Nat.le_refl _),List.drop_length,List.nil_append]
theorem atB_list (a:ByteArray) (i:Nat):atB a i=((a.data.toList[i]?).getD 0).toNat:=by
 unfold atB;rw[Array.getD_eq_getD_getElem?,←Array.getElem?_toList]
theorem atB_left (a b:ByteArray) (i:Nat) (h:i<a.size):atB (a++b) i=atB a i:=by
 rw[atB_list,atB_list,app_list,List.getElem?_append_left (by rw[←size_list];exact h)]
theorem numF_at (n m k:Nat) (h:k<m):atB (numF n m) k=n / 2 ^ (8*(m-1-k)) % 256:=by
 rw[atB_list];have e:(numF n m).data.toList=(numL n m).map UInt8.ofNat:=by simp[numF]
 rw[e,List.getElem?_map];have hl:k<(numL n m).length:=by simpa [numL] using h
 rw[List.getElem?_eq_getElem hl];simp only[numL,List.getElem_map,List.getElem_range,Option.map_some,Option.getD_some];rw[UInt8.toNat_ofNat',Nat.mod_eq_of_lt (Nat.mod_lt _ (by omega))]
theorem valF_num (n m:Nat):∀ k,k≤m→valF (numF n m) k=n / 2 ^ (8*(m-k)) % 2 ^ (8*k)
 | 0,_=>by simp[valF,Nat.mod_one]
 | k+1,h=>by
  have ih:=valF_num n m k (by omega);have a:=numF_at n m k (by omega);unfold atB at a;simp only[valF];rw[ih,a];have e1:m-k=(m-(k+1))+1:=by omega
  have e2:m-1-k=m-(k+1):=by omega
  rw[e1,e2,Nat.mul_succ,Nat.pow_add,←Nat.div_div_eq_div_mul];generalize n / 2 ^ (8*(m-(k+1)))=z;rw[show 8*(k+1)=8+8*k by omega,Nat.pow_add,show (2:Nat) ^ 8=256 from rfl,Nat.mod_mul];omega
theorem valF_num_eq (n m:Nat) (h:n<2 ^ (8*m)):valF (numF n m) m=n:=by
 rw[valF_num n m m (Nat.le_refl _),Nat.sub_self,Nat.mul_zero,Nat.pow_zero,Nat.div_one,Nat.mod_eq_of_lt h]
def PrOk (p:Pr):Prop:=nameF p.name=true∧1≤p.gen∧p.gen≤2147483647
theorem PrOk.valid {p:Pr} (h:PrOk p):validF p=true:=by
 unfold validF genB;rw[h.1,decide_eq_true h.2.1,decide_eq_true h.2.2];rfl
theorem numF_one (n:Nat) (h:n<256):atB (numF n 1) 0=n:=by rw[numF_at n 1 0 (by omega)];simp;omega
theorem readPF_enc (p:Pr) (h:PrOk p) (r:ByteArray):readPF (encF p++r)=some (p,r):=by
 obtain⟨n1,n2⟩:=nameF_size _ h.1;have e0:encF p++r=numF p.name.size 1++p.name++(numF p.gen 4++r):=by
  unfold encF lenF;rw[ByteArray.append_assoc]
 have z1:=numF_size p.name.size 1;have z4:=numF_size p.gen 4;have hat:atB (encF p++r) 0=p.name.size:=by
  rw[e0,atB_left _ _ _ (by rw[ByteArray.size_append];omega),atB_left _ _ _ (by omega),numF_one _ (by omega)]
 have hsz:(encF p++r).size=p.name.size+5+r.size:=by rw[ByteArray.size_append,encF_size]
 have x1:(encF p++r).extract 1 (1+p.name.size)=p.name:=by
  rw[e0]
  have:=ext_mid (numF p.name.size 1) p.name (numF p.gen 4++r)
  rwa [z1] at this
 have x2:(encF p++r).extract (1+p.name.size) (5+p.name.size)=numF p.gen 4:=by
  have e1:encF p++r=(numF p.name.size 1++p.name)++numF p.gen 4++r:=by unfold encF lenF;rfl
  rw[e1]
  have:=ext_mid (numF p.name.size 1++p.name) (numF p.gen 4) r
  rw[ByteArray.size_append,z1,z4] at this
  rwa [show 1+p.name.size+4=5+p.name.size by omega] at this
 have x3:(encF p++r).extract (5+p.name.size) (encF p++r).size=r:=by
  have:=ext_right (encF p) r
  rwa [encF_size,show p.name.size+5=5+p.name.size by omega] at this
 have hv:valF (numF p.gen 4) 4=p.gen:=valF_num_eq _ _ (by have:=h.2.2;omega);have hnot:¬((encF p++r).size=0∨(encF p++r).size<5+atB (encF p++r) 0):=by rw[hat,hsz];omega
 rw[readPF_good _ hnot (by rw[hat,x1,x2,hv];exact h.valid),hat,x1,x2,x3,hv]
theorem lenF_at (s:ByteArray) (h:s.size<256):atB (lenF s) 0=s.size:=by
 unfold lenF;rw[atB_left _ _ _ (by rw[numF_size];omega),numF_one _ h]
theorem lenF_tail (s:ByteArray):(lenF s).extract 1 (lenF s).size=s:=by
 have:=ext_right (numF s.size 1) s
 rwa [numF_size] at this
theorem ext_pre2 (c r:ByteArray) (hc:c.size=2):(c++r).extract 0 2=c:=by have:=ext_left c r;rwa [hc] at this
theorem ext_suf2 (c r:ByteArray) (hc:c.size=2):(c++r).extract 2 (c++r).size=r:=by have:=ext_right c r;rwa [hc] at this
theorem readHF_hello (x:Pr) (hx:PrOk x) (want:ByteArray) (hw:nameF want=true):readHF (helloF x want)=some (x,want):=by
 obtain⟨w1,w2⟩:=nameF_size _ hw;have e:helloF x want=helloC++(encF x++lenF want):=by unfold helloF;rw[ByteArray.append_assoc]
 rw[e];have hz:(helloC++(encF x++lenF want)).size=2+(encF x++lenF want).size:=by rw[ByteArray.size_append];rfl
 have h0:¬((helloC++(encF x++lenF want)).size<2∨seqB ((helloC++(encF x++lenF want)).extract 0 2) helloC=false):=by
  rw[hz,ext_pre2 _ _ rfl,seqB_refl];rintro(h|h)
  ·
   omega
  ·
   cases h
 have h1:readPF ((helloC++(encF x++lenF want)).extract 2 (helloC++(encF x++lenF want)).size)=some (x,lenF want):=by
  rw[ext_suf2 _ _ rfl,readPF_enc x hx]
 rw[readHF_good _ _ x h0 h1 (by rw[lenF_at _ (by omega),lenF_tail,lenF_size,hw];simp;omega),lenF_tail]
theorem greet_hello (l:Sd) (x:Pr) (hx:PrOk x) (want:ByteArray) (hw:nameF want=true) :
  greetF l (helloF x want)=if seqB want l.self.name=false∨seqB x.name l.self.name=true then failS l 351 else ({ l with other:=x,state:=2 },⟨#[]⟩,0):=
 greetF_some l _ want x (readHF_hello x hx want hw)
def offerM (y:Pr) (c:Nat):ByteArray:=offerC++encF y++numF c 8
theorem seqB_size {a b:ByteArray} (h:a.size≠b.size):seqB a b=false:=by
 rw[Bool.eq_false_iff];intro q;rw[seqB_eq] at q;exact h (by rw[q])
theorem offer_offer (d:Sd) (y:Pr) (hy:PrOk y) (c:Nat) (hc:c≤18446744073709551615) :
  offerF d (offerM y c)=if seqB y.name d.want=false then failS d 351 else ({ d with other:=y,their:=c,sent:=true },replyC++numF d.chal 8++proofF letD d.self y d.cookie c d.chal,0):=by
 have e:offerM y c=offerC++(encF y++numF c 8):=by unfold offerM;rw[ByteArray.append_assoc]
 have z8:=numF_size c 8;have zz:(offerM y c).size=2+(y.name.size+5+8):=by rw[e,ByteArray.size_append,ByteArray.size_append,encF_size,z8];rfl
 have hn:¬(seqB (offerM y c) busyC=true∨seqB (offerM y c) staleC=true):=by
  rw[seqB_size (b:=busyC) (by rw[zz];show _≠2;omega),seqB_size (b:=staleC) (by rw[zz];show _≠2;omega)]
  simp
 have h0:¬((offerM y c).size<2∨seqB ((offerM y c).extract 0 2) offerC=false):=by
  rw[zz,e,ext_pre2 _ _ rfl,seqB_refl];rintro(h|h)
  ·
   omega
  ·
   cases h
 have h1:readPF ((offerM y c).extract 2 (offerM y c).size)=some (y,numF c 8):=by
  rw[e,ext_suf2 _ _ rfl,readPF_enc y hy]
 have hv:valF (numF c 8) 8=c:=valF_num_eq _ _ (by omega);rw[offerF_some d _ _ y hn h0 h1,if_neg (by rw[z8];simp),hv]
def replyM (c:Nat) (P:ByteArray):ByteArray:=replyC++numF c 8++P
theorem reply_reply (l:Sd) (c:Nat) (hc:c≤18446744073709551615) (P:ByteArray) (hP:P.size=32) :
  replyF l (replyM c P)=if seqB P (proofF letD l.other l.self l.cookie l.chal c)=false then failS { l with their:=c } 350 else ({ l with their:=c,state:=3 },ackC++proofF letL l.self l.other l.cookie c l.chal,0):=by
 have z8:=numF_size c 8;have zr:replyC.size=1:=rfl;have zz:(replyM c P).size=41:=by unfold replyM;rw[ByteArray.size_append,ByteArray.size_append,z8,zr,hP]
 have a0:atB (replyM c P) 0=3:=by
  unfold replyM;rw[atB_left _ _ _ (by rw[ByteArray.size_append];omega),atB_left _ _ _ (by omega)];rfl
 have x1:(replyM c P).extract 1 9=numF c 8:=by
  have:=ext_mid replyC (numF c 8) P
  rwa [z8,zr] at this
 have x2:(replyM c P).extract 9 41=P:=by
  have:=ext_right (replyC++numF c 8) P
  rw[ByteArray.size_append,z8,zr] at this;have zz':(replyC++numF c 8++P).size=41:=zz
  rwa [zz'] at this
 have hv:valF (numF c 8) 8=c:=valF_num_eq _ _ (by omega);unfold replyF;rw[if_neg (by rw[zz,a0];simp),x1,x2];simp only[hv]
theorem ack_ack (d:Sd) (P:ByteArray) (hP:P.size=32) :
  ackF d (ackC++P)=if seqB P (proofF letL d.other d.self d.cookie d.chal d.their)=false then failS d 350 else ({ d with state:=3 },⟨#[]⟩,0):=by
 have za:ackC.size=1:=rfl;have zz:(ackC++P).size=33:=by rw[ByteArray.size_append,za,hP]
 have a0:atB (ackC++P) 0=4:=by rw[atB_left _ _ _ (by omega)];rfl
 have x1:(ackC++P).extract 1 33=P:=by
  have:=ext_right ackC P
  rwa [za,zz] at this
 unfold ackF;rw[if_neg (by rw[zz,a0];simp),x1]
abbrev Ent := Nat×TypeId×Sd
structure Ss (w W:World) (L:List Ent):Prop where
 blk:∀ (i:Nat) (x:Ent),L[i]? = some x→Blk W x.1 x.2.1 (sdC x.2.2)∧w.heap.size≤x.1
 ne:∀ (i j:Nat) (x y:Ent),L[i]? = some x→L[j]? = some y→i≠j→x.1≠y.1
 st:St w W
theorem Ss.start {w:World} (h:Tabs w):Ss w w []:=⟨fun i x h=>by simp at h,fun i j x y h=>by simp at h,St.refl h⟩
theorem Ss.below {w W W':World} {L:List Ent} (h:Ss w W L) (b:Below W.heap.size W W'):Ss w W' L:=
 ⟨fun i x hx=>⟨(h.blk i x hx).1.below b (h.blk i x hx).1.lt,(h.blk i x hx).2⟩,h.ne,h.st.keep b⟩
theorem Ss.add {w W W':World} {L:List Ent} (h:Ss w W L) {B:Nat} {T:TypeId} {s:Sd} (hb:Blk W' B T (sdC s)) (hB:W.heap.size≤B) (b:Below W.heap.size W W'):Ss w W' (L ++ [(B,T,s)]):=by
 have h':=h.below b;have hsz:=h.st.bel.size;refine⟨fun i x hx=>?_,fun i j x y hx hy hij=>?_,h'.st⟩
 ·
  rcases Nat.lt_or_ge i L.length with q|q
  ·
   rw[List.getElem?_append_left q] at hx;exact h'.blk i x hx
  ·
   rw[List.getElem?_append_right q] at hx;cases hk:i-L.length with
   | zero=>rw[hk] at hx;simp at hx;subst hx;exact⟨hb,by simp;omega⟩
   | succ k=>rw[hk] at hx;simp at hx
 ·
  have key:∀ (k:Nat) (z:Ent),(L ++ [(B,T,s)])[k]? = some z→(k<L.length∧L[k]? = some z∧z.1<W.heap.size)∨(k=L.length∧z=(B,T,s)):=by
   intro k z hz;rcases Nat.lt_or_ge k L.length with q|q
   ·
    rw[List.getElem?_append_left q] at hz;exact .inl ⟨q,hz,(h.blk k z hz).1.lt⟩
   ·
    rw[List.getElem?_append_right q] at hz;cases hk:k-L.length with
    | zero=>rw[hk] at hz;simp at hz;exact .inr ⟨by omega,hz.symm⟩
    | succ m=>rw[hk] at hz;simp at hz
  rcases key i x hx with ⟨_,a1,a2⟩|⟨a1,a2⟩<;>rcases key j y hy with ⟨_,b1,b2⟩|⟨b1,b2⟩
  ·
   exact h.ne i j x y a1 b1 hij
  ·
   subst b2;simp only;omega
  ·
   subst a2;simp only;omega
  ·
   omega
theorem Ss.set {w W W':World} {L:List Ent} (h:Ss w W L) (i:Nat) {B:Nat} {T:TypeId} {s s':Sd} (hi:L[i]? = some (B,T,s)) (hb:Blk W' B T (sdC s')) (ho:Only [B] W W'):Ss w W' (L.set i (B,T,s')):=by
 have hlt:i<L.length:=by
  rcases Nat.lt_or_ge i L.length with q|q
  ·
   exact q
  ·
   rw[List.getElem?_eq_none q] at hi;cases hi
 have hB:=(h.blk i _ hi).2
 simp only at hB
 refine⟨fun j x hx=>?_,fun j k x y hx hy hjk=>?_,?_⟩
 ·
  by_cases e:i=j
  ·
   subst e;rw[List.getElem?_set_self hlt] at hx;cases hx;exact⟨hb,hB⟩
  ·
   rw[List.getElem?_set_ne e] at hx;obtain⟨q1,q2⟩:=h.blk j x hx;exact⟨q1.only ho (by simp only[List.mem_singleton];exact h.ne j i x _ hx hi (Ne.symm e)),q2⟩
 ·
  have key:∀ (m:Nat) (z:Ent),(L.set i (B,T,s'))[m]? = some z→∃ z',L[m]? = some z'∧z'.1=z.1:=by
   intro m z hz
   by_cases e:i=m
   ·
    subst e;rw[List.getElem?_set_self hlt] at hz;cases hz;exact⟨_,hi,rfl⟩
   ·
    rw[List.getElem?_set_ne e] at hz;exact⟨z,hz,rfl⟩
  obtain⟨x',a1,a2⟩:=key j x hx;obtain⟨y',b1,b2⟩:=key k y hy;rw[←a2,←b2];exact h.ne j k x' y' a1 b1 hjk
 ·
  refine⟨?_,h.st.bel.trans ⟨ho.os,ho.tape,ho.output,ho.size,fun k hk=>ho.block k (by have:=h.st.bel.size;omega) (by simp only[List.mem_singleton];omega)⟩⟩;obtain⟨n0,n1⟩:=Tabs.ne h.st.tabs (h.blk i _ hi).1;exact h.st.tabs.only ho (by simp only[List.mem_singleton];exact Ne.symm n0) (by simp only[List.mem_singleton];exact Ne.symm n1)
def Fine (s:Sd):Prop:=SdOk s∧s.state≠0
theorem Fine.mk' {s s':Sd} (h:Fine s) (h1:s'.self=s.self) (h2:s'.other.name.size≤32∧s'.other.gen≤2147483647) (h3:s'.want=s.want) (h4:s'.cookie=s.cookie) (h5:s'.chal=s.chal) (h6:s'.their≤18446744073709551615) (h7:s'.state≠0):Fine s':=
 ⟨⟨by rw[h1];exact h.1.self,h2,by rw[h3];exact h.1.want,by rw[h4];exact h.1.cookie,by rw[h5];exact h.1.chal,h6⟩,h7⟩
theorem valF8_le (b:ByteArray):valF b 8≤18446744073709551615:=by
 have:=valF_lt b 8
 have e:(256:Nat) ^ 8=18446744073709551616:=by decide
 omega
theorem readHF_valid {b r:ByteArray} {p:Pr} (h:readHF b=some (p,r)):nameF p.name=true∧p.gen≤2147483647:=by
 unfold readHF at h;split at h
 ·
  cases h
 ·
  split at h
  ·
   cases h
  ·
   rename_i q r' hq;split at h
   ·
    cases h
   ·
    simp only[Option.some.injEq,Prod.mk.injEq] at h;rw[←h.1];exact readPF_valid hq
theorem Fine.fail {s:Sd} (h:Fine s) (e:Nat):Fine (failS s e).1:=h.mk' rfl h.1.other rfl rfl rfl h.1.their (by simp[failS])
theorem Fine.take {s:Sd} (h:Fine s) (b:ByteArray):Fine (takeF s b).1:=by
 unfold takeF;split
 ·
  exact h
 ·
  unfold moveF;split
  ·
   split
   ·
    unfold ackF;split
    ·
     exact h.fail 6
    ·
     split
     ·
      exact h.fail 350
     ·
      exact h.mk' rfl h.1.other rfl rfl rfl h.1.their (by simp)
   ·
    unfold offerF;split
    ·
     exact h.fail 351
    ·
     split
     ·
      exact h.fail 6
     ·
      split
      ·
       exact h.fail 6
      ·
       rename_i p r hp;split
       ·
        exact h.fail 6
       ·
        split
        ·
         exact h.fail 351
        ·
         exact h.mk' rfl ⟨(nameF_size _ (readPF_valid hp).1).2,(readPF_valid hp).2⟩ rfl rfl rfl (valF8_le r) h.2
  ·
   split
   ·
    unfold replyF;split
    ·
     exact h.fail 6
    ·
     simp only
     split
     ·
      exact h.mk' rfl h.1.other rfl rfl rfl (valF8_le _) (by simp[failS])
     ·
      exact h.mk' rfl h.1.other rfl rfl rfl (valF8_le _) (by simp)
   ·
    unfold greetF;split
    ·
     exact h.fail 6
    ·
     rename_i p r hp;split
     ·
      exact h.fail 351
     ·
      exact h.mk' rfl ⟨(nameF_size _ (readHF_valid hp).1).2,(readHF_valid hp).2⟩ rfl rfl rfl h.1.their (by simp)
section
variable {w W:World} {L:List Ent}
end
theorem take_hello (l:Sd) (h1:l.state=1) (hd:l.dials=false) (he:l.sent=false) (b:ByteArray):takeF l b=greetF l b:=by
 unfold takeF moveF;rw[if_neg (by simp[h1])];simp[hd,he]
theorem take_offer' (d:Sd) (h1:d.state=1) (hd:d.dials=true) (he:d.sent=false) (b:ByteArray):takeF d b=offerF d b:=by
 unfold takeF moveF;rw[if_neg (by simp[h1])];simp[hd,he]
theorem take_reply' (l:Sd) (h1:l.state=1) (hd:l.dials=false) (he:l.sent=true) (b:ByteArray):takeF l b=replyF l b:=by
 unfold takeF moveF;rw[if_neg (by simp[h1])];simp[hd,he]
theorem take_ack' (d:Sd) (h1:d.state=1) (hd:d.dials=true) (he:d.sent=true) (b:ByteArray):takeF d b=ackF d b:=by
 unfold takeF moveF;rw[if_neg (by simp[h1])];simp[hd,he]
def lis1 (y:Pr) (cy:ByteArray) (ky:Nat) (x:Pr):Sd:={ listenS y cy ky with other:=x,state:=2 }
def lis2 (y:Pr) (cy:ByteArray) (ky:Nat) (x:Pr):Sd:={ listenS y cy ky with other:=x,state:=1,sent:=true }
def lis3 (y:Pr) (cy:ByteArray) (ky:Nat) (x:Pr) (kx:Nat):Sd:={ listenS y cy ky with other:=x,state:=3,sent:=true,their:=kx }
def dia1 (x:Pr) (want cx:ByteArray) (kx:Nat) (y:Pr) (ky:Nat):Sd:={ dialS x want cx kx with other:=y,their:=ky,sent:=true }
def dia2 (x:Pr) (want cx:ByteArray) (kx:Nat) (y:Pr) (ky:Nat):Sd:={ dialS x want cx kx with other:=y,their:=ky,sent:=true,state:=3 }
def proofD (x y:Pr) (c:ByteArray) (kx ky:Nat):ByteArray:=proofF letD x y c ky kx
def proofL (x y:Pr) (c:ByteArray) (kx ky:Nat):ByteArray:=proofF letL y x c kx ky
theorem step_hello (x y:Pr) (hx:PrOk x) (cy:ByteArray) (ky:Nat) (want:ByteArray) (hw:nameF want=true) (h1:seqB want y.name=true) (h2:seqB x.name y.name=false) :
  takeF (listenS y cy ky) (helloF x want)=(lis1 y cy ky x,⟨#[]⟩,0):=by
 rw[take_hello _ rfl rfl rfl,greet_hello _ x hx want hw,if_neg]
 ·
  rfl
 ·
  show ¬(seqB want y.name=false∨seqB x.name y.name=true);rw[h1,h2]
  simp
theorem step_offer (x y:Pr) (cy:ByteArray) (ky:Nat):answerF (lis1 y cy ky x) 1=(lis2 y cy ky x,offerM y ky,0):=answerF_accept _ (by simp[lis1])
theorem step_reply (x y:Pr) (hy:PrOk y) (want cx:ByteArray) (kx ky:Nat) (hk:ky≤18446744073709551615) (h1:seqB y.name want=true) :
  takeF (dialS x want cx kx) (offerM y ky)=(dia1 x want cx kx y ky,replyM kx (proofD x y cx kx ky),0):=by
 rw[take_offer' _ rfl rfl rfl,offer_offer _ y hy ky hk,if_neg]
 ·
  rfl
 ·
  show ¬(seqB y.name want=false);rw[h1];decide
theorem step_ack (x y:Pr) (cy P:ByteArray) (kx ky:Nat) (hk:kx≤18446744073709551615) (hP:P.size=32) :
  takeF (lis2 y cy ky x) (replyM kx P)=if seqB P (proofD x y cy kx ky)=false then failS { lis2 y cy ky x with their:=kx } 350 else (lis3 y cy ky x kx,ackC++proofL x y cy kx ky,0):=by
 rw[take_reply' _ rfl rfl rfl,reply_reply _ kx hk P hP];rfl
theorem step_done (x y:Pr) (want cx P:ByteArray) (kx ky:Nat) (hP:P.size=32) :
  takeF (dia1 x want cx kx y ky) (ackC++P)=if seqB P (proofL x y cx kx ky)=false then failS (dia1 x want cx kx y ky) 350 else (dia2 x want cx kx y ky,⟨#[]⟩,0):=by
 rw[take_ack' _ rfl rfl rfl,ack_ack _ P hP];rfl
theorem proofD_size (x y:Pr) (c:ByteArray) (kx ky:Nat):(proofD x y c kx ky).size=32:=macS_size _ _
theorem proofL_size (x y:Pr) (c:ByteArray) (kx ky:Nat):(proofL x y c kx ky).size=32:=macS_size _ _
theorem Fine.dialS {x:Pr} (hx:PrOk x) {want cx:ByteArray} {kx:Nat} (hw:want.size≤6000) (hc:cx.size≤6000) (hk:kx≤18446744073709551615):Fine (dialS x want cx kx):=
 ⟨⟨⟨hx.1,hx.2.2⟩,⟨by show (0:Nat)≤32;omega,by show (0:Nat)≤_;omega⟩,hw,hc,hk,by show (0:Nat)≤_;omega⟩,by simp[Sk.dialS]⟩
theorem Fine.listenS {x:Pr} (hx:PrOk x) {cx:ByteArray} {kx:Nat} (hc:cx.size≤6000) (hk:kx≤18446744073709551615):Fine (listenS x cx kx):=
 ⟨⟨⟨hx.1,hx.2.2⟩,⟨by show (0:Nat)≤32;omega,by show (0:Nat)≤_;omega⟩,by show (0:Nat)≤_;omega,hc,hk,by show (0:Nat)≤_;omega⟩,by simp[Sk.listenS]⟩
theorem replyM_size (k:Nat) (P:ByteArray) (h:P.size=32):(replyM k P).size=41:=by
 unfold replyM;rw[ByteArray.size_append,ByteArray.size_append,numF_size,h];rfl
theorem offerM_size (y:Pr) (k:Nat):(offerM y k).size=y.name.size+15:=by
 unfold offerM;rw[ByteArray.size_append,ByteArray.size_append,numF_size,encF_size]
 have:offerC.size=2:=rfl
 omega
theorem take1_any (s:Sd) (hs:SdOk s) (h1:s.state=1) (b:ByteArray) (hb:b.size≤100000) (B:Nat) (w:World) (hB:Blk w B 141 (sdC s)) (ht:Tabs w) :
  Calls Tryz.prog 73 #[.pointer (some ⟨B,0,none⟩),.string b] w (Fin 141 B (takeF s b) w):=by
 cases hd:s.dials with
 | true=>
  cases he:s.sent with
  | true=>exact take_ack s hs h1 hd he b hb B w hB ht
  | false=>exact take_offer s hs h1 hd he b hb B w hB ht
 | false=>
  cases he:s.sent with
  | true=>exact take_reply s hs h1 hd he b hb B w hB ht
  | false=>exact take_greet s hs h1 hd he b hb B w hB ht
theorem proofF_size (l:ByteArray) (p q:Pr) (c:ByteArray) (a b:Nat):(proofF l p q c a b).size=32:=macS_size _ _
theorem take_out (s:Sd) (b:ByteArray):(takeF s b).2.1.size≤100:=by
 have z:(ByteArray.mk #[]).size≤100:=by decide
 unfold takeF;split
 ·
  exact z
 ·
  unfold moveF;split
  ·
   split
   ·
    unfold ackF;split
    ·
     exact z
    ·
     split<;>exact z
   ·
    unfold offerF;split
    ·
     exact z
    ·
     split
     ·
      exact z
     ·
      split
      ·
       exact z
      ·
       split
       ·
        exact z
       ·
        split
        ·
         exact z
        ·
         simp only[ByteArray.size_append,numF_size,proofF_size]
         have:replyC.size=1:=rfl
         omega
  ·
   split
   ·
    unfold replyF;split
    ·
     exact z
    ·
     simp only
     split
     ·
      exact z
     ·
      simp only[ByteArray.size_append,proofF_size]
      have:ackC.size=1:=rfl
      omega
   ·
    unfold greetF;split
    ·
     exact z
    ·
     split<;>exact z
theorem answer_out (s:Sd) (hs:Fine s) (how:Int):(answerF s how).2.1.size≤100:=by
 have z:(ByteArray.mk #[]).size≤100:=by decide
 unfold answerF;split
 ·
  exact z
 ·
  split
  ·
   simp only[ByteArray.size_append,numF_size]
   have:statusC.size=1:=rfl
   omega
  ·
   simp only[ByteArray.size_append,numF_size,encF_size]
   have:offerC.size=2:=rfl
   have:=(nameF_size _ hs.1.self.1).2
   omega
end Go.Proofs.YtoaimoemaoinhaaGreatDoor.Sk
namespace Go.Proofs.YtoaimoemaoinhaaGreatDoor
open Go.RowKit Go.Rt Go.Rw
theorem isEmpty_no {a:ByteArray} (h:¬a.size=0):a.toList.isEmpty=false:=by
 rw[ByteArray.toList_eq];cases hh:a.data.toList with
 | nil=>exact absurd (by show a.data.size=0;rw[←Array.length_toList,hh];rfl) h
 | cons _ _=>rfl
theorem okF_nine {f:Fl} {l:List Tm} (h:okF f l=true) (hk:f.k=9):2≤l.length:=by
 unfold okF at h;rw[hk] at h;have h2:(decide (2≤l.length)&&lastB l)=true:=h;rw[Bool.and_eq_true,decide_eq_true_eq] at h2;exact h2.1
theorem okF_ten {f:Fl} {l:List Tm} (h:okF f l=true) (hk:f.k=10):0≤f.bt∧f.bt≤16384:=by
 unfold okF at h;rw[hk] at h;have h2:bitsB f.bs f.bt=true:=h;unfold bitsB inB at h2;simp only[Bool.and_eq_true,decide_eq_true_eq] at h2;omega
mutual
def cnt : Tm→Nat
 | .mk _ l=>1+cntL l
def cntL : List Tm→Nat
 | []=>0
 | t::r=>cnt t+cntL r
end
def Wr (B b:Nat) (l:List UInt8) (w:World):Prop:=Lib.IsBuilder 187 5 B b (Lib.byteCells l) w
def Wu (B b:Nat) (l:List UInt8) (w:World):Prop:=Lib.BuilderAt 187 5 B b (.pointer (some ⟨b,0,none⟩)) (Lib.byteCells l) w
theorem Wu.wr {B b:Nat} {l:List UInt8} {w:World} (h:Wu B b l w):Wr B b l w:=.inr h
structure WFr (B b:Nat) (w w':World):Prop where
 os:w'.os=w.os
 tape:w'.tape=w.tape
 output:w'.output=w.output
 size:w.heap.size≤w'.heap.size
 low:∀ k,k<B→w'.heap[k]? = w.heap[k]?
 keep:∀ k,k<w.heap.size→k≠b→(∀ cs p,w.heap[k]?≠some (.cells cs 5 p))→w'.heap[k]? = w.heap[k]?
theorem WFr.refl (B b:Nat) (w:World):WFr B b w w:=⟨rfl,rfl,rfl,Nat.le_refl _,fun _ _=>rfl,fun _ _ _ _=>rfl⟩
theorem WFr.trans {B b:Nat} {u v w:World} (h:WFr B b u v) (k:WFr B b v w):WFr B b u w:=
 ⟨k.os.trans h.os,k.tape.trans h.tape,k.output.trans h.output,Nat.le_trans h.size k.size,fun i hi=>(k.low i hi).trans (h.low i hi),fun i hi hb h5=>by
  have e:=h.keep i hi hb h5;exact(k.keep i (Nat.lt_of_lt_of_le hi h.size) hb (by rw[e];exact h5)).trans e⟩
theorem WFr.below {B b:Nat} {w w':World} (h:WFr B b w w'):Below B w w':=⟨h.os,h.tape,h.output,h.size,h.low⟩
theorem WFr.of_below {B b:Nat} {w w':World} (h:Below w.heap.size w w') (hB:B≤w.heap.size):WFr B b w w':=⟨h.os,h.tape,h.output,h.size,fun k hk=>h.block k (by omega),fun k hk _ _=>h.block k hk⟩
theorem WFr.blk {B b g:Nat} {t:TypeId} {cs:Array Value} {w w':World} (h:WFr B b w w') (hk:Blk w g t cs) (hg:g≠b) (ht:t≠5):Blk w' g t cs:=
 (h.keep g hk.lt hg (fun ds p e=>by unfold Blk at hk;rw[hk] at e;injection e with e;injection e with _ e _;exact ht e)).trans hk
theorem WFr.set {B b:Nat} {w:World} (hB:B≤b) (i:Nat) (v:Value):WFr B b w (w.setCell ⟨b,i,none⟩ v):=
 ⟨rfl,rfl,rfl,by simp[World.setCell],fun k hk=>Below.heap_setCell _ _ _ _ (by show k≠b;omega),fun k _ hb _=>Below.heap_setCell _ _ _ _ hb⟩
theorem WFr.grown {B b:Nat} {w w':World} {v:Value} {n:Nat} {xs:List Value} (h:w.grownBy w' v.ownBlock) (ho:w.ownsRow B 5 1 v n xs) (hB:B≤w.heap.size):WFr B b w w':=by
 refine⟨h.os,h.tape,h.output,h.size,fun k hk=>h.block k (by omega) (fun e=>?_),fun k hk _ h5=>h.block k hk (fun e=>?_)⟩
 ·
  have:=(ho.lt k e.symm).1
  omega
 ·
  rcases ho.2 with ⟨hv,_⟩|⟨g,cap,cur,hv,_,hg,_⟩
  ·
   rw[hv] at e;cases e
  ·
   rw[hv] at e;cases e;exact h5 _ _ hg
theorem Wr.at {B b:Nat} {l:List UInt8} {w:World} (h:Wr B b l w):∃ p,Lib.BuilderAt 187 5 B b p (Lib.byteCells l) w:=by
 rcases h with h|h
 ·
  exact⟨_,h⟩
 ·
  exact⟨_,h⟩
theorem Wr.lt {B b:Nat} {l:List UInt8} {w:World} (h:Wr B b l w):b<w.heap.size:=by
 obtain⟨p,h⟩:=h.at
 exact h.lt
theorem Wr.le {B b:Nat} {l:List UInt8} {w:World} (h:Wr B b l w):B≤b:=by
 obtain⟨p,h⟩:=h.at
 exact h.1
theorem bat_below {B b:Nat} {p:Value} {bs:List Value} {w w':World} (h:Lib.BuilderAt 187 5 B b p bs w) (hb:Below w.heap.size w w'):Lib.BuilderAt 187 5 B b p bs w':=by
 obtain⟨hB,v,hbk,hown,hne⟩:=h;have hlt:b<w.heap.size:=Lib.BuilderAt.lt ⟨hB,v,hbk,hown,hne⟩;refine⟨hB,v,(hb.block b hlt).trans hbk,?_,hne⟩;refine⟨hown.1,?_⟩;rcases hown.2 with h|⟨g,cap,cur,hv,h1,hg,h2⟩
 ·
  exact .inl h
 ·
  have hgl:g<w.heap.size:=(Array.getElem?_eq_some_iff.1 hg).1;exact .inr ⟨g,cap,cur,hv,h1,(hb.block g hgl).trans hg,h2⟩
theorem Wu.below {B b:Nat} {l:List UInt8} {w w':World} (h:Wu B b l w) (hb:Below w.heap.size w w'):Wu B b l w':=bat_below h hb
theorem Wr.below {B b:Nat} {l:List UInt8} {w w':World} (h:Wr B b l w) (hb:Below w.heap.size w w'):Wr B b l w':=by
 rcases h with h|h
 ·
  exact .inl (bat_below h hb)
 ·
  exact .inr (bat_below h hb)
def rowOf (w:World) (b k:Nat):Prop:=∃ p v,w.heap[b]? = some (.cells #[p,v] 187 (0,0))∧v.ownBlock=some k
def One (b:Nat) (w w':World):Prop:=∀ k,k<w.heap.size→k≠b→¬rowOf w b k→w'.heap[k]? = w.heap[k]?
theorem Wr.row_lt {B b k:Nat} {l:List UInt8} {w:World} (h:Wr B b l w) (hk:rowOf w b k):k<w.heap.size:=by
 obtain⟨p,_,v,hbk,hown,_⟩:=h.at
 obtain⟨p',v',hbk',e⟩:=hk;rw[hbk] at hbk';have h2:#[p,v] = #[p',v']:=by injection hbk' with h;injection h
 have:v=v':=by simp at h2;exact h2.2
 subst this;exact(hown.lt k e).2
theorem Wr.new (w:World):Wr w.heap.size w.heap.size [] (w.alloc (.cells #[.pointer none,.slice none 0 0] 187)):=
 .inl ⟨Nat.le_refl _,.slice none 0 0,Blk.new w 187 _,⟨by simp[Lib.byteCells],.inl ⟨rfl,rfl⟩⟩,by simp[Value.ownBlock]⟩
theorem lies57 : liesAt Tryz.prog Tryz.prog.depth 187 (2 / Tryz.prog.cellsOf 187) 0 185 1=true:=by kernel_rfl
theorem info57 : (Tryz.prog.info? 185).map (·.size)=some 2:=by kernel_rfl
theorem info5 : (Tryz.prog.info? 5).map (fun i=>(i.zero,i.size,i.bytes))=some (some (.int .u8 0),1,1):=by kernel_rfl
set_option maxHeartbeats 1000000 in
theorem check_used (b:Nat) (w:World) (h0:w.cell? ⟨b,0,none⟩=some (.pointer (some ⟨b,0,none⟩))) :
  Calls Tryz.prog 193 #[.pointer (some ⟨b,0,none⟩)] w fun e w'=>e = .returned (.tuple #[])∧w'=w:=by
 obtain⟨j,hj,_⟩:=Option.map_eq_some_iff.1 info57;go_enter Tryz.func193,Tryz.ntmps193;go_wp2_with fail;rw[Lib.run_neq_ptr_same w _ Tryz.underlying183 hj];go_wp2_with fail;go_end0;exact⟨rfl,rfl⟩
set_option maxHeartbeats 1000000 in
theorem check_fresh (b:Nat) (w:World) (h0:w.cell? ⟨b,0,none⟩=some (.pointer none)) (hsh:w.shape? b=some (187,2)) (hfz:w.frozen? ⟨b,0,none⟩=false) :
  Calls Tryz.prog 193 #[.pointer (some ⟨b,0,none⟩)] w fun e w'=>e = .returned (.tuple #[])∧w'=w.setCell ⟨b,0,none⟩ (.pointer (some ⟨b,0,none⟩)):=by
 obtain⟨j,hj,hjs⟩:=Option.map_eq_some_iff.1 info57;go_enter Tryz.func193,Tryz.ntmps193;go_wp2_with fail;rw[Lib.run_to_unsafe w ⟨b,0,none⟩ Tryz.underlying183 Tryz.underlying292 hj (by rw[hjs];decide) hsh (Nat.zero_lt_succ 1)];simp only[Result.andThen];rw[Oper.upon_value];go_wp2_with fail;rw[run_callFunc_extern Tryz.func220 (by kernel_rfl) (by kernel_rfl) (by kernel_rfl) (e:=Extern.AbiNoEscape.same) (by kernel_rfl)]
 rw[Lib.run_noEscape];simp only[Result.andThen];rw[Oper.upon_value];go_wp2_with fail;rw[Lib.run_from_unsafe w ⟨b,0,none⟩ Tryz.underlying292 Tryz.underlying183 hj hsh lies57];simp only[Result.andThen];rw[Oper.upon_value];go_wp2_with fail;go_end0;exact⟨rfl,rfl⟩
theorem check_any68 {B b:Nat} {l:List UInt8} {w:World} (h:Wr B b l w) :
  Calls Tryz.prog 193 #[.pointer (some ⟨b,0,none⟩)] w fun e w'=>e = .returned (.tuple #[])∧Wu B b l w'∧WFr B b w w'∧(∀ k,k≠b→w'.heap[k]? = w.heap[k]?)∧(∀ k,rowOf w' b k→rowOf w b k):=by
 rcases h with h|h
 ·
  refine(check_fresh b w h.cell0 h.shape h.frozen0).mono ?_;rintro e w' ⟨rfl,rfl⟩;refine⟨rfl,h.used _,WFr.set h.1 0 _,fun k hk=>Below.heap_setCell _ _ _ _ hk,fun k hk=>?_⟩;obtain⟨hB,v,hbk,_⟩:=h;obtain⟨p',v',hbk',e⟩:=hk;have hb2:(w.setCell ⟨b,0,none⟩ (.pointer (some ⟨b,0,none⟩))).heap[b]? = some (.cells #[.pointer (some ⟨b,0,none⟩),v] 187 (0,0)):=by
   simp[World.setCell,Array.getElem?_modify,hbk]
  rw[hb2] at hbk';have h2:#[Value.pointer (some ⟨b,0,none⟩),v] = #[p',v']:=by injection hbk' with h;injection h
  have:v=v':=by simp at h2;exact h2.2
  subst this;exact⟨_,v,hbk,e⟩
 ·
  refine(check_used b w h.cell0).mono ?_;rintro e w' ⟨rfl,rfl⟩;exact⟨rfl,h,WFr.refl _ _ _,fun _ _=>rfl,fun _ h=>h⟩
theorem byteCells_append (a b:List UInt8):Lib.byteCells (a++b)=Lib.byteCells a++Lib.byteCells b:=by simp[Lib.byteCells]
set_option maxHeartbeats 2000000 in
theorem write_any {B b:Nat} {l s:List UInt8} {w:World} (h:Wr B b l w) (g o cap:Nat) (hs:s≠[]) (hg:g≠b) (hc:∀ j u,(Lib.byteCells s)[j]? = some u→w.cell? ⟨g,o+j,none⟩=some u) (hlen:l.length+s.length≤140737488355328) :
  Calls Tryz.prog 150 #[.pointer (some ⟨b,0,none⟩),.slice (some ⟨g,o,none⟩) s.length cap] w fun e w'=>e = .returned (.tuple #[.int .i64 (s.length:Nat),.nilIface])∧Wu B b (l++s) w'∧WFr B b w w'∧One b w w':=by
 obtain⟨i0,hi,hz0,hz1,hz2⟩:=info_parts info5;have HW:=qH h;have HC:=qH hc;have hpos:0<s.length:=List.length_pos_iff.2 hs;clear h hc hs;go_enter Tryz.func150,Tryz.ntmps150;go_wp2_with fail;refine(check_any68 HW.out).mono ?_;rintro e w1 ⟨rfl,u1,f1,k1,r1⟩;have F1:=qH f1;have HC1:Hid (∀ j u,(Lib.byteCells s)[j]? = some u→w1.cell? ((⟨g,o,none⟩:Addr).add j)=some u):=qH (fun j u hu=>by
  rw[show ((⟨g,o,none⟩:Addr).add j)=⟨g,o+j,none⟩ by simp[Addr.add]];rw[←HC.out j u hu];unfold World.cell?;dsimp only;rw[k1 g hg])
 obtain⟨hB,v,hbk,hown,hne⟩:=u1;have HBK:=qH hbk;have HOWN:=qH hown;have HNE:=qH hne;have hBw:B≤w1.heap.size:=by have:b<w1.heap.size:=(Array.getElem?_eq_some_iff.1 hbk).1;omega
 have c1:w1.cell? ⟨b,1,none⟩=some v:=by simp[World.cell?,hbk]
 have HO:Hid (∀ k,k≠b→¬rowOf w b k→some k≠v.ownBlock∧w1.heap[k]? = w.heap[k]?):=qH (fun k hk hr=>⟨fun e=>hr (r1 k ⟨_,v,hbk,e.symm⟩),k1 k hk⟩);clear f1 k1 r1 hbk hown hne HC HW;have hl:(Lib.byteCells l).length=l.length:=Lib.byteCells_length l;go_wp2_with (at_builtin;refine wpList_append_own _ rfl _ _ 124 rfl B 5 i0 (.int .u8 0) 1 1 Tryz.underlying124 hi hz0 hz1 hz2 rfl (by decide) _ _ _ rfl HOWN.out ⟨g,o,none⟩ s.length cap (Lib.byteCells s) rfl (by rw[Lib.byteCells_length];omega) HC1.out (by intro u hu;simp[Lib.byteCells] at hu;obtain⟨x,_,rfl⟩:=hu;rfl) (by unfold maxLen;omega) (by omega) hBw ?_)
 intro v' w2 hown' hgrow _;have HO3:Hid (∀ k,k<w.heap.size→k≠b→¬rowOf w b k→w2.heap[k]? = w.heap[k]?):=qH (fun k hk hb hr=>(hgrow.block k (Nat.lt_of_lt_of_le hk F1.out.size) (HO.out k hb hr).1).trans (HO.out k hb hr).2);have F2:=qH (F1.out.trans (WFr.grown (b:=b) hgrow HOWN.out hBw));have hb2:w2.heap[b]? = some (.cells #[.pointer (some ⟨b,0,none⟩),v] 187 (0,0)):=by
  rw[hgrow.block b (Array.getElem?_eq_some_iff.1 HBK.out).1 (fun e=>HNE.out e.symm)];exact HBK.out
 have d1:w2.cell? ⟨b,1,none⟩=some v:=by simp[World.cell?,hb2]
 have e1:w2.frozen? ⟨b,1,none⟩=false:=by simp[World.frozen?,hb2]
 have HB2:=qH hb2;obtain⟨ao,n',c',rfl⟩:∃ ao n' c',v' = .slice ao n' c':=by
  rcases hown'.2 with ⟨hv,_⟩|⟨g,cap,cur,hv,_⟩
  ·
   exact⟨_,_,_,hv⟩
  ·
   exact⟨_,_,_,hv⟩
 have HO2:=qH hown';clear hown' hgrow hb2 HOWN HC1 c1;go_wp2_with fail;go_ret2;refine⟨rfl,?_,F2.out.trans (WFr.set hB 1 _),fun k hk hb hr=>(Below.heap_setCell _ _ _ _ hb).trans (HO3.out k hk hb hr)⟩;refine Lib.BuilderAt.put (T:=187) (e:=5) hB HB2.out ?_ (by decide);rw[byteCells_append,List.length_append,Lib.byteCells_length,Lib.byteCells_length];exact HO2.out
set_option maxHeartbeats 2000000 in
theorem writes_any {B b:Nat} {l:List UInt8} {w:World} (h:Wr B b l w) (s:ByteArray) (hlen:l.length+s.size≤140737488355328) :
  Calls Tryz.prog 154 #[.pointer (some ⟨b,0,none⟩),.string s] w fun e w'=>e = .returned (.tuple #[.int .i64 (s.size:Nat),.nilIface])∧Wu B b (l++s.data.toList) w'∧WFr B b w w':=by
 obtain⟨i0,hi,hz0,hz1,hz2⟩:=info_parts info5;have HW:=qH h;clear h;go_enter Tryz.func154,Tryz.ntmps154;go_wp2_with fail;refine(check_any68 HW.out).mono ?_;rintro e w1 ⟨rfl,u1,f1,k1,r1⟩;have F1:=qH f1;obtain⟨hB,v,hbk,hown,hne⟩:=u1;have HBK:=qH hbk;have HOWN:=qH hown;have HNE:=qH hne;have hBw:B≤w1.heap.size:=by have:b<w1.heap.size:=(Array.getElem?_eq_some_iff.1 hbk).1;omega
 have c1:w1.cell? ⟨b,1,none⟩=some v:=by simp[World.cell?,hbk]
 clear f1 k1 r1 hbk hown hne HW;have hl:(Lib.byteCells l).length=l.length:=Lib.byteCells_length l;go_wp2_with (at_builtin;refine Lib.wpList_append_own_string _ rfl _ _ 124 9 rfl B 5 i0 Tryz.underlying124 Tryz.underlying9 hi hz0 hz1 hz2 _ _ _ rfl HOWN.out s rfl (by unfold maxLen;omega) (by omega) hBw ?_);intro v' w2 hown' hgrow _;have F2:=qH (F1.out.trans (WFr.grown (b:=b) hgrow HOWN.out hBw));have hb2:w2.heap[b]? = some (.cells #[.pointer (some ⟨b,0,none⟩),v] 187 (0,0)):=by
  rw[hgrow.block b (Array.getElem?_eq_some_iff.1 HBK.out).1 (fun e=>HNE.out e.symm)];exact HBK.out
 have d1:w2.cell? ⟨b,1,none⟩=some v:=by simp[World.cell?,hb2]
 have e1:w2.frozen? ⟨b,1,none⟩=false:=by simp[World.frozen?,hb2]
 have HB2:=qH hb2;obtain⟨ao,n',c',rfl⟩:∃ ao n' c',v' = .slice ao n' c':=by
  rcases hown'.2 with ⟨hv,_⟩|⟨g,cap,cur,hv,_⟩
  ·
   exact⟨_,_,_,hv⟩
  ·
   exact⟨_,_,_,hv⟩
 have HO2:=qH hown';clear hown' hgrow hb2 HOWN c1;go_wp2_with fail;go_ret2;refine⟨rfl,?_,F2.out.trans (WFr.set hB 1 _)⟩;refine Lib.BuilderAt.put (T:=187) (e:=5) hB HB2.out ?_ (by decide);rw[byteCells_append,List.length_append,Lib.byteCells_length,Lib.byteCells_length,Array.length_toList];exact HO2.out
set_option maxHeartbeats 1000000 in
theorem bytes_any {B b:Nat} {l s:List UInt8} {w:World} (h:Wr B b l w) (g o cap:Nat) (hs:s≠[]) (hg:g≠b) (hc:∀ j u,(Lib.byteCells s)[j]? = some u→w.cell? ⟨g,o+j,none⟩=some u) (hlen:l.length+s.length≤140737488355328) :
  Calls Tryz.prog 119 #[.pointer (some ⟨b,0,none⟩),.slice (some ⟨g,o,none⟩) s.length cap] w fun e w'=>e = .returned (.tuple #[])∧Wu B b (l++s) w'∧WFr B b w w'∧One b w w':=by
 have C:=qH (write_any h g o cap hs hg hc hlen);clear h hs hg hc hlen;go_enter Tryz.func119,Tryz.ntmps119;go_wp2_with fail;refine C.out.mono ?_;rintro e w1 ⟨rfl,u1,f1,o1⟩;have U1:=qH u1;have F1:=qH f1;have O1:=qH o1;clear u1 f1 o1 C;go_wp2_with fail;go_end0;exact⟨rfl,U1.out,F1.out,O1.out⟩
theorem lit_any {B b:Nat} {l:List UInt8} (s:List UInt8) {w:World} (h:Wr B b l w) (cs:Array Value) (k:Nat) (hk:k=s.length) (hcs:cs=(Lib.byteCells s).toArray) (hs:s≠[]) (hlen:l.length+s.length≤140737488355328) :
  Calls Tryz.prog 119 #[.pointer (some ⟨b,0,none⟩),.slice (some ⟨w.heap.size,0,none⟩) k k] (w.alloc (.cells cs 5)) fun e w'=>e = .returned (.tuple #[])∧Wu B b (l++s) w'∧WFr B b w w'∧One b w w':=by
 subst hk hcs;have hb:Below w.heap.size w (w.alloc (.cells (Lib.byteCells s).toArray 5)):=(Below.refl _ _).alloc (Nat.le_refl _) _;have hlt:=h.lt;refine(bytes_any (h.below hb) w.heap.size 0 s.length hs (by omega) (fun j u hu=>?_) hlen).mono ?_
 ·
  rw[Nat.zero_add,(Blk.new w 5 (Lib.byteCells s).toArray).cell j]
  simpa using hu
 ·
  rintro e w' ⟨rfl,u,f,o⟩;refine⟨rfl,u,(WFr.of_below hb (by have:=h.le;omega)).trans f,fun k hk hkb hr=>?_⟩;refine(o k (Nat.lt_of_lt_of_le hk hb.size) hkb (fun q=>hr ?_)).trans (hb.block k hk);obtain⟨p,v,q1,q2⟩:=q;exact⟨p,v,(hb.block b hlt).symm.trans q1,q2⟩
set_option maxHeartbeats 2000000 in
theorem string_any {B b:Nat} {l:List UInt8} {w:World} (h:Wr B b l w) (h0:l≠[]) :
  Calls Tryz.prog 121 #[.pointer (some ⟨b,0,none⟩)] w fun e w'=>e = .returned (.string ⟨l.toArray⟩)∧Below B w w':=by
 obtain⟨p,h⟩:=h.at
 obtain⟨hB,v,hbk,hown,hne⟩:=h;have hl0:l.length≠0:=by simpa using h0
 rw[Lib.byteCells_length] at hown;obtain⟨g,cap,cur,rfl,hbg,hg,hnc,hcm,hcs,htake⟩:∃ g cap cur,v = .slice (some ⟨g,0,none⟩) l.length cap∧B≤g∧w.heap[g]? = some (.cells cur 5 (0,0))∧l.length≤cap∧cap≤maxLen∧cur.size=cap*1∧cur.toList.take (l.length*1)=Lib.byteCells l:=by
  rcases hown.2 with ⟨_,hz⟩|⟨g,cap,cur,hv,r⟩
  ·
   exact absurd hz hl0
  ·
   exact⟨g,cap,cur,hv,r⟩
 have c1:w.drew.cell? ⟨b,1,none⟩=some (.slice (some ⟨g,0,none⟩) l.length cap):=by
  have:w.drew.heap[b]? = some (.cells #[p,.slice (some ⟨g,0,none⟩) l.length cap] 187 (0,0)):=hbk
  rw[Lib.cell_of_heap this];rfl
 have hSD:(Builtin.unsafeSliceData_ #[124] 239 #[.slice (some ⟨g,0,none⟩) l.length cap]).run Tryz.prog w.drew = .ok (.pointer (some ⟨g,0,none⟩)) w.drew:=
  Lib.run_unsafeSliceData_row _ _ _ _ _ _ (by omega)
 have hUS:(Builtin.unsafeString_ #[239,3] 9 #[.pointer (some ⟨g,0,none⟩),.int .i64 l.length]).run Tryz.prog w.drew = .ok (.string ⟨l.toArray⟩) (w.drew.freeze ⟨g,0,none⟩ l.length):=by
  refine Lib.run_unsafeString_row w.drew 239 3 9 5 Tryz.underlying239 (by kernel_rfl) g cur.size (by have hg':w.drew.heap[g]? = some (.cells cur 5 (0,0)):=hg;simp[World.shape?,hg']) l h0 (by omega) (by unfold maxLen at hcm;omega) ?_;intro j x hx
  have:=hown.cells (g:=g) rfl j (.int .u8 x.toNat) (by simp[Lib.byteCells,hx])
  exact this
 clear hbk hown hne hg hnc hcm hcs htake;go_enter Tryz.func121,Tryz.ntmps121;go_wp2_with fail;go_region
 all_goals (go_wp2;go_ret;exact⟨rfl,Lib.below_freeze (Below.drew (Below.refl B w)) (p:=⟨g,0,none⟩) hbg _⟩)
end Go.Proofs.YtoaimoemaoinhaaGreatDoor
