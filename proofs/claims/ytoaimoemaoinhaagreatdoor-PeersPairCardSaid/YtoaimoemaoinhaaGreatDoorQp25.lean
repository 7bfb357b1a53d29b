/- PeersX: a part of the proof. No condition beyond the premises of each theorem. -/
import Derived.Test.YtoaimoemaoinhaaGreatDoorQp24
import Derived.Test.YtoaimoemaoinhaaGreatDoorQp23
import Derived.Test.YtoaimoemaoinhaaGreatDoorQp14
import Derived.Test.YtoaimoemaoinhaaGreatDoorQp00
set_option maxRecDepth 100000
namespace Go.Proofs.YtoaimoemaoinhaaGreatDoor.Fr
open Go.RowKit Go.Rt Go.Rw Go.Mp Go.Lib
section
variable {K V A:Type} [DecidableEq K]
theorem put_at (f:A→K×V) (v:V):∀ (L:List A) (m:Nat) (hm:m<L.length),(L.map (fun b=>(f b).1)).Nodup→Mp.put (L.map f) (f L[m]).1 v=(L.map f).set m ((f L[m]).1,v)
 | [],m,hm,_=>by simp at hm
 | b::r,0,_,_=>by simp[Mp.put]
 | b::r,m+1,hm,hd=>by
  simp only[List.map_cons,List.nodup_cons] at hd;have hml:m<r.length:=by simpa using hm
  have hne:(f b).1≠(f r[m]).1:=fun e=>hd.1 (by rw[e];exact List.mem_map_of_mem (f:=fun b=>(f b).1) (List.getElem_mem hml))
  simp only[List.map_cons,List.getElem_cons_succ,List.set_cons_succ];rw[show f b=((f b).1,(f b).2) from rfl,Mp.put,if_neg hne,put_at f v r m hml hd.2]
theorem get_no (f:A→K×V) (k:K):∀ (L:List A),(∀ b∈L,(f b).1≠k)→Mp.get (L.map f) k=none
 | [],_=>rfl
 | b::r,h=>by
  rw[List.map_cons,show f b=((f b).1,(f b).2) from rfl,Mp.get,if_neg (h b (by simp))];exact get_no f k r (fun x hx=>h x (by simp[hx]))
theorem put_no (f:A→K×V) (k:K) (v:V) (L:List A) (h:∀ b∈L,(f b).1≠k):Mp.put (L.map f) k v=L.map f ++ [(k,v)]:=Mp.put_none _ _ _ (get_no f k L h)
theorem del_no (f:A→K×V) (k:K) (L:List A) (h:∀ b∈L,(f b).1≠k):Mp.del (L.map f) k=L.map f:=Mp.del_none _ _ (get_no f k L h)
end
abbrev PL := List (Int×(ByteArray×Int))
section
variable {w w':World} {base G m:Nat} {O:List OE}
theorem Rowy.symm {a b:OE} (h:Rowy a b):Rowy b a:=fun g hb ha=>h g ha hb
theorem apart_ne (h:GA w base G m O) {i j:Nat} (hi:i<O.length) (hj:j<O.length) (hij:i≠j):Rowy O[i] O[j]:=by
 have:=List.pairwise_iff_getElem.1 h.apart
 rcases Nat.lt_or_gt_of_ne hij with q|q
 ·
  exact this i j hi hj q
 ·
  exact(this j i hj hi q).symm
theorem GA.own_lt (h:GA w base G m O) {o:OE} (ho:o∈O) {g:Nat} (hg:o.2.1.ownBlock=some g):base≤g∧g<w.heap.size:=World.ownsRow.lt (h.rows o ho) g hg
theorem GA.set (h:GA w base G m O) {j:Nat} (hj:j<O.length) {v':Value} {d:ByteArray} {nx:Int} (hf:Fed w base m O[j].2.1 v' d (Mp.put (O.map kv) O[j].1 (v',nx)) w'):GA w' base G m (O.set j (O[j].1,v',d,nx)):=by
 have hfresh:∀ i (hi:i<O.length),i≠j→Rowy (O[j].1,v',d,nx) O[i]:=by
  intro i hi hij g hg hb;rcases hf.wher with q|q
  ·
   exact apart_ne h hj hi (Ne.symm hij) g (q▸hg) hb
  ·
   have:=(h.own_lt (List.getElem_mem hi) hb).2
   have:=q g hg
   omega
 refine h.next hf.only (fun e=>(h.row_ne (List.getElem_mem hj) e).1 rfl) ?_ ?_ ?_ ?_
 ·
  have e:Mp.put (O.map kv) O[j].1 (v',nx)=(O.set j (O[j].1,v',d,nx)).map kv:=by
   rw[show O[j].1=(kv O[j]).1 from rfl,put_at kv (v',nx) O j hj h.keys,List.map_set];rfl
  rw[←e];exact hf.mp
 ·
  intro o ho;obtain⟨i,hi,rfl⟩:=List.getElem_of_mem ho;rw[List.getElem_set];split
  ·
   exact .inr hf.row
  ·
   rename_i hne;have hi':i<O.length:=by simpa using hi
   exact .inl ⟨List.getElem_mem hi',fun g hg e=>apart_ne h hi' hj (Ne.symm hne) g hg e⟩
 ·
  rw[List.pairwise_iff_getElem];intro i k hi hk hik;have hi':i<O.length:=by simpa using hi
  have hk':k<O.length:=by simpa using hk
  rw[List.getElem_set,List.getElem_set];split
  ·
   rename_i e1;split
   ·
    omega
   ·
    exact hfresh k hk' (by omega)
  ·
   split
   ·
    exact(hfresh i hi' (by omega)).symm
   ·
    exact apart_ne h hi' hk' (by omega)
 ·
  have:(O.set j (O[j].1,v',d,nx)).map (·.1)=O.map (·.1):=by
   rw[List.map_set];apply List.ext_getElem?;intro i;rw[List.getElem?_set];split
   ·
    subst_vars;simp[hj]
   ·
    rfl
  rw[this];exact h.keys
theorem GA.snoc (h:GA w base G m O) {id:Int} (hno:∀ o∈O,o.1≠id) {v':Value} {d:ByteArray} {nx:Int} (hf:Fed w base m (.slice none 0 0) v' d (Mp.put (O.map kv) id (v',nx)) w'):GA w' base G m (O ++ [(id,v',d,nx)]):=by
 have hfresh:∀ o∈O,Rowy o (id,v',d,nx):=by
  intro o ho g hg hb;rcases hf.wher with q|q
  ·
   simp[Value.ownBlock] at q;simp only at hb;rw[show v'.ownBlock=none from q] at hb;cases hb
  ·
   have:=(h.own_lt ho hg).2
   have:=q g hb
   omega
 refine h.next (vb:=none) hf.only (by simp) ?_ ?_ ?_ ?_
 ·
  have e:Mp.put (O.map kv) id (v',nx)=(O ++ [(id,v',d,nx)]).map kv:=by rw[put_no kv id (v',nx) O hno,List.map_append];rfl
  rw[←e];exact hf.mp
 ·
  intro o ho;simp only[List.mem_append,List.mem_singleton] at ho;rcases ho with ho|rfl
  ·
   exact .inl ⟨ho,fun _ _ e=>by cases e⟩
  ·
   exact .inr hf.row
 ·
  rw[List.pairwise_append];exact⟨h.apart,by simp,fun a ha b hb=>by simp at hb;subst hb;exact hfresh a ha⟩
 ·
  rw[List.map_append,List.nodup_append];refine⟨h.keys,by simp,fun a ha b hb=>?_⟩
  simp at hb
  subst hb;obtain⟨o,ho,rfl⟩:=List.mem_map.1 ha;exact hno o ho
theorem GA.alike (h:GA w base G m O) {id:Int} (hno:∀ o∈O,o.1≠id) {v':Value} {d:ByteArray} (hf:Fed w base m (.slice none 0 0) v' d (Mp.del (O.map kv) id) w'):GA w' base G m O:=by
 refine h.next (vb:=none) hf.only (by simp) ?_ (fun o ho=>.inl ⟨ho,fun _ _ e=>by cases e⟩) h.apart h.keys;rw[←del_no kv id O hno];exact hf.mp
theorem GA.looks (h:GA w base G m O) (id:Int):Looks w m id (Mp.get (O.map kv) id).isSome (((Mp.get (O.map kv) id).getD (.slice none 0 0,0)).1) (((Mp.get (O.map kv) id).getD (.slice none 0 0,0)).2):=by
 have hl:=run_lookup2 (P:=Tryz.prog) (int_emb u2) u59 h.mp (z64 w) id;unfold Looks;cases hg:Mp.get (O.map kv) id<;>simp[hg] at hl ⊢<;>exact hl
theorem nilrow (w:World) (base:Nat):w.ownsRow base 5 1 (.slice none 0 0) ByteArray.empty.size (strCells ByteArray.empty):=World.ownsRow_nil _ _ _ _
end
def foot (G m:Nat) (O:List OE):List Nat:=G::m::O.flatMap fun o=>o.2.1.ownBlock.toList
theorem mem_foot {G m b:Nat} {O:List OE} : b∈foot G m O↔b=G∨b=m∨∃ o∈O,o.2.1.ownBlock=some b:=by simp[foot]
def Leaves (w:World) (base G m:Nat) (O:List OE) (P':PL) (w':World):Prop:=∃ O',GA w' base G m O'∧O'.map ab=P'∧Only (foot G m O) w w'∧∀ b∈foot G m O',b∈foot G m O∨w.heap.size≤b
theorem Leaves.of_below {w w':World} {base G m:Nat} {O:List OE} (h:GA w base G m O) (hb:Below w.heap.size w w'):Leaves w base G m O (O.map ab) w':=
 ⟨O,h.below hb,rfl,Only.of_below hb,fun _ h=>.inl h⟩
end Go.Proofs.YtoaimoemaoinhaaGreatDoor.Fr
namespace Go.Mp
section
variable {K V U:Type} [DecidableEq K]
theorem get_map (f:V→U) (k:K):∀ l:List (K×V),get (l.map fun p=>(p.1,f p.2)) k=(get l k).map f
 | []=>rfl
 | (a,v)::r=>by
  simp only[List.map_cons,get];split
  ·
   rfl
  ·
   exact get_map f k r
theorem put_map (f:V→U) (k:K) (v:V):∀ l:List (K×V),(put l k v).map (fun p=>(p.1,f p.2))=put (l.map fun p=>(p.1,f p.2)) k (f v)
 | []=>rfl
 | (a,u)::r=>by
  simp only[List.map_cons,put];split
  ·
   rfl
  ·
   simp only[List.map_cons,put_map f k v r]
theorem del_map (f:V→U) (k:K):∀ l:List (K×V),(del l k).map (fun p=>(p.1,f p.2))=del (l.map fun p=>(p.1,f p.2)) k
 | []=>rfl
 | (a,u)::r=>by
  simp only[List.map_cons,del];split
  ·
   rfl
  ·
   simp only[List.map_cons,del_map f k r]
theorem mem_put {l:List (K×V)} {k:K} {v:V} {p:K×V} (h:p∈put l k v):p=(k,v)∨p∈del l k:=by
 induction l with
 | nil=>exact .inl (by simpa [put] using h)
 | cons q r ih=>
  obtain⟨a,u⟩:=q;unfold put at h;unfold del;split at h
  ·
   rename_i e;rw[if_pos e];rcases List.mem_cons.1 h with h|h
   ·
    exact .inl h
   ·
    exact .inr h
  ·
   rename_i e;rw[if_neg e];rcases List.mem_cons.1 h with h|h
   ·
    exact .inr (by rw[h];exact List.mem_cons_self)
   ·
    rcases ih h with h|h
    ·
     exact .inl h
    ·
     exact .inr (List.mem_cons_of_mem _ h)
theorem mem_del {l:List (K×V)} {k:K} {p:K×V} (h:p∈del l k):p∈l:=by
 induction l with
 | nil=>exact h
 | cons q r ih=>
  obtain⟨a,u⟩:=q;unfold del at h;split at h
  ·
   exact List.mem_cons_of_mem _ h
  ·
   rcases List.mem_cons.1 h with h|h
   ·
    rw[h];exact List.mem_cons_self
   ·
    exact List.mem_cons_of_mem _ (ih h)
theorem mem_get {l:List (K×V)} {k:K} {v:V} (h:get l k=some v):(k,v)∈l:=by
 induction l with
 | nil=>cases h
 | cons q r ih=>
  obtain⟨a,u⟩:=q;unfold get at h;split at h
  ·
   rename_i e;cases h;rw[e];exact List.mem_cons_self
  ·
   exact List.mem_cons_of_mem _ (ih h)
theorem get_put (l:List (K×V)) (k:K) (v:V):get (put l k v) k=some v:=by
 induction l with
 | nil=>simp[put,get]
 | cons q r ih=>
  obtain⟨a,u⟩:=q;unfold put;split
  ·
   simp[get]
  ·
   rename_i e;simp[get,e,ih]
theorem perm_put (f:V→List Nat) (k:K) (v:V):∀ l:List (K×V),((put l k v).flatMap fun p=>f p.2).Perm (f v++(del l k).flatMap fun p=>f p.2)
 | []=>by simp[put,del]
 | (a,u)::r=>by
  unfold put del;split
  ·
   simp only[List.flatMap_cons];exact List.Perm.refl _
  ·
   simp only[List.flatMap_cons];exact((perm_put f k v r).append_left _).trans (List.perm_append_comm_assoc _ _ _)
theorem perm_get (f:V→List Nat) (k:K) (v:V):∀ l:List (K×V),get l k=some v→(l.flatMap fun p=>f p.2).Perm (f v++(del l k).flatMap fun p=>f p.2)
 | [],h=>by cases h
 | (a,u)::r,h=>by
  unfold get at h;unfold del;split at h
  ·
   rename_i e;cases h;rw[if_pos e];simp only[List.flatMap_cons];exact List.Perm.refl _
  ·
   rename_i e;rw[if_neg e];simp only[List.flatMap_cons];exact((perm_get f k v r h).append_left _).trans (List.perm_append_comm_assoc _ _ _)
end
theorem fresh_nodup {A B R:List Nat} {N:Nat} (h:(A++R).Nodup) (lt:∀ b∈R,b<N) (hB:B.Nodup) (hn:∀ b∈B,b∈A∨N≤b):(B++R).Nodup:=by
 rw[List.nodup_append] at h ⊢;refine⟨hB,h.2.1,fun x hx y hy e=>?_⟩;rcases hn x hx with q|q
 ·
  exact h.2.2 x q y hy e
 ·
  have:=lt y hy
  omega
end Go.Mp
namespace Go.Proofs.YtoaimoemaoinhaaGreatDoor.Fr
open Go.RowKit Go.Rt Go.Rw Go.Mp
theorem GA.keep {w w':World} {base G m:Nat} {O:List OE} {F:List Nat} (h:GA w base G m O) (o:Only F w w') (d:∀ b∈foot G m O,b∉F):GA w' base G m O:=by
 refine⟨(o.block G h.lt (d G (by simp[foot]))).trans h.blk,h.mp.of_heap (o.block m h.mp.lt (d m (by simp[foot]))),fun x hx=>?_,h.apart,h.keys,h.bG,h.bm,Nat.le_trans h.bz o.size⟩;refine⟨(h.rows x hx).1,?_⟩;rcases (h.rows x hx).2 with q|⟨g,cap,cur,q1,q2,q3,q4⟩
 ·
  exact .inl q
 ·
  refine .inr ⟨g,cap,cur,q1,q2,(o.block g (Array.getElem?_eq_some_iff.1 q3).1 (d g (mem_foot.2 (.inr (.inr ⟨x,hx,by rw[q1];rfl⟩))))).trans q3,q4⟩
theorem GA.foot_lt {w:World} {base G m:Nat} {O:List OE} (h:GA w base G m O):∀ b∈foot G m O,base≤b∧b<w.heap.size:=by
 intro b hb;rcases mem_foot.1 hb with rfl|rfl|⟨x,hx,e⟩
 ·
  exact⟨h.bG,h.lt⟩
 ·
  exact⟨h.bm,h.mp.lt⟩
 ·
  exact h.own_lt hx e
end Go.Proofs.YtoaimoemaoinhaaGreatDoor.Fr
namespace Go.Proofs.YtoaimoemaoinhaaGreatDoor
open Go.RowKit Go.Rt Go.Rw Go.Mp
structure Cx where
 dials:Bool
 num:Nat
 side:Sk.Sd
 gen:Nat
 ms:Fr.PL
 id:Nat
structure Cm where
 c:Nat
 B:Nat
 gat:Option (Nat×Nat×List Fr.OE)
def gatV : Option (Nat×Nat×List Fr.OE)→Value
 | none=>.pointer none
 | some q=>ptrV q.1
def gfoot : Option (Nat×Nat×List Fr.OE)→List Nat
 | none=>[]
 | some q=>Fr.foot q.1 q.2.1 q.2.2
def GatAt (w:World) (base:Nat) (gen:Nat) (ms:Fr.PL):Option (Nat×Nat×List Fr.OE)→Prop
 | none=>ms = []∧gen=0
 | some q=>Fr.GA w base q.1 q.2.1 q.2.2∧q.2.2.map Fr.ab=ms
theorem GatAt.keep {w w':World} {base gen:Nat} {ms:Fr.PL} {q:Option (Nat×Nat×List Fr.OE)} {F:List Nat} (h:GatAt w base gen ms q) (o:Only F w w') (d:∀ b∈gfoot q,b∉F):GatAt w' base gen ms q:=by
 cases q with
 | none=>exact h
 | some q=>exact⟨h.1.keep o d,h.2⟩
structure CAt (w:World) (base:Nat) (node:ByteArray) (x:Cx) (a:Cm):Prop where
 con:Blk w a.c 93 (cnC node x.dials x.num (ptrV a.B) (x.gen:Int) (gatV a.gat) (x.id:Int))
 side:Blk w a.B 141 (Sk.sdC x.side)
 gat:GatAt w base x.gen x.ms a.gat
def cfoot (a:Cm):List Nat:=a.c::a.B::gfoot a.gat
theorem CAt.keep {w w':World} {base:Nat} {node:ByteArray} {x:Cx} {a:Cm} {F:List Nat} (h:CAt w base node x a) (o:Only F w w') (d:∀ b∈cfoot a,b∉F):CAt w' base node x a:=
 ⟨h.con.only o (d _ (by simp[cfoot])),h.side.only o (d _ (by simp[cfoot])),h.gat.keep o (fun b hb=>d b (by simp[cfoot,hb]))⟩
structure Nd where
 nm:ByteArray
 gen:Nat
 ck:ByteArray
 ch:Nat
 di:Nat
 C:List (ByteArray×Cx)
 O:List (ByteArray×List ByteArray)
 L:List (ByteArray×Int)
structure Nm where
 g:Nat
 mc:Nat
 mo:Nat
 ml:Nat
 C:List (ByteArray×(Cx×Cm))
 O:List (ByteArray×(Value×List ByteArray))
def ofoot (v:Value×List ByteArray):List Nat:=v.1.ownBlock.toList
def foot (a:Nm):List Nat:=[a.g,a.mc,a.mo,a.ml]++((a.C.flatMap fun p=>cfoot p.2.2)++a.O.flatMap fun p=>ofoot p.2)
structure NdAt (w:World) (base:Nat) (n:Nd) (a:Nm):Prop where
 pm:PM w a.g a.mc a.mo a.ml n.nm (n.gen:Int) n.ck n.ch n.di (a.C.map fun p=>(p.1,p.2.2.c)) (a.O.map fun p=>(p.1,p.2.1)) n.L
 cs:∀ p∈a.C,CAt w base p.1 p.2.1 p.2.2
 os:∀ p∈a.O,Sl w base 9 1 strC p.2.1 p.2.2
 eC:(a.C.map fun p=>(p.1,p.2.1))=n.C
 eO:(a.O.map fun p=>(p.1,p.2.2))=n.O
 nod:(foot a).Nodup
 low:∀ b∈foot a,base≤b∧b<w.heap.size
 bz:base≤w.heap.size
theorem mem_foot {a:Nm} {b:Nat} : b∈foot a↔b=a.g∨b=a.mc∨b=a.mo∨b=a.ml∨(∃ p∈a.C,b∈cfoot p.2.2)∨∃ p∈a.O,p.2.1.ownBlock=some b:=by
 simp[foot,ofoot]
section
variable {w w':World} {base:Nat} {n:Nd} {a:Nm}
theorem NdAt.keep {F:List Nat} (h:NdAt w base n a) (o:Only F w w') (d:∀ b∈foot a,b∉F):NdAt w' base n a where
 pm:=h.pm.only o (d _ (mem_foot.2 (.inl rfl))) (d _ (mem_foot.2 (.inr (.inl rfl)))) (d _ (mem_foot.2 (.inr (.inr (.inl rfl))))) (d _ (mem_foot.2 (.inr (.inr (.inr (.inl rfl))))))
 cs:=fun p hp=>(h.cs p hp).keep o (fun b hb=>d b (mem_foot.2 (.inr (.inr (.inr (.inr (.inl ⟨p,hp,hb⟩)))))))
 os:=fun p hp=>(h.os p hp).only o (fun b hb=>d b (mem_foot.2 (.inr (.inr (.inr (.inr (.inr ⟨p,hp,hb⟩)))))))
 eC:=h.eC
 eO:=h.eO
 nod:=h.nod
 low:=fun b hb=>⟨(h.low b hb).1,Nat.lt_of_lt_of_le (h.low b hb).2 o.size⟩
 bz:=Nat.le_trans h.bz o.size
theorem NdAt.below (h:NdAt w base n a) (b:Below w.heap.size w w'):NdAt w' base n a:=h.keep (F:=[]) (Only.of_below b) (fun _ _=>by simp)
theorem NdAt.getC (h:NdAt w base n a) (k:ByteArray):get n.C k=(get a.C k).map Prod.fst:=by
 rw[←h.eC];exact get_map Prod.fst k a.C
theorem NdAt.getO (h:NdAt w base n a) (k:ByteArray):get n.O k=(get a.O k).map Prod.snd:=by
 rw[←h.eO];exact get_map Prod.snd k a.O
theorem NdAt.conn (h:NdAt w base n a) {k:ByteArray} {x:Cx} {m:Cm} (hx:get a.C k=some (x,m)):CAt w base k x m:=h.cs _ (mem_get hx)
end
structure Trail (w w':World) (a a':Nm):Prop where
 only:Only (foot a) w w'
 new:∀ b∈foot a',b∈foot a∨w.heap.size≤b
 g:a'.g=a.g
theorem Trail.refl (w:World) (a:Nm):Trail w w a a:=⟨Only.refl _ _,fun _ h=>.inl h,rfl⟩
theorem Trail.trans {w1 w2 w3:World} {a b c:Nm} (h:Trail w1 w2 a b) (k:Trail w2 w3 b c):Trail w1 w3 a c:=
 ⟨⟨k.only.os.trans h.only.os,k.only.tape.trans h.only.tape,k.only.output.trans h.only.output,Nat.le_trans h.only.size k.only.size,fun x hx hn=>(k.only.block x (Nat.lt_of_lt_of_le hx h.only.size) (fun q=>by
  rcases h.new x q with q|q
  ·
   exact hn q
  ·
   omega)).trans (h.only.block x hx hn)⟩,fun x hx=>by
  rcases k.new x hx with q|q
  ·
   exact h.new x q
  ·
   exact .inr (Nat.le_trans h.only.size q),k.g.trans h.g⟩
theorem Trail.below {w w':World} (a:Nm) (b:Below w.heap.size w w'):Trail w w' a a:=⟨Only.of_below b,fun _ h=>.inl h,rfl⟩
end Go.Proofs.YtoaimoemaoinhaaGreatDoor
namespace Go.Mp
section
variable {K V:Type} [DecidableEq K]
theorem perm_old (f:V→List Nat) (k:K) (l:List (K×V)):(l.flatMap fun p=>f p.2).Perm (((get l k).map f).getD []++(del l k).flatMap fun p=>f p.2):=by
 cases h:get l k with
 | none=>rw[del_none _ _ h];exact List.Perm.refl _
 | some v=>exact perm_get f k v l h
end
end Go.Mp
namespace Go.Proofs.YtoaimoemaoinhaaGreatDoor
open Go.RowKit Go.Rt Go.Rw Go.Mp
theorem NdAt.step {w w':World} {base:Nat} {n n':Nd} {a a':Nm} (h:NdAt w base n a) {A A' R:List Nat} (hp:(foot a).Perm (A++R)) (hp':(foot a').Perm (A'++R)) (o:Only A w w')
  (hA:A'.Nodup) (hn:∀ b∈A',b∈A∨(w.heap.size≤b∧b<w'.heap.size))
  (pm:PM w' a'.g a'.mc a'.mo a'.ml n'.nm (n'.gen:Int) n'.ck n'.ch n'.di (a'.C.map fun p=>(p.1,p.2.2.c)) (a'.O.map fun p=>(p.1,p.2.1)) n'.L)
  (cs:∀ p∈a'.C,(p∈a.C∧∀ b∈cfoot p.2.2,b∈R)∨CAt w' base p.1 p.2.1 p.2.2)
  (os:∀ p∈a'.O,(p∈a.O∧∀ b∈ofoot p.2,b∈R)∨Sl w' base 9 1 strC p.2.1 p.2.2)
  (eC:(a'.C.map fun p=>(p.1,p.2.1))=n'.C) (eO:(a'.O.map fun p=>(p.1,p.2.2))=n'.O) (g:a'.g=a.g):NdAt w' base n' a'∧Trail w w' a a':=by
 have nd:=hp.nodup_iff.1 h.nod;have dis:∀ b∈R,b∉A:=fun b hb hA=>(List.nodup_append.1 nd).2.2 b hA b hb rfl
 have low:∀ b∈A++R,base≤b∧b<w.heap.size:=fun b hb=>h.low b (hp.mem_iff.2 hb)
 refine⟨⟨pm,fun p hp=>?_,fun p hp=>?_,eC,eO,?_,fun b hb=>?_,Nat.le_trans h.bz o.size⟩,⟨o.mono (fun b hb=>.inl (hp.mem_iff.2 (List.mem_append_left _ hb))),fun b hb=>?_,g⟩⟩
 ·
  rcases cs p hp with ⟨q1,q2⟩|q
  ·
   exact(h.cs p q1).keep o (fun b hb=>dis b (q2 b hb))
  ·
   exact q
 ·
  rcases os p hp with ⟨q1,q2⟩|q
  ·
   exact(h.os p q1).only o (fun b hb=>dis b (q2 b (by unfold ofoot;rw[hb];simp)))
  ·
   exact q
 ·
  rw[hp'.nodup_iff];exact fresh_nodup nd (fun b hb=>(low b (List.mem_append_right _ hb)).2) hA (fun b hb=>(hn b hb).imp id (·.1))
 ·
  rcases List.mem_append.1 (hp'.mem_iff.1 hb) with q|q
  ·
   rcases hn b q with q|q
   ·
    have:=low b (List.mem_append_left _ q)
    exact⟨this.1,Nat.lt_of_lt_of_le this.2 o.size⟩
   ·
    exact⟨Nat.le_trans h.bz q.1,q.2⟩
  ·
   have:=low b (List.mem_append_right _ q)
   exact⟨this.1,Nat.lt_of_lt_of_le this.2 o.size⟩
 ·
  rcases List.mem_append.1 (hp'.mem_iff.1 hb) with q|q
  ·
   rcases hn b q with q|q
   ·
    exact .inl (hp.mem_iff.2 (List.mem_append_left _ q))
   ·
    exact .inr q.1
  ·
   exact .inl (hp.mem_iff.2 (List.mem_append_right _ q))
def oldO (a:Nm) (k:ByteArray):List Nat:=((get a.O k).map ofoot).getD []
def oldC (a:Nm) (k:ByteArray):List Nat:=((get a.C k).map fun p=>cfoot p.2).getD []
def fC (l:List (ByteArray×(Cx×Cm))):List Nat:=l.flatMap fun p=>cfoot p.2.2
def fO (l:List (ByteArray×(Value×List ByteArray))):List Nat:=l.flatMap fun p=>ofoot p.2
theorem foot_eq (a:Nm):foot a = [a.g,a.mc,a.mo,a.ml]++(fC a.C++fO a.O):=rfl
theorem perm_O (a:Nm) (k:ByteArray):(fO a.O).Perm (oldO a k++fO (del a.O k)):=perm_old ofoot k a.O
theorem perm_C (a:Nm) (k:ByteArray):(fC a.C).Perm (oldC a k++fC (del a.C k)):=perm_old (fun p:Cx×Cm=>cfoot p.2) k a.C
theorem perm_O' (l:List (ByteArray×(Value×List ByteArray))) (k:ByteArray) (v:Value×List ByteArray):(fO (put l k v)).Perm (ofoot v++fO (del l k)):=perm_put ofoot k v l
theorem perm_C' (l:List (ByteArray×(Cx×Cm))) (k:ByteArray) (v:Cx×Cm):(fC (put l k v)).Perm (cfoot v.2++fC (del l k)):=perm_put (fun p:Cx×Cm=>cfoot p.2) k v l
theorem mem_fC {l:List (ByteArray×(Cx×Cm))} {p:ByteArray×(Cx×Cm)} {b:Nat} (h:p∈l) (hb:b∈cfoot p.2.2):b∈fC l:=List.mem_flatMap.2 ⟨p,h,hb⟩
theorem mem_fO {l:List (ByteArray×(Value×List ByteArray))} {p:ByteArray×(Value×List ByteArray)} {b:Nat} (h:p∈l) (hb:b∈ofoot p.2):b∈fO l:=List.mem_flatMap.2 ⟨p,h,hb⟩
def sendN (n:Nd) (k:ByteArray) (p:ByteArray):Nd:={ n with O:=put n.O k ((get n.O k).getD [] ++ [p]) }
theorem NdAt.outV {w:World} {base:Nat} {n:Nd} {a:Nm} (h:NdAt w base n a) (k:ByteArray):Sl w base 9 1 strC (outV (a.O.map fun p=>(p.1,p.2.1)) k) ((get n.O k).getD []):=by
 unfold YtoaimoemaoinhaaGreatDoor.outV;rw[show (fun p:ByteArray×Value×List ByteArray=>(p.1,p.2.1))=(fun p=>(p.1,Prod.fst p.2)) from rfl,get_map,h.getO k];cases e:get a.O k with
 | none=>exact Sl.nil _ _ _ _ _
 | some v=>exact h.os _ (mem_get e)
theorem outV_own (a:Nm) (k:ByteArray):(YtoaimoemaoinhaaGreatDoor.outV (a.O.map fun p=>(p.1,p.2.1)) k).ownBlock.toList=oldO a k:=by
 unfold YtoaimoemaoinhaaGreatDoor.outV oldO;rw[show (fun p:ByteArray×Value×List ByteArray=>(p.1,p.2.1))=(fun p=>(p.1,Prod.fst p.2)) from rfl,get_map];cases e:get a.O k<;>rfl
theorem sent_nd {w w':World} {base:Nat} {n:Nd} {a:Nm} (h:NdAt w base n a) (k p:ByteArray)
  (hs:Sent w base a.g a.mc a.mo a.ml n.nm (n.gen:Int) n.ck n.ch n.di (a.C.map fun p=>(p.1,p.2.2.c)) (a.O.map fun p=>(p.1,p.2.1)) n.L k ((get n.O k).getD [] ++ [p]) w') :
  ∃ v,NdAt w' base (sendN n k p) { a with O:=put a.O k (v,(get n.O k).getD [] ++ [p]) }∧Trail w w' a { a with O:=put a.O k (v,(get n.O k).getD [] ++ [p]) }:=by
 obtain⟨v,h1,h2,h3,h4⟩:=hs;rw[outV_own] at h3;refine⟨v,h.step (A:=a.mo::oldO a k) (A':=a.mo::v.ownBlock.toList) (R:=[a.g,a.mc,a.ml]++(fC a.C++fO (del a.O k))) ?_ ?_ h3 ?_ ?_ ?_ ?_ ?_ h.eC ?_ rfl⟩
 ·
  rw[foot_eq];refine((((perm_O a k).append_left _).append_left _)).trans ?_;simp only[List.cons_append,List.nil_append];refine List.perm_iff_count.2 fun b=>?_
  simp only[List.count_cons,List.count_append];omega
 ·
  rw[foot_eq];refine((((perm_O' a.O k _).append_left _).append_left _)).trans ?_;unfold ofoot;simp only[List.cons_append,List.nil_append];refine List.perm_iff_count.2 fun b=>?_
  simp only[List.count_cons,List.count_append];omega
 ·
  rw[List.nodup_cons];refine⟨fun q=>?_,by cases v.ownBlock<;>simp⟩;exact sl_offm h2 h1.om _ (Option.mem_toList.1 q) rfl
 ·
  intro b hb;rcases List.mem_cons.1 hb with q|q
  ·
   exact .inl (by rw[q];exact List.mem_cons_self)
  ·
   have q:=Option.mem_toList.1 q;rcases h4 with e|e
   ·
    rw[e] at q;refine .inl (List.mem_cons_of_mem _ ?_);rw[←outV_own];exact Option.mem_toList.2 q
   ·
    exact .inr ⟨e b q,(h2.lt b q).2⟩
 ·
  show PM w' a.g a.mc a.mo a.ml n.nm (n.gen:Int) n.ck n.ch n.di _ ((put a.O k (v,_)).map fun p=>(p.1,Prod.fst p.2)) n.L;rw[put_map];exact h1
 ·
  intro q hq;refine .inl ⟨hq,fun b hb=>?_⟩
  have:=mem_fC hq hb
  simp[this]
 ·
  intro q hq;rcases mem_put hq with rfl|hq
  ·
   exact .inr h2
  ·
   refine .inl ⟨mem_del hq,fun b hb=>?_⟩
   have:=mem_fO hq hb
   simp[this]
 ·
  show ((put a.O k (v,_)).map fun p=>(p.1,Prod.snd p.2))=put n.O k _;rw[put_map,←h.eO]
theorem send_nd {w:World} {base:Nat} {n:Nd} {a:Nm} (h:NdAt w base n a) (k:ByteArray) (dials:Bool) (num:Nat) (kind:UInt8) (cont:ByteArray) (hc:cont.size≤1000000000) (hl:((get n.O k).getD []).length≤100000000) :
  Calls Tryz.prog 69 #[ptrV a.g,.string k,.agg #[.bool dials,.int .u64 (num:Int),.int .u8 (kind.toNat:Int),.string cont]] w fun e w'=>e = .returned (.tuple #[]) ∧
   ∃ v,NdAt w' base (sendN n k (pkF dials num kind cont)) { a with O:=put a.O k (v,(get n.O k).getD [] ++ [pkF dials num kind cont]) }∧Trail w w' a { a with O:=put a.O k (v,(get n.O k).getD [] ++ [pkF dials num kind cont]) }:=
 (psend_any h.pm base h.bz k dials num kind cont hc _ (h.outV k) hl).mono fun _ _ ⟨h1,h2⟩=>⟨h1,sent_nd h k _ h2⟩
theorem tell_nd {w:World} {base:Nat} {n:Nd} {a:Nm} (h:NdAt w base n a) (k:ByteArray) (x:Cx) (m:Cm) (hx:CAt w base k x m) (kind:UInt8) (cont:ByteArray) (hc:cont.size≤1000000000) (hl:((get n.O k).getD []).length≤100000000) :
  Calls Tryz.prog 34 #[ptrV a.g,ptrV m.c,.int .u8 (kind.toNat:Int),.string cont] w fun e w'=>e = .returned (.tuple #[]) ∧
   ∃ v,NdAt w' base (sendN n k (pkF x.dials x.num kind cont)) { a with O:=put a.O k (v,(get n.O k).getD [] ++ [pkF x.dials x.num kind cont]) }∧Trail w w' a { a with O:=put a.O k (v,(get n.O k).getD [] ++ [pkF x.dials x.num kind cont]) }:=
 (tell_any h.pm base h.bz m.c k x.dials x.num _ _ _ _ hx.con kind cont hc _ (h.outV k) hl).mono fun _ _ ⟨h1,h2⟩=>⟨h1,sent_nd h k _ h2⟩
end Go.Proofs.YtoaimoemaoinhaaGreatDoor
namespace Go.Proofs.YtoaimoemaoinhaaGreatDoor
open Go.RowKit Go.Rt Go.Rw Go.Mp
structure Ev where
 kind:Int
 node:ByteArray
 gen:Int
 s:Sg
def evL (e:Ev) (x:Sf):List Value:=[.int .i64 e.kind,.string e.node,.int .i64 e.gen]++sgC e.s x
def zeroSf : Sf:=⟨zerX,zerX,zerX,zerX⟩
def downE (k:ByteArray):Ev:=⟨3,k,0,zeroSg⟩
def upE (k:ByteArray) (g:Int):Ev:=⟨1,k,g,zeroSg⟩
def EvsAt (n0:Nat) (w:World) (v:Value):List Ev→Prop
 | []=>v = .slice none 0 0
 | [e]=>∃ b x,v = .slice (some ⟨b,0,none⟩) 1 1∧Blk w b 97 (evL e x).toArray∧n0≤b∧SgAt (fun q=>n0≤q) w e.s x
 | _=>False
theorem EvsAt.new (w:World) (n0:Nat) (e:Ev) (x:Sf) (hn:n0≤w.heap.size) (hs:SgAt (fun q=>n0≤q) (w.alloc (.cells (evL e x).toArray 97)) e.s x) :
  EvsAt n0 (w.alloc (.cells (evL e x).toArray 97)) (.slice (some ⟨w.heap.size,0,none⟩) 1 1) [e]:=⟨_,x,rfl,Blk.new _ _ _,hn,hs⟩
theorem zero_at (S:Nat→Prop) (w:World):SgAt S w zeroSg zeroSf:=⟨zer_at S w,zer_at S w,zer_at S w,zer_at S w⟩
def remN (n:Nd) (k:ByteArray):Nd:={ n with C:=del n.C k }
def remE (k:ByteArray) (x:Cx):List Ev:=if x.gen=0 then [] else [downE k]
def remA (a:Nm) (k:ByteArray):Nm:={ a with C:=del a.C k }
theorem rem_nd {w w':World} {base:Nat} {n:Nd} {a:Nm} (h:NdAt w base n a) (k:ByteArray) (o:Only [a.mc] w w') (hm:MapAt w' a.mc strK ptrV (del (a.C.map fun p=>(p.1,p.2.2.c)) k)):NdAt w' base (remN n k) (remA a k)∧Trail w w' a (remA a k):=by
 have hsp:=h.pm.sep;refine h.step (A:=a.mc::oldC a k) (A':=[a.mc]) (R:=[a.g,a.mo,a.ml]++(fC (del a.C k)++fO a.O)) ?_ ?_ (o.mono (fun b hb=>.inl (by rw[List.mem_singleton.1 hb];exact List.mem_cons_self))) (by simp) ?_ ?_ ?_ ?_ ?_ h.eO rfl
 ·
  rw[foot_eq];refine((((perm_C a k).append_right _).append_left _)).trans ?_;simp only[List.cons_append,List.nil_append];refine List.perm_iff_count.2 fun b=>?_
  simp only[List.count_cons,List.count_append];omega
 ·
  rw[foot_eq];unfold remA;simp only[List.cons_append,List.nil_append];refine List.perm_iff_count.2 fun b=>?_
  simp only[List.count_cons,List.count_append];omega
 ·
  intro b hb;exact .inl (by rw[List.mem_singleton.1 hb];exact List.mem_cons_self)
 ·
  have e:((del a.C k).map fun p=>(p.1,p.2.2.c))=del (a.C.map fun p=>(p.1,p.2.2.c)) k:=del_map (fun q:Cx×Cm=>q.2.c) k a.C;refine⟨h.pm.blk.only o (by simp;omega),?_,h.pm.om.of_heap (o.block _ h.pm.om.lt (by simp;omega)),h.pm.lm.of_heap (o.block _ h.pm.lm.lt (by simp;omega)),hsp⟩;show MapAt w' a.mc strK ptrV ((del a.C k).map fun p=>(p.1,p.2.2.c));rw[e];exact hm
 ·
  intro q hq;refine .inl ⟨mem_del hq,fun b hb=>?_⟩
  have:b∈fC (del a.C k):=mem_fC hq hb
  simp[this]
 ·
  intro q hq;refine .inl ⟨hq,fun b hb=>?_⟩
  have:b∈fO a.O:=mem_fO hq hb
  simp[this]
 ·
  show ((del a.C k).map fun p=>(p.1,Prod.fst p.2))=del n.C k;rw[del_map,←h.eC]
set_option maxHeartbeats 4000000 in
theorem remove_nd {w:World} {base:Nat} {n:Nd} {a:Nm} (h:NdAt w base n a) (k:ByteArray) (x:Cx) (m:Cm) (hx:CAt w base k x m) (hc:m.c≠a.mc) :
  Calls Tryz.prog 36 #[ptrV a.g,ptrV m.c] w fun e w'=>∃ v,e = .returned v∧EvsAt w.heap.size w' v (remE k x)∧NdAt w' base (remN n k) (remA a k)∧Trail w w' a (remA a k):=by
 have c5:w.cell? ⟨a.g,5,none⟩=some (.map (some a.mc)):=h.pm.blk.cell 5;have k0:w.cell? ⟨m.c,0,none⟩=some (.string k):=hx.con.cell 0;obtain⟨o,hd,hm⟩:=run_delete (ty:=0) (str_emb undS) und75 (h.pm.cm.of_heap (w':=w.drew) rfl) k;have hw:Hid (NdAt (w.drew.putObj a.mc o) base (remN n k) (remA a k)∧Trail w (w.drew.putObj a.mc o) a (remA a k)):=qH (rem_nd h k ((Only.drew _ w).trans (Only.putObj w.drew a.mc o (by simp))) hm)
 have X:Hid (Blk (w.drew.putObj a.mc o) m.c 93 (cnC k x.dials x.num (ptrV m.B) (x.gen:Int) (gatV m.gat) (x.id:Int))):=qH (hx.con.only ((Only.drew [a.mc] w).trans (Only.putObj w.drew a.mc o (by simp))) (by simpa using hc));have HD:Hid ((Builtin.delete_ #[54,9] 0 #[.map (some a.mc),.string k]).run Tryz.prog w.drew = .ok (.tuple #[]) (w.drew.putObj a.mc o)):=qH hd;clear h hx hc hd hm;unfold ptrV;go_enter Tryz.func36,Tryz.ntmps36
 go_wp2_with fail;go_still_tail 8,(by kernel_rfl);change wpList _ _ _ _ _ w.drew;clear c5 k0;have hd:=HD.out;go_upto_region 2 with fail
 clear hd HD;have S:=qH (show w.heap.size≤(w.drew.putObj a.mc o).heap.size from hw.out.2.only.size);generalize w.drew.putObj a.mc o=w1 at *;have k4:w1.cell? ⟨m.c,4,none⟩=some (.int .i64 (x.gen:Int)):=X.out.cell 4;have k0:w1.cell? ⟨m.c,0,none⟩=some (.string k):=X.out.cell 0
 by_cases hg:x.gen=0
 ·
  have HE:Hid (remE k x = []):=qH (by unfold remE;rw[if_pos hg]);have k4':w1.cell? ⟨m.c,4,none⟩=some (.int .i64 0):=by rw[k4,hg];rfl
  clear k4 hg;go_wp2_with fail;go_ret;exact⟨_,rfl,by rw[HE.out];rfl,hw.out.1,hw.out.2⟩
 ·
  have HE:Hid (remE k x = [downE k]):=qH (by unfold remE;rw[if_neg hg]);have hgn:((x.gen:Int)==0)=false:=by rw[beq_eq_false_iff_ne];omega
  have AL:=(Below.refl w1.heap.size w1).alloc (Nat.le_refl _) (.cells (evL (downE k) zeroSf).toArray 97);have HF:Hid (EvsAt w.heap.size (w1.alloc (.cells (evL (downE k) zeroSf).toArray 97)) (.slice (some ⟨w1.heap.size,0,none⟩) 1 1) [downE k]∧NdAt (w1.alloc (.cells (evL (downE k) zeroSf).toArray 97)) base (remN n k) (remA a k)∧Trail w (w1.alloc (.cells (evL (downE k) zeroSf).toArray 97)) a (remA a k)):=qH
   ⟨EvsAt.new w1 _ _ _ S.out (zero_at _ _),hw.out.1.below AL,hw.out.2.trans (Trail.below _ AL)⟩
  clear hg AL;go_wp2_with fail;go_ret;exact⟨_,rfl,by rw[HE.out];exact HF.out.1,HF.out.2.1,HF.out.2.2⟩
theorem EvsAt.mono {n0 n1:Nat} {w:World} {v:Value} {l:List Ev} (h:EvsAt n0 w v l) (hn:n1≤n0):EvsAt n1 w v l:=by
 cases l with
 | nil=>exact h
 | cons e r=>
  cases r with
  | nil=>
   obtain⟨b,x,h1,h2,h3,h4⟩:=h;exact⟨b,x,h1,h2,Nat.le_trans hn h3,h4.mono (fun _ q _=>Nat.le_trans hn q)⟩
  | cons _ _=>exact h.elim
def Done (w:World) (base:Nat) (a:Nm) (n':Nd) (l:List Ev) (e:Ending) (w':World):Prop:=∃ v a',e = .returned v∧EvsAt w.heap.size w' v l∧NdAt w' base n' a'∧Trail w w' a a'
theorem Done.from {w w1:World} {base:Nat} {a a1:Nm} {n':Nd} {l:List Ev} {e:Ending} {w':World} (t:Trail w w1 a a1) (h:Done w1 base a1 n' l e w'):Done w base a n' l e w':=by
 obtain⟨v,a',h1,h2,h3,h4⟩:=h;exact⟨v,a',h1,h2.mono t.only.size,h3,t.trans h4⟩
theorem NdAt.con_ne {w:World} {base:Nat} {n:Nd} {a:Nm} (h:NdAt w base n a) {k:ByteArray} {x:Cx} {m:Cm} (hx:get a.C k=some (x,m)):m.c≠a.mc:=by
 rintro e;obtain⟨es,cc,hb,_⟩:=h.pm.cm
 have:=(h.conn hx).con
 unfold Blk at this;rw[e,hb] at this;cases this
theorem remove_any {w:World} {base:Nat} {n:Nd} {a:Nm} (h:NdAt w base n a) (k:ByteArray) (x:Cx) (m:Cm) (hx:get a.C k=some (x,m)) :
  Calls Tryz.prog 36 #[ptrV a.g,ptrV m.c] w (Done w base a (remN n k) (remE k x)):=
 (remove_nd h k x m (h.conn hx) (h.con_ne hx)).mono fun _ _ ⟨v,h1,h2,h3,h4⟩=>⟨v,_,h1,h2,h3,h4⟩
def closeN (n:Nd) (k:ByteArray) (x:Cx):Nd:=remN (sendN n k (pkF x.dials x.num 66 ⟨#[]⟩)) k
set_option maxHeartbeats 4000000 in
theorem close_any {w:World} {base:Nat} {n:Nd} {a:Nm} (h:NdAt w base n a) (k:ByteArray) (x:Cx) (m:Cm) (hx:get a.C k=some (x,m)) (hl:((get n.O k).getD []).length≤100000000) :
  Calls Tryz.prog 40 #[ptrV a.g,ptrV m.c] w (Done w base a (closeN n k x) (remE k x)):=by
 have CT:=qH (tell_nd h k x m (h.conn hx) 66 ⟨#[]⟩ (by decide) hl);have HX:=qH hx;clear h hx hl;unfold ptrV at *;go_enter Tryz.func40,Tryz.ntmps40;go_wp2_with fail;refine CT.out.mono ?_;rintro e w1 ⟨rfl,v,h1,h2⟩;have H:=qH h1;have T:=qH h2;clear h1 h2 CT;have CR:=qH (remove_any H.out k x m HX.out);unfold ptrV at CR;go_wp2_with fail;refine CR.out.mono ?_;rintro e w2 ⟨v2,a2,rfl,h2,h3,h4⟩;have D:=qH (Done.from T.out ⟨v2,a2,rfl,h2,h3,h4⟩)
 clear h2 h3 h4 CR T H;go_wp2_with fail;go_ret;exact D.out
def endsN (n:Nd) (k:ByteArray) (x:Cx) (cont:ByteArray):Nd:=if cont.toList = [] then remN n k else closeN n k x
set_option maxHeartbeats 4000000 in
theorem ends_any {w:World} {base:Nat} {n:Nd} {a:Nm} (h:NdAt w base n a) (k:ByteArray) (x:Cx) (m:Cm) (hx:get a.C k=some (x,m)) (hl:((get n.O k).getD []).length≤100000000) (cont:ByteArray) :
  Calls Tryz.prog 43 #[ptrV a.g,ptrV m.c,.string cont] w (Done w base a (endsN n k x cont) (remE k x)):=by
 have CC:=qH (close_any h k x m hx hl);have CR:=qH (remove_any h k x m hx);clear h hx hl;unfold ptrV at *
 by_cases hc:cont.toList = []
 ·
  have HE:Hid (endsN n k x cont=remN n k):=qH (by unfold endsN;rw[if_pos hc]);have hc2:cont.toList.isEmpty=true:=by rw[hc];rfl
  rw[HE.out];go_enter Tryz.func43,Tryz.ntmps43;go_wp2_with fail;refine CR.out.mono ?_;rintro e w2 ⟨v2,a2,rfl,h2,h3,h4⟩;have D:Hid (Done w base a (remN n k) (remE k x) (.returned v2) w2):=qH ⟨v2,a2,rfl,h2,h3,h4⟩;clear h2 h3 h4 CR;go_wp2_with fail;go_ret;exact D.out
 ·
  have HE:Hid (endsN n k x cont=closeN n k x):=qH (by unfold endsN;rw[if_neg hc]);have hc2:cont.toList.isEmpty=false:=by rw[List.isEmpty_eq_false_iff];exact hc
  rw[HE.out];go_enter Tryz.func43,Tryz.ntmps43;go_wp2_with fail;refine CC.out.mono ?_;rintro e w2 ⟨v2,a2,rfl,h2,h3,h4⟩;have D:Hid (Done w base a (closeN n k x) (remE k x) (.returned v2) w2):=qH ⟨v2,a2,rfl,h2,h3,h4⟩;clear h2 h3 h4 CC;go_wp2_with fail;go_ret;exact D.out
end Go.Proofs.YtoaimoemaoinhaaGreatDoor
namespace Go.Mp
section
variable {K V:Type} [DecidableEq K]
theorem put_same {k:K} {v:V} : ∀ {l:List (K×V)},get l k=some v→put l k v=l
 | [],h=>by cases h
 | (a,u)::r,h=>by
  unfold get at h;unfold put;split at h
  ·
   rename_i e;cases h;rw[if_pos e,e]
  ·
   rename_i e;rw[if_neg e,put_same h]
end
end Go.Mp
namespace Go.Proofs.YtoaimoemaoinhaaGreatDoor
open Go.RowKit Go.Rt Go.Rw Go.Mp
def setC (n:Nd) (k:ByteArray) (x:Cx):Nd:={ n with C:=put n.C k x }
def setA (a:Nm) (k:ByteArray) (x:Cx) (m:Cm):Nm:={ a with C:=put a.C k (x,m) }
theorem NdAt.cnod {w:World} {base:Nat} {n:Nd} {a:Nm} (h:NdAt w base n a) {k:ByteArray} {x:Cx} {m:Cm} (hx:get a.C k=some (x,m)):(cfoot m).Nodup:=by
 have q:=h.nod;rw[foot_eq] at q;have q2:=(List.nodup_append.1 (List.nodup_append.1 q).2.1).1;have q3:=(perm_C a k).nodup_iff.1 q2;have e:oldC a k=cfoot m:=by unfold oldC;rw[hx];rfl
 rw[e] at q3;exact(List.nodup_append.1 q3).1
theorem NdAt.cin {w:World} {base:Nat} {n:Nd} {a:Nm} (_:NdAt w base n a) {k:ByteArray} {x:Cx} {m:Cm} (hx:get a.C k=some (x,m)):∀ b∈cfoot m,b∈foot a:=
 fun _ hb=>mem_foot.2 (.inr (.inr (.inr (.inr (.inl ⟨_,mem_get hx,hb⟩)))))
theorem set_nd {w w':World} {base:Nat} {n:Nd} {a:Nm} (h:NdAt w base n a) {k:ByteArray} {x:Cx} {m:Cm} (hx:get a.C k=some (x,m)) {F:List Nat} (o:Only F w w') (hF:∀ b∈F,b∈cfoot m) (x':Cx) (m':Cm)
  (hc:CAt w' base k x' m') (hcc:m'.c=m.c) (hnod:(cfoot m').Nodup) (hn:∀ b∈cfoot m',b∈cfoot m∨(w.heap.size≤b∧b<w'.heap.size)):NdAt w' base (setC n k x') (setA a k x' m')∧Trail w w' a (setA a k x' m'):=by
 have e:oldC a k=cfoot m:=by unfold oldC;rw[hx];rfl
 have nd:=h.nod;have hp:(foot a).Perm (cfoot m++([a.g,a.mc,a.mo,a.ml]++(fC (del a.C k)++fO a.O))):=by
  rw[foot_eq,←e];refine((((perm_C a k).append_right _).append_left _)).trans ?_;refine List.perm_iff_count.2 fun b=>?_
  simp only[List.count_append];omega
 have nd2:=hp.nodup_iff.1 nd;have off:∀ b∈[a.g,a.mc,a.mo,a.ml],b∉F:=fun b hb hF'=>(List.nodup_append.1 nd2).2.2 b (hF b hF') b (List.mem_append_left _ hb) rfl
 refine h.step (A:=cfoot m) (A':=cfoot m') (R:=[a.g,a.mc,a.mo,a.ml]++(fC (del a.C k)++fO a.O)) hp ?_ (o.mono (fun b hb=>.inl (hF b hb))) hnod hn ?_ ?_ ?_ ?_ h.eO rfl
 ·
  rw[foot_eq];refine((((perm_C' a.C k (x',m')).append_right _).append_left _)).trans ?_;show (([a.g,a.mc,a.mo,a.ml])++((cfoot m'++fC (del a.C k))++fO a.O)).Perm _;refine List.perm_iff_count.2 fun b=>?_
  simp only[List.count_append];omega
 ·
  have e2:((put a.C k (x',m')).map fun p=>(p.1,p.2.2.c))=a.C.map fun p=>(p.1,p.2.2.c):=by
   have q:=put_map (fun q:Cx×Cm=>q.2.c) k (x',m') a.C;refine q.trans ?_;refine put_same ?_;rw[get_map (fun q:Cx×Cm=>q.2.c),hx];simp[hcc]
  show PM w' a.g a.mc a.mo a.ml n.nm (n.gen:Int) n.ck n.ch n.di ((put a.C k (x',m')).map fun p=>(p.1,p.2.2.c)) _ n.L;rw[e2];exact h.pm.only o (off _ (by simp)) (off _ (by simp)) (off _ (by simp)) (off _ (by simp))
 ·
  intro q hq;rcases mem_put hq with rfl|hq
  ·
   exact .inr hc
  ·
   refine .inl ⟨mem_del hq,fun b hb=>?_⟩
   have:b∈fC (del a.C k):=mem_fC hq hb
   simp[this]
 ·
  intro q hq;refine .inl ⟨hq,fun b hb=>?_⟩
  have:b∈fO a.O:=mem_fO hq hb
  simp[this]
 ·
  show ((put a.C k (x',m')).map fun p=>(p.1,Prod.fst p.2))=put n.C k x';rw[put_map,←h.eC]
def setL (n:Nd) (k:ByteArray) (g:Int):Nd:={ n with L:=put n.L k g }
theorem lst_nd {w w':World} {base:Nat} {n:Nd} {a:Nm} (h:NdAt w base n a) (k:ByteArray) (g:Int) (o:Only [a.ml] w w') (hm:MapAt w' a.ml strK numV (put n.L k g)):NdAt w' base (setL n k g) a∧Trail w w' a a:=by
 have hsp:=h.pm.sep;refine h.step (A:=[a.ml]) (A':=[a.ml]) (R:=[a.g,a.mc,a.mo]++(fC a.C++fO a.O)) ?_ ?_ o (by simp) (fun b hb=>.inl hb) ?_ ?_ ?_ h.eC h.eO rfl
 ·
  rw[foot_eq];simp only[List.cons_append,List.nil_append];refine List.perm_iff_count.2 fun b=>?_
  simp only[List.count_cons,List.count_append];omega
 ·
  rw[foot_eq];simp only[List.cons_append,List.nil_append];refine List.perm_iff_count.2 fun b=>?_
  simp only[List.count_cons,List.count_append];omega
 ·
  exact⟨h.pm.blk.only o (by simp;omega),h.pm.cm.of_heap (o.block _ h.pm.cm.lt (by simp;omega)),h.pm.om.of_heap (o.block _ h.pm.om.lt (by simp;omega)),hm,hsp⟩
 ·
  intro q hq;refine .inl ⟨hq,fun b hb=>?_⟩
  have:b∈fC a.C:=mem_fC hq hb
  simp[this]
 ·
  intro q hq;refine .inl ⟨hq,fun b hb=>?_⟩
  have:b∈fO a.O:=mem_fO hq hb
  simp[this]
theorem getS (a:Nm) (k:ByteArray) (x:Cx) (m:Cm):get (setA a k x m).C k=some (x,m):=get_put _ _ _
end Go.Proofs.YtoaimoemaoinhaaGreatDoor
