/- PeersX: a part of the proof. No condition beyond the premises of each theorem. -/
import Derived.Test.YtoaimoemaoinhaaGreatDoorQp16
import Derived.Test.YtoaimoemaoinhaaGreatDoorQp00
set_option maxRecDepth 100000
namespace Go.Proofs.YtoaimoemaoinhaaGreatDoor
open Go.RowKit Go.Rt Go.Rw
def okT (t:Tm):Prop:=fitT t∧cnt t≤6000
theorem headB_len (f:Fl) (h:fitF f) (n:Nat):(headB f n).length≤600100:=by
 obtain⟨⟨h1,h2,h3⟩,_,hn,_,ha,_⟩:=h;have i1:=intB_len f.n hn;have i2:=intB_len f.ar ha;unfold headB
 repeat' split
 all_goals (simp[num4_len,num2_len,atomB_len];try omega)
mutual
theorem codeT_len : ∀ t,fitT t→(codeT t).length≤cnt t*600100
 | .mk f l,h=>by
  rw[fitT] at h;have h1:=headB_len f h.1 l.length;have h2:=codeL_len l h.2;rw[codeT,cnt,List.length_append];omega
theorem codeL_len : ∀ l,fitL l→(codeL l).length≤cntL l*600100
 | [],_=>by simp[codeL]
 | t::r,h=>by
  rw[fitL] at h;have h1:=codeT_len t h.1;have h2:=codeL_len r h.2;rw[codeL,cntL,List.length_append];omega
end
mutual
theorem bulk_cnt : ∀ t,bulk t+1≤cnt t*302
 | .mk f l=>by
  have:=bulkL_cnt l
  rw[bulk,cnt];omega
theorem bulkL_cnt : ∀ l,bulkL l+l.length≤cntL l*302
 | []=>by simp[bulkL]
 | t::r=>by
  have h1:=bulk_cnt t;have h2:=bulkL_cnt r;rw[bulkL,cntL,List.length_cons];omega
end
theorem okT.bulk {t:Tm} (h:okT t):bulk t≤4611686018427387904:=by have:=bulk_cnt t;have:=h.2;omega
theorem okT.code {t:Tm} (h:okT t):(codeT t).length≤3600600000:=by have:=codeT_len t h.1;have:=h.2;omega
def putS (t:Tm):ByteArray:=if validB t then ⟨(131::codeT t).toArray⟩ else ⟨#[]⟩
def putE (t:Tm):Int:=if validB t then 0 else 2
set_option maxHeartbeats 2000000 in
theorem put_any (t:Tm) (x:Ft) (w:World) (hx:TmAt (fun b=>b<w.heap.size) w t x) (hok:okT t) :
  Calls Tryz.prog 62 #[ftV x] w fun e w'=>e = .returned (.tuple #[.string (putS t),.int .i64 (putE t)])∧Below w.heap.size w w':=by
 have hcl:=hok.code;have CV:=qH (fun(W:World) (hb:Below w.heap.size w W)=>valid_any (fun b=>b<w.heap.size) t x W (hx.below hb (fun _ _ h=>h)) hok.1 hok.bulk);have HX:=qH hx;have CT:=qH (fun(hv:validB t=true) (b:Nat) (hb:w.heap.size≤b)=>wterm_any (fun b=>b<w.heap.size) b b (fun c hc=>by omega) t hok.1 (by unfold validB at hv;rw[Bool.and_eq_true] at hv;exact hv.1));obtain⟨_,sa,cap,v1⟩:=hx.its.2.form
 obtain⟨xf,xv⟩:=x;dsimp only at v1;subst v1;generalize t.l.length=len at *;unfold putS putE;obtain⟨V,hV⟩:∃ V,V=validB t:=⟨_,rfl⟩;rw[←hV] at CV CT ⊢;have HCL:=qH hcl;clear hx hok hV;have BX0:=qH (Blk.new w 48 #[.int .i64 xf.k,.int .i64 xf.n,.int .i64 xf.g,.string xf.nm,.string xf.fn,.int .i64 xf.ar,.slice sa len cap,.string xf.bs,.int .i64 xf.bt]);unfold ftV at CV ⊢;cases V with
 | false=>
  rw[if_neg (by decide),if_neg (by decide)];go_enter Tryz.func62,Tryz.ntmps62;go_wp2_with fail;refine(CV.out _ ((Below.refl _ _).alloc (Nat.le_refl _) _)).mono ?_;rintro e w1 ⟨rfl,b1⟩;have B1:=qH (((Below.refl w.heap.size w).alloc (Nat.le_refl _) _).trans (b1.mono (Nat.le_of_lt BX0.out.lt)));clear b1 CV;go_wp2_with fail;refine bodyPost_ret (v:=.tuple #[.string ⟨#[]⟩,.int .i64 2]) (by simp[results,Tryz.results62,go_sem]) rfl ⟨rfl,B1.out⟩
 | true=>
  rw[if_pos rfl,if_pos rfl];go_enter Tryz.func62,Tryz.ntmps62;go_wp2_with fail;refine(CV.out _ ((Below.refl _ _).alloc (Nat.le_refl _) _)).mono ?_;rintro e w1 ⟨rfl,b1⟩;have B1:=qH (((Below.refl w.heap.size w).alloc (Nat.le_refl _) _).trans (b1.mono (Nat.le_of_lt BX0.out.lt)));have X1:=qH (BX0.out.below b1 BX0.out.lt);have W2:=qH (Wr.new w1);have X2:=qH (X1.out.alloc (.cells #[.pointer none,.slice none 0 0] 187))
  have B2:=qH (B1.out.alloc B1.out.size (.cells #[.pointer none,.slice none 0 0] 187));have HG:Hid (w.heap.size<w1.heap.size):=qH X1.out.lt;clear b1 CV BX0;go_upto_region 4 with fail
  generalize w1.alloc (.cells #[.pointer none,.slice none 0 0] 187)=w2 at W2 X2 B2 ⊢;generalize w1.heap.size=b at W2 HG ⊢;clear X1 B1;go_wp2_with fail;refine(lit_any [131] W2.out _ 1 rfl (by simp[Lib.byteCells]) (by simp) (by simp)).mono ?_;rintro e w3 ⟨rfl,q3,f3,_⟩;have W3:=qH q3.wr;have X3:=qH (f3.blk X2.out (by have:=HG.out;omega) (by decide));have B3:=qH (B2.out.trans (f3.below.mono (by have:=HG.out;omega)))
  clear q3 f3 W2 X2 B2;have x0:w3.cell? ⟨w.heap.size,0,none⟩=some (.int .i64 xf.k):=X3.out.cell 0;have x1:w3.cell? ⟨w.heap.size,1,none⟩=some (.int .i64 xf.n):=X3.out.cell 1;have x2:w3.cell? ⟨w.heap.size,2,none⟩=some (.int .i64 xf.g):=X3.out.cell 2;have x3:w3.cell? ⟨w.heap.size,3,none⟩=some (.string xf.nm):=X3.out.cell 3;have x4:w3.cell? ⟨w.heap.size,4,none⟩=some (.string xf.fn):=X3.out.cell 4;have x5:w3.cell? ⟨w.heap.size,5,none⟩=some (.int .i64 xf.ar):=X3.out.cell 5
  have x6:w3.cell? ⟨w.heap.size,6,none⟩=some (.slice sa len cap):=X3.out.cell 6;have x7:w3.cell? ⟨w.heap.size,7,none⟩=some (.string xf.bs):=X3.out.cell 7;have x8:w3.cell? ⟨w.heap.size,8,none⟩=some (.int .i64 xf.bt):=X3.out.cell 8;go_wp2_with fail;clear x0 x1 x2 x3 x4 x5 x6 x7 x8 X3;refine(CT.out trivial b (by have:=HG.out;omega) ⟨xf,.slice sa len cap⟩ w3 ([] ++ [131]) (HX.out.below B3.out (fun _ _ h=>h)) W3.out (by have:=HCL.out;simp;omega)).mono ?_
  rintro e w4 ⟨rfl,q4,f4⟩;have W4:=qH q4;have B4:=qH (B3.out.trans (f4.below.mono (by have:=HG.out;omega)));clear q4 f4 W3 B3 CT;go_wp2_with fail;refine(string_any W4.out (by simp)).mono ?_;rintro e w5 ⟨rfl,b5⟩;have B5:=qH (B4.out.trans (b5.mono (by have:=HG.out;omega)));clear b5 W4 B4;go_wp2_with fail;refine bodyPost_ret (v:=.tuple #[.string ⟨([] ++ [131]++codeT t).toArray⟩,.int .i64 0]) (by simp[results,Tryz.results62,go_sem]) rfl ⟨rfl,B5.out⟩
def refusal : List PanicEntry:=[{ v:=.iface 192 (.agg #[]),recovered:=false }]
theorem demand_any (p:Value) (c:Bool) (w:World) :
  Calls Tryz.prog 124 #[p,.bool c] w fun e w'=>(if c then e = .returned (.tuple #[]) else e = .panicked refusal)∧w=w':=by
 cases c with
 | false=>
  go_enter Tryz.func124,Tryz.ntmps124;go_wp2_with fail;exact⟨rfl,rfl,rfl⟩
 | true=>
  go_enter Tryz.func124,Tryz.ntmps124;go_wp2_with fail;go_end0;exact⟨rfl,rfl⟩
def Rd (s:ByteArray) (rb:Nat) (r:List UInt8) (p:Nat) (w:World):Prop:=
 ∃ at':Nat,at'+r.length=s.size∧s.data.toList.drop at'=r∧Blk w rb 196 #[.string s,.int .i64 at',.int .i64 p]
theorem Rd.lt {s:ByteArray} {rb:Nat} {r:List UInt8} {p:Nat} {w:World} (h:Rd s rb r p w):rb<w.heap.size:=by
 obtain⟨_,_,_,h⟩:=h;exact h.lt
theorem Rd.below {s:ByteArray} {rb:Nat} {r:List UInt8} {p:Nat} {w w':World} (h:Rd s rb r p w) (hb:Below w.heap.size w w'):Rd s rb r p w':=by
 obtain⟨at',h1,h2,h3⟩:=h;exact⟨at',h1,h2,h3.below hb h3.lt⟩
def takeL (r:List UInt8) (n:Nat):Option (List UInt8×List UInt8):=if n≤r.length then some (r.take n,r.drop n) else none
def beN (l:List UInt8):Nat:=l.foldl (fun n c=>n*256+c.toNat) 0
def numP (r:List UInt8) (k:Nat):Option (Nat×List UInt8):=(takeL r k).map (fun a=>(beN a.1,a.2))
def RdR {α:Type} (s:ByteArray) (rb p:Nat) (P:Option (α×List UInt8)) (val:α→Value) (w:World) (e:Ending) (w':World):Prop:=
 Only [rb] w w'∧match P with
 | none=>e = .panicked refusal
 | some a=>e = .returned (val a.1)∧Rd s rb a.2 p w'
theorem extract_take (s:ByteArray) (a n:Nat):s.extract a (a+n)=⟨((s.data.toList.drop a).take n).toArray⟩:=by
 apply ByteArray.ext;rw[ByteArray.data_extract];apply Array.toList_inj.1;rw[Array.toList_extract];simp[List.extract]
set_option maxHeartbeats 2000000 in
theorem take_any {s:ByteArray} {rb p:Nat} {r:List UInt8} {w:World} (h:Rd s rb r p w) (n:Nat) (hn:n≤8589934592) (hs:s.size≤200000) :
  Calls Tryz.prog 158 #[.pointer (some ⟨rb,0,none⟩),.int .i64 n] w (RdR s rb p (takeL r n) (fun a=>.string ⟨a.toArray⟩) w):=by
 obtain⟨at',h1,h2,h3⟩:=h;have HB:=qH h3;have H1:=qH h1;have H2:=qH h2;have c0:w.cell? ⟨rb,0,none⟩=some (.string s):=h3.cell 0;have c1:w.cell? ⟨rb,1,none⟩=some (.int .i64 at'):=h3.cell 1;unfold takeL;have w1:IntKind.i64.wrap ((s.size:Int)-(at':Int))=(r.length:Int):=by rw[IntKind.wrap_i64];omega
 by_cases hle:n≤r.length
 ·
  have d:decide ((n:Int)≤(r.length:Int))=true:=decide_eq_true (by omega);have d2:decide (n≤r.length)=true:=decide_eq_true hle;rw[if_pos hle];clear h1 h2 h3;go_enter Tryz.func158,Tryz.ntmps158;go_wp2_with fail;go_still_tail 13,(by kernel_rfl);change wpList _ _ _ _ _ w.drew;have HB2:=qH (HB.out.drew);have O2:=qH (Only.drew [rb] w);generalize w.drew=w2 at HB2 O2 ⊢;clear c0 c1 HB;go_wp2_with fail;refine(demand_any _ true _).mono ?_
  rintro e w3 ⟨rfl,rfl⟩;have c1:w2.cell? ⟨rb,1,none⟩=some (.int .i64 at'):=HB2.out.cell 1;obtain⟨q,hq⟩:∃ q,q=at'+n:=⟨_,rfl⟩;have HQ:=qH hq;have w3:IntKind.i64.wrap ((at':Int)+(n:Int))=(q:Int):=by rw[IntKind.wrap_i64];have:=H1.out;omega
  clear hq;go_wp2_with (refine wpList_store_fld rfl 3 _ _ rfl rfl rb 1 _ 196 (.int .i64 (q:Int)) rfl rfl HB2.out (Nat.le_of_ble_eq_true rfl) (by kernel_rfl) rfl ?_);intro v ev;have B3:=qH (show Blk v rb 196 #[.string s,.int .i64 (q:Int),.int .i64 p] by rw[ev];exact HB2.out.set_ 1 _);have O3:=qH (show Only [rb] w v by rw[ev];exact O2.out.trans (Only.setCell w2 ⟨rb,1,none⟩ _ (by simp)));clear ev c1 HB2 O2 w3
  have hsl:∀ W,(Instr.slice 9 (.string s) (some (.int .i64 (at':Int))) (some (.int .i64 (q:Int))) none).run Tryz.prog W = .ok (.string ⟨(r.take n).toArray⟩) W:=fun W=>by
   have h1:=H1.out;have h2:=H2.out;have hq:=HQ.out;rw[run_slice_string W 9 s .i64 .i64 (at':Int) (q:Int) Tryz.underlying9 (by omega) (by omega) (by omega)]
   have:s.extract at' (at'+n)=⟨(r.take n).toArray⟩:=by rw[extract_take,h2]
   simp only[Int.toNat_natCast,hq,this]
  have c0:v.cell? ⟨rb,0,none⟩=some (.string s):=B3.out.cell 0;have c1:v.cell? ⟨rb,1,none⟩=some (.int .i64 (q:Int)):=B3.out.cell 1;have w4:IntKind.i64.wrap ((q:Int)-(n:Int))=(at':Int):=by rw[IntKind.wrap_i64];have:=H1.out;have:=HQ.out;omega
  go_wp2_with fail;go_quiet (fail);have O4:=qH (O3.out.trans (Only.drewN [rb] v nq));have B4:=qH (B3.out.drewN nq);generalize v.drewN nq=v4 at O4 B4 ⊢;clear c0 c1 hsl w4 B3 O3;go_wp2_with fail;go_ret;exact⟨O4.out,rfl,q,by have:=H1.out;have:=HQ.out;simp;omega,by rw[HQ.out,←List.drop_drop,H2.out],B4.out⟩
 ·
  have d:decide ((n:Int)≤(r.length:Int))=false:=decide_eq_false (by omega);have d2:decide (n≤r.length)=false:=decide_eq_false hle;rw[if_neg hle];clear h1 h2 h3;go_enter Tryz.func158,Tryz.ntmps158;go_wp2_with fail;go_still_tail 13,(by kernel_rfl);change wpList _ _ _ _ _ w.drew;have O2:=qH (Only.drew [rb] w);generalize w.drew=w2 at O2 ⊢;clear c0 c1 HB;go_wp2_with fail;refine(demand_any _ false _).mono ?_
  rintro e w3 ⟨rfl,rfl⟩;go_wp2_with fail;exact⟨rfl,O2.out,rfl⟩
theorem conv_string (a:List UInt8) (w:World):∃ cap W2,(convert 9 124 (.string ⟨a.toArray⟩)).run Tryz.prog w = .ok (.slice (some ⟨w.heap.size,0,none⟩) a.length cap) W2∧Below w.heap.size w W2∧w.heap.size<W2.heap.size ∧
  ∀ j (h:j<a.length),W2.cell? ⟨w.heap.size,j,none⟩=some (.int .u8 (a[j].toNat:Int)):=by
 have h:=run_bytes_of_string (P:=Tryz.prog) w 9 124 5 ⟨a.toArray⟩ Tryz.underlying9 Tryz.underlying124 Tryz.underlying5;refine⟨_,_,h,?_,?_,?_⟩
 ·
  exact((Below.refl _ _).drew).alloc (Nat.le_refl _) _
 ·
  simp
 ·
  intro j hj;have hb:=World.alloc_heap_new w.drew (.cells (bytesRow ⟨a.toArray⟩ (grownCap w (ByteArray.mk a.toArray).size 0 5)) 5 ((bytesRow ⟨a.toArray⟩ (grownCap w (ByteArray.mk a.toArray).size 0 5)).size,(bytesRow ⟨a.toArray⟩ (grownCap w (ByteArray.mk a.toArray).size 0 5)).size+1));refine(cell_at (b:=w.heap.size) hb j).trans ?_;unfold bytesRow;rw[Array.getElem?_append_left (by simpa using hj)];simp[hj]
theorem wpList_conv_run {P:Program} {w w':World} {ops:Array Oper} {rest:List Oper} {o:Oper} {a:Act} {Q:Exit→Act→World→Prop} {v v':Value}
  (hgd:o.guard=none) (src dst:TypeId) (x:Operand) (ho:o.op = .convert src dst x) (hx:a.eval x=v) (hrun:(convert src dst v).run P w = .ok v' w') (h:wpList P ops Q rest (a.put o.dst v') w'):wpList P ops Q (o::rest) a w:=by
 refine wpList_plain hgd fun K hK=>?_
 unfold Oper.wp execOp;simp only[ho,hx,Sem.run_bind,Sem.run_pure,Result.andThen_ok,hrun];exact hK _ _ h
theorem or_i64 (m d:Nat) (hm:m<16777216) (hd:d<256):bits .or .i64 ((m:Int)*256) (d:Int)=((m*256+d:Nat):Int):=by
 rw[bits_join .i64 63 (by decide) (fun n h0 h1=>by rw[IntKind.wrap_i64];omega) 8 _ _ (by omega) (by omega) (by omega) (by omega) (by omega) (by omega)];omega
theorem beN_snoc (l:List UInt8) (c:UInt8):beN (l ++ [c])=beN l*256+c.toNat:=by unfold beN;rw[List.foldl_append];rfl
theorem beN_lt (l:List UInt8):beN l<256 ^ l.length:=by
 rw[←List.reverse_reverse l];generalize l.reverse=m
 induction m with
 | nil=>simp[beN]
 | cons c m ih=>
  rw[List.reverse_cons,beN_snoc,List.length_append,List.length_cons,List.length_nil,Nat.zero_add,Nat.pow_succ]
  have:=UInt8.toNat_lt c
  omega
set_option maxHeartbeats 2000000 in
theorem number_any {s:ByteArray} {rb p:Nat} {r:List UInt8} {w:World} (h:Rd s rb r p w) (k:Nat) (hk0:1≤k) (hk:k≤4) (hs:s.size≤200000) :
  Calls Tryz.prog 156 #[.pointer (some ⟨rb,0,none⟩),.int .i64 k] w (RdR s rb p (numP r k) (fun a=>.int .i64 (a:Nat)) w):=by
 have C1:=qH (take_any h k (by omega) hs);have HRB:=qH h.lt;clear h;unfold numP;obtain⟨tk,htk⟩:∃ tk,tk=takeL r k:=⟨_,rfl⟩;rw[←htk] at C1 ⊢;unfold takeL at htk;cases tk with
 | none=>
  clear htk;go_enter Tryz.func156,Tryz.ntmps156;go_wp2_with fail;refine C1.out.mono ?_;rintro e w1 ⟨o1,rfl⟩;have O1:=qH o1;clear o1;go_wp2_with fail;exact⟨rfl,O1.out,rfl⟩
 | some q=>
  obtain⟨a,r1⟩:=q;have hal:a.length=k:=by
   split at htk
   ·
    cases htk
    simp
    omega
   ·
    cases htk
  clear htk;go_enter Tryz.func156,Tryz.ntmps156;go_wp2_with fail;refine C1.out.mono ?_;rintro e w1 ⟨o1,rfl,r1'⟩;have O1:=qH o1;have R1:=qH r1';dsimp only;obtain⟨cap,W2,hrun,hb,hlt,hcell⟩:=conv_string a w1;have HRUN:=qH hrun;have HC:=qH hcell;have O2:=qH (o1.trans (Only.of_below hb));have R2:=qH (r1'.below hb);have HG:Hid (rb≠w1.heap.size):=qH (by have:=r1'.lt;omega);clear o1 r1' hrun hb hlt hcell;rw[hal] at HRUN
  go_wp2_with (refine wpList_conv_run rfl 9 124 _ rfl rfl HRUN.out ?_);generalize w1.heap.size=g at HC HG ⊢;go_loopw [5,13] (fun n i wr=>∃ c:Nat,c≤k∧i = .int .i64 c∧n = .int .i64 (beN (a.take c):Nat)∧W2=wr) (fun _ i _=>k-(intOf i).toNat)
  case atStart=>exact⟨0,Nat.zero_le _,rfl,rfl,rfl⟩
  case round=>
   obtain⟨c,hc,rfl,rfl,rfl⟩:=hrel
   by_cases hcl:c<k
   ·
    have x0:=HC.out c (by omega);have hbl:=beN_lt (a.take c);have hbs:beN (a.take (c+1))=beN (a.take c)*256+(a[c]'(by omega)).toNat:=by
     rw[List.take_succ_eq_append_getElem (by omega),beN_snoc]
    have hcc:(a.take c).length≤3:=by rw[List.length_take];omega
    have hm3:beN (a.take c)<16777216:=Nat.lt_of_lt_of_le hbl (Nat.pow_le_pow_right (by omega) hcc);have hd3:=UInt8.toNat_lt (a[c]'(by omega));generalize beN (a.take c)=m at hbs hm3 ⊢;generalize (a[c]'(by omega)).toNat=d at x0 hbs hd3;have HBS:=qH hbs;have hor:=or_i64 m d hm3 hd3;clear hbs hbl hcc;go_wp2_with fail;go_roundw
    case rel=>exact⟨c+1,by omega,by go_num,by rw[HBS.out];rfl,trivial⟩
    case measure=>simp[intOf];omega
   ·
    have hck:c=a.length:=by omega
    rw[hck,List.take_length];obtain rfl:k=a.length:=hal.symm;go_wp2_with fail;go_ret;exact⟨O2.out,rfl,R2.out⟩
set_option maxHeartbeats 2000000 in
theorem byte_any {s:ByteArray} {rb p:Nat} {r:List UInt8} {w:World} (h:Rd s rb r p w) (hs:s.size≤200000) :
  Calls Tryz.prog 155 #[.pointer (some ⟨rb,0,none⟩)] w (RdR s rb p (numP r 1) (fun a=>.int .i64 (a:Nat)) w):=by
 have C:=qH (number_any h 1 (by omega) (by omega) hs);clear h;obtain⟨q,hq⟩:∃ q,q=numP r 1:=⟨_,rfl⟩;rw[←hq] at C ⊢;clear hq;cases q with
 | none=>
  go_enter Tryz.func155,Tryz.ntmps155;go_wp2_with fail;refine C.out.mono ?_;rintro e w1 ⟨o1,rfl⟩;have O1:=qH o1;clear o1;go_wp2_with fail;exact⟨rfl,O1.out,rfl⟩
 | some q=>
  go_enter Tryz.func155,Tryz.ntmps155;go_wp2_with fail;refine C.out.mono ?_;rintro e w1 ⟨o1,rfl,r1⟩;have O1:=qH o1;have R1:=qH r1;clear o1 r1;go_wp2_with fail;go_ret;exact⟨O1.out,rfl,R1.out⟩
def nameP (r:List UInt8):Option (List UInt8×List UInt8):=
 match numP r 1 with
 | none=>none
 | some (t,r1)=>if t=119 then (match numP r1 1 with
  | none=>none
  | some (n,r2)=>takeL r2 n) else none
theorem numP_lt {r r1:List UInt8} {k n:Nat} (h:numP r k=some (n,r1)):n<256 ^ k:=by
 unfold numP takeL at h;split at h
 ·
  rw[Option.map_some,Option.some.injEq,Prod.mk.injEq] at h;rw[←h.1]
  have:=beN_lt (r.take k)
  rw[List.length_take] at this;exact Nat.lt_of_lt_of_le this (Nat.pow_le_pow_right (by omega) (by omega))
 ·
  cases h
set_option maxHeartbeats 2000000 in
theorem rname_any {s:ByteArray} {rb p:Nat} {r:List UInt8} {w:World} (h:Rd s rb r p w) (hs:s.size≤200000) :
  Calls Tryz.prog 161 #[.pointer (some ⟨rb,0,none⟩)] w (RdR s rb p (nameP r) (fun a=>.string ⟨a.toArray⟩) w):=by
 have C:=qH (byte_any h hs);clear h;unfold nameP;cases hq:numP r 1 with
 | none=>
  rw[hq] at C;dsimp only;clear hq;go_enter Tryz.func161,Tryz.ntmps161;go_wp2_with fail;refine C.out.mono ?_;rintro e w1 ⟨o1,rfl⟩;have O1:=qH o1;clear o1;go_wp2_with fail;exact⟨rfl,O1.out,rfl⟩
 | some q=>
  obtain⟨t,r1⟩:=q;rw[hq] at C;dsimp only;clear hq
  by_cases ht:t=119
  ·
   subst ht;rw[if_pos rfl];cases hq2:numP r1 1 with
   | none=>
    dsimp only;go_enter Tryz.func161,Tryz.ntmps161;go_wp2_with fail;refine C.out.mono ?_;rintro e w1 ⟨o1,rfl,rr⟩;have O1:=qH o1;have C2:=byte_any rr hs;rw[hq2] at C2;have HC2:=qH C2;clear o1 rr C2 C hq2;go_wp2_with fail;refine(demand_any _ true _).mono ?_;rintro e w2 ⟨rfl,rfl⟩;go_wp2_with fail;refine HC2.out.mono ?_;rintro e w3 ⟨o3,rfl⟩;have O3:=qH (O1.out.trans o3);clear o3;go_wp2_with fail;exact⟨rfl,O3.out,rfl⟩
   | some q2=>
    obtain⟨n,r2⟩:=q2;dsimp only;have hn:n<256:=by have:=numP_lt hq2;simpa using this
    obtain⟨tk,htk⟩:∃ tk,tk=takeL r2 n:=⟨_,rfl⟩;rw[←htk];have HTK:=qH htk;clear htk;go_enter Tryz.func161,Tryz.ntmps161;go_wp2_with fail;refine C.out.mono ?_;rintro e w1 ⟨o1,rfl,rr⟩;have O1:=qH o1;have C2:=byte_any rr hs;rw[hq2] at C2;have HC2:=qH C2;clear o1 rr C2 C hq2;go_wp2_with fail;refine(demand_any _ true _).mono ?_;rintro e w2 ⟨rfl,rfl⟩;go_wp2_with fail;refine HC2.out.mono ?_;rintro e w3 ⟨o3,rfl,rr3⟩
    have O3:=qH (O1.out.trans o3);have C3:=take_any rr3 n (by omega) hs;rw[←HTK.out] at C3;have HC3:=qH C3;clear o3 rr3 C3 HC2 O1;cases tk with
    | none=>
     go_wp2_with fail;refine HC3.out.mono ?_;rintro e w4 ⟨o4,rfl⟩;have O4:=qH (O3.out.trans o4);clear o4;go_wp2_with fail;exact⟨rfl,O4.out,rfl⟩
    | some a=>
     go_wp2_with fail;refine HC3.out.mono ?_;rintro e w4 ⟨o4,rfl,rr4⟩;have O4:=qH (O3.out.trans o4);have R4:=qH rr4;clear o4 rr4;go_wp2_with fail;go_ret;exact⟨O4.out,rfl,R4.out⟩
  ·
   rw[if_neg ht];have d:((t:Int)==119)=false:=by rw[beq_eq_false_iff_ne];omega
   clear ht;go_enter Tryz.func161,Tryz.ntmps161;go_wp2_with fail;refine C.out.mono ?_;rintro e w1 ⟨o1,rfl,_⟩;have O1:=qH o1;clear o1 C;go_wp2_with fail;refine(demand_any _ false _).mono ?_;rintro e w2 ⟨rfl,rfl⟩;go_wp2_with fail;exact⟨rfl,O1.out,rfl⟩
def leN : List UInt8→Nat
 | []=>0
 | c::t=>c.toNat+256*leN t
def lastZ (b:List UInt8):Bool:=decide ((b.getD (b.length-1) 0).toNat=0)
def largeP (r:List UInt8):Option (Int×List UInt8):=
 match numP r 1 with
 | none=>none
 | some (n,r1)=>match numP r1 1 with
  | none=>none
  | some (sg,r2)=>if 4≤n∧n≤8∧sg≤1 then (match takeL r2 n with
   | none=>none
   | some (b,r3)=>if lastZ b then none else if sg=1 then (if leN b≤9223372036854775808∧2147483648<leN b then some (-(leN b:Int),r3) else none)
    else (if leN b<9223372036854775808∧2147483648≤leN b then some ((leN b:Int),r3) else none)) else none
def bA (l:List UInt8):ByteArray:=⟨l.toArray⟩
def intT (n:Int):Tm:=.mk ⟨1,n,0,noB,noB,0,noB,0⟩ []
def toI32 (n:Nat):Int:=if n<2147483648 then n else (n:Int)-4294967296
abbrev Pr (α:Type):=Option (α×Nat×List UInt8)
def itemsP (T:Nat→List UInt8→Pr Tm):Nat→Nat→List UInt8→Pr (List Tm)
 | 0,p,r=>some ([],p,r)
 | n+1,p,r=>match T p r with
  | none=>none
  | some (t,p1,r1)=>match itemsP T n p1 r1 with
   | none=>none
   | some (ts,p2,r2)=>some (t::ts,p2,r2)
def itemsQ (T:Nat→List UInt8→Pr Tm) (n p:Nat) (r:List UInt8):Pr (List Tm):=if n≤2000 then itemsP T n p r else none
def p97 (p:Nat) (r:List UInt8):Pr Tm:=match numP r 1 with
 | none=>none
 | some (n,r1)=>some (intT n,p,r1)
def p98 (p:Nat) (r:List UInt8):Pr Tm:=match numP r 4 with
 | none=>none
 | some (n,r1)=>if toI32 n<0∨255<toI32 n then some (intT (toI32 n),p,r1) else none
def p110 (p:Nat) (r:List UInt8):Pr Tm:=match largeP r with
 | none=>none
 | some (n,r1)=>some (intT n,p,r1)
def p119 (p:Nat) (r:List UInt8):Pr Tm:=match numP r 1 with
 | none=>none
 | some (n,r1)=>match takeL r1 n with
  | none=>none
  | some (a,r2)=>some (.mk ⟨2,0,0,bA a,noB,0,noB,0⟩ [],p,r2)
def p104 (T:Nat→List UInt8→Pr Tm) (p:Nat) (r:List UInt8):Pr Tm:=match numP r 1 with
 | none=>none
 | some (n,r1)=>match itemsQ T n p r1 with
  | none=>none
  | some (ts,p2,r2)=>some (.mk ⟨7,0,0,noB,noB,0,noB,0⟩ ts,p2,r2)
def p106 (p:Nat) (r:List UInt8):Pr Tm:=some (.mk ⟨8,0,0,noB,noB,0,noB,0⟩ [],p,r)
def p108 (T:Nat→List UInt8→Pr Tm) (p:Nat) (r:List UInt8):Pr Tm:=match numP r 4 with
 | none=>none
 | some (n,r1)=>match itemsQ T (n+1) p r1 with
  | none=>none
  | some (ts,p2,r2)=>some (.mk ⟨9,0,0,noB,noB,0,noB,0⟩ ts,p2,r2)
def p109 (p:Nat) (r:List UInt8):Pr Tm:=match numP r 4 with
 | none=>none
 | some (n,r1)=>match takeL r1 n with
  | none=>none
  | some (a,r2)=>some (.mk ⟨10,0,0,noB,noB,0,bA a,8*(a.length:Int)⟩ [],p,r2)
def p77 (p:Nat) (r:List UInt8):Pr Tm:=match numP r 4 with
 | none=>none
 | some (n,r1)=>match numP r1 1 with
  | none=>none
  | some (k,r2)=>if 0<n∧0<k∧k<8 then (match takeL r2 n with
   | none=>none
   | some (a,r3)=>some (.mk ⟨10,0,0,noB,noB,0,bA a,8*((n:Int)-1)+k⟩ [],p,r3)) else none
def p88 (p:Nat) (r:List UInt8):Pr Tm:=match nameP r with
 | none=>none
 | some (a,r1)=>match numP r1 4 with
  | none=>none
  | some (n,r2)=>match numP r2 4 with
   | none=>none
   | some (z,r3)=>if z=0 then (match numP r3 4 with
    | none=>none
    | some (g,r4)=>some (.mk ⟨6,n,g,bA a,noB,0,noB,0⟩ [],p,r4)) else none
def p90 (p:Nat) (r:List UInt8):Pr Tm:=match numP r 2 with
 | none=>none
 | some (z,r1)=>if z=1 then (match nameP r1 with
  | none=>none
  | some (a,r2)=>match numP r2 4 with
   | none=>none
   | some (g,r3)=>match numP r3 4 with
    | none=>none
    | some (n,r4)=>some (.mk ⟨3,n,g,bA a,noB,0,noB,0⟩ [],p,r4)) else none
def p113 (p:Nat) (r:List UInt8):Pr Tm:=match nameP r with
 | none=>none
 | some (a,r1)=>match nameP r1 with
  | none=>none
  | some (f,r2)=>match numP r2 1 with
   | none=>none
   | some (z,r3)=>if z=97 then (match numP r3 1 with
    | none=>none
    | some (k,r4)=>some (.mk ⟨5,0,0,bA a,bA f,k,noB,0⟩ [],p,r4)) else none
def p112 (T:Nat→List UInt8→Pr Tm) (p:Nat) (r:List UInt8):Pr Tm:=match numP r 1 with
 | none=>none
 | some (k,r1)=>match numP r1 2 with
  | none=>none
  | some (n,r2)=>match numP r2 1 with
   | none=>none
   | some (c,r3)=>match nameP r3 with
    | none=>none
    | some (a,r4)=>match numP r4 4 with
     | none=>none
     | some (g,r5)=>match itemsQ T c p r5 with
      | none=>none
      | some (ts,p2,r6)=>some (.mk ⟨4,n,g,bA a,noB,k,noB,0⟩ ts,p2,r6)
def funP (T:Nat→List UInt8→Pr Tm) (p tag:Nat) (r:List UInt8):Pr Tm:=if tag=113 then p113 p r else if tag=112 then p112 T p r else none
def tagP (T:Nat→List UInt8→Pr Tm) (p tag:Nat) (r:List UInt8):Pr Tm:=
 if tag=97 then p97 p r else if tag=98 then p98 p r else if tag=110 then p110 p r else if tag=119 then p119 p r else if tag=104 then p104 T p r else if tag=106 then p106 p r
 else if tag=108 then p108 T p r else if tag=109 then p109 p r else if tag=77 then p77 p r else if tag=88 then p88 p r else if tag=90 then p90 p r else funP T p tag r
def bodyP (T:Nat→List UInt8→Pr Tm) (p:Nat) (r:List UInt8):Pr Tm:=match numP r 1 with
 | none=>none
 | some (tag,r1)=>tagP T p tag r1
def termP : Nat→Nat→List UInt8→Pr Tm
 | 0,_,_=>none
 | d+1,p,r=>if p<2000 then bodyP (termP d) (p+1) r else none
theorem leN_lt (l:List UInt8):leN l<256 ^ l.length:=by
 induction l with
 | nil=>simp[leN]
 | cons c t ih=>
  have:=UInt8.toNat_lt c
  rw[leN,List.length_cons,Nat.pow_succ];omega
theorem or_u64 (m d:Nat) (hm:m<72057594037927936) (hd:d<256):bits .or .u64 ((m:Int)*256) (d:Int)=((m*256+d:Nat):Int):=by
 rw[bits_join .u64 64 (by decide) (fun n h0 h1=>by rw[IntKind.wrap_u64];omega) 8 _ _ (by omega) (by omega) (by omega) (by omega) (by omega) (by omega)];omega
theorem index_byte (b:List UInt8) (k:Nat) (hk:k<b.length) (W:World):(Instr.index 9 (.string ⟨b.toArray⟩) (.int .i64 (k:Int))).run Tryz.prog W = .ok (.int .u8 ((b[k]'hk).toNat:Int)) W:=by
 have h1:k<(ByteArray.mk b.toArray).size:=by show k<b.toArray.size;simpa using hk
 rw[run_index_string W 9 _ .i64 _ Tryz.underlying9,dif_pos (by omega)]
 have:((ByteArray.mk b.toArray)[k]'h1)=b[k]'hk:=by
  show b.toArray[k]'(by simpa using hk)=_
  simp
 simp only[Int.toNat_natCast,this]
theorem takeL_len {r a r1:List UInt8} {n:Nat} (h:takeL r n=some (a,r1)):a.length=n∧r=a++r1:=by
 unfold takeL at h;split at h
 ·
  cases h;exact⟨by rw[List.length_take];omega,(List.take_append_drop n r).symm⟩
 ·
  cases h
theorem lastZ_eq (b:List UInt8) (n:Nat) (h:b.length=n) (hn:0<n):lastZ b=decide ((b[n-1]'(by omega)).toNat=0):=by
 subst h;unfold lastZ;rw[List.getD_eq_getElem?_getD,List.getElem?_eq_getElem (by omega)];rfl
set_option maxHeartbeats 2000000 in
theorem large_any {s:ByteArray} {rb p:Nat} {r0:List UInt8} {w:World} (h:Rd s rb r0 p w) (hs:s.size≤200000) :
  Calls Tryz.prog 157 #[.pointer (some ⟨rb,0,none⟩)] w (RdR s rb p (largeP r0) (fun a=>.int .i64 a) w):=by
 have R0:=qH h;have O0:=qH (Only.refl [rb] w);obtain⟨P,hP⟩:∃ P,P=largeP r0:=⟨_,rfl⟩;rw[←hP];have HP:=qH hP;clear h hP;go_enter Tryz.func157,Tryz.ntmps157;cases hq0:numP r0 1 with
 | none=>
  have HC:=qH (byte_any R0.out hs);rw[hq0] at HC;have E0:=qH hq0;clear hq0;obtain rfl:P=none:=by
    rw[HP.out];unfold largeP;rw[E0.out]
  clear HP;go_wp2_with fail;refine HC.out.mono ?_;rintro e vx ⟨ox,rfl⟩;have OX:=qH (O0.out.trans ox);clear ox;go_wp2_with fail;exact⟨rfl,OX.out,rfl⟩
 | some q=>
  obtain⟨n0,r1⟩:=q;have hn0:=numP_lt hq0;have HC:=qH (byte_any R0.out hs);rw[hq0] at HC;have E0:=qH hq0;clear hq0;go_wp2_with fail;refine HC.out.mono ?_;rintro e v1 ⟨ox,rfl,rx⟩;have O1:=qH (O0.out.trans ox);have R1:=qH rx;clear ox rx HC R0;cases hq1:numP r1 1 with
  | none=>
   have HC:=qH (byte_any R1.out hs);rw[hq1] at HC;have E1:=qH hq1;clear hq1;obtain rfl:P=none:=by
     rw[HP.out];unfold largeP;rw[E0.out];dsimp only;rw[E1.out]
   clear HP;go_wp2_with fail;refine HC.out.mono ?_;rintro e vx ⟨ox,rfl⟩;have OX:=qH (O1.out.trans ox);clear ox;go_wp2_with fail;exact⟨rfl,OX.out,rfl⟩
  | some q=>
   obtain⟨n1,r2⟩:=q;have hn1:=numP_lt hq1;have HC:=qH (byte_any R1.out hs);rw[hq1] at HC;have E1:=qH hq1;clear hq1;go_wp2_with fail;refine HC.out.mono ?_;rintro e v2 ⟨ox,rfl,rx⟩;have O2:=qH (O1.out.trans ox);have R2:=qH rx;clear ox rx HC R1
   by_cases hc:4≤n0∧n0≤8∧n1≤1
   ·
    have C2:=qH hc;obtain⟨h4,h8,h9⟩:=hc;have hc8:n0≤8:=h8;have d1:decide (4≤n0)=true:=decide_eq_true h4;have d1i:decide ((4:Int)≤n0)=true:=decide_eq_true (by omega);have d2:decide (n0≤8)=true:=decide_eq_true h8;have d2i:decide ((n0:Int)≤8)=true:=decide_eq_true (by omega);have d3:decide ((n1:Int)≤1)=true:=decide_eq_true (by omega);go_wp2_with fail;refine(demand_any _ true _).mono ?_;rintro e vy ⟨rfl,rfl⟩
    cases hq2:takeL r2 n0 with
    | none=>
     have HC:=qH (take_any R2.out n0 (by omega) hs);rw[hq2] at HC;have E2:=qH hq2;clear hq2;obtain rfl:P=none:=by
       rw[HP.out];unfold largeP;rw[E0.out];dsimp only;rw[E1.out];dsimp only;rw[if_pos C2.out];rw[E2.out]
     clear HP;go_wp2_with fail;refine HC.out.mono ?_;rintro e vx ⟨ox,rfl⟩;have OX:=qH (O2.out.trans ox);clear ox;go_wp2_with fail;exact⟨rfl,OX.out,rfl⟩
    | some q=>
     obtain⟨a2,r3⟩:=q;have hl2:=takeL_len hq2;have HC:=qH (take_any R2.out n0 (by omega) hs);rw[hq2] at HC;have E2:=qH hq2;clear hq2;go_wp2_with fail;refine HC.out.mono ?_;rintro e v3 ⟨ox,rfl,rx⟩;have O3:=qH (O2.out.trans ox);have R3:=qH rx;clear ox rx HC R2;obtain⟨hln,_⟩:=hl2;have e1:IntKind.i64.wrap ((n0:Int)-1)=((n0-1:Nat):Int):=by rw[IntKind.wrap_i64];omega
     have hx:=fun W=>index_byte a2 (n0-1) (by omega) W
     have hz:lastZ a2=decide ((a2[n0-1]'(by omega)).toNat=0):=by
      exact lastZ_eq a2 n0 hln (by omega)
     have HZ:=qH hz;have hd3:=UInt8.toNat_lt (a2[n0-1]'(by omega));generalize (a2[n0-1]'(by omega)).toNat=d at hx HZ hd3;clear hz
     by_cases hd:d=0
     ·
      subst hd;obtain rfl:P=none:=by
        rw[HP.out];unfold largeP;rw[E0.out];dsimp only;rw[E1.out];dsimp only;rw[if_pos C2.out];rw[E2.out];dsimp only;rw[HZ.out];rfl
      clear HP;go_wp2_with fail;refine(demand_any _ false _).mono ?_;rintro e vy ⟨rfl,rfl⟩;go_wp2_with fail;exact⟨rfl,O3.out,rfl⟩
     ·
      have HZ2:Hid (lastZ a2=false):=qH (by rw[HZ.out];exact decide_eq_false hd);have hne:((d:Int) != 0)=true:=by rw[bne_iff_ne];omega
      clear HZ;go_wp2_with fail;refine(demand_any _ true _).mono ?_;rintro e vy ⟨rfl,rfl⟩;clear hx;go_wp2_with fail;go_loopw [6,7] (fun u i wr=>∃ c:Nat,c≤n0∧i = .int .i64 ((c:Int)-1)∧u = .int .u64 (leN (a2.drop c):Nat)∧v3=wr) (fun _ i _=>(intOf i+1).toNat)
      case atStart=>exact⟨n0,Nat.le_refl _,by congr 1;omega,by rw[List.drop_eq_nil_of_le (by omega)];rfl,rfl⟩
      case round=>
       obtain⟨c,hc,rfl,rfl,rfl⟩:=hrel
       by_cases hc0:0<c
       ·
        obtain⟨j,rfl⟩:∃ j,c=j+1:=⟨c-1,by omega⟩;have hji:(((j+1:Nat):Int)-1)=(j:Int):=by omega
        rw[hji];have hx:=fun W=>index_byte a2 j (by omega) W
        have hdr:a2.drop j=(a2[j]'(by omega))::a2.drop (j+1):=List.drop_eq_getElem_cons (by omega);have hle:leN (a2.drop j)=(a2[j]'(by omega)).toNat+256*leN (a2.drop (j+1)):=by rw[hdr];rfl
        have hll:=leN_lt (a2.drop (j+1));have hl7:(a2.drop (j+1)).length≤7:=by rw[List.length_drop];omega
        have hm7:leN (a2.drop (j+1))<72057594037927936:=Nat.lt_of_lt_of_le hll (Nat.pow_le_pow_right (by omega) hl7);have hdj:=UInt8.toNat_lt (a2[j]'(by omega));have HLE:=qH hle;generalize leN (a2.drop (j+1))=m at HLE hm7 ⊢;generalize (a2[j]'(by omega)).toNat=dj at hx HLE hdj;have hor:=or_u64 m dj hm7 hdj;clear hdr hle hll hl7;go_wp2_with fail;go_roundw
        case rel=>exact⟨j,by omega,rfl,by rw[HLE.out];exact congrArg _ (by omega),trivial⟩
        case measure=>simp[intOf]
       ·
        obtain rfl:c=0:=by omega
        rw[List.drop_zero];have HU:=qH (leN_lt a2);have hU8:leN a2<18446744073709551616:=Nat.lt_of_lt_of_le (leN_lt a2) (by rw[hln];exact Nat.pow_le_pow_right (by omega) hc8);obtain⟨U,hUe⟩:∃ U,U=leN a2:=⟨_,rfl⟩;have HUE:=qH hUe;rw[←hUe] at hU8 ⊢;clear hUe HU
        by_cases hs1:n1=1
        ·
         subst hs1
         by_cases ha:U≤9223372036854775808
         ·
          by_cases hb:2147483648<U
          ·
           obtain rfl:P=some (-(U:Int),r3):=by
             rw[HP.out];unfold largeP;rw[E0.out];dsimp only;rw[E1.out];dsimp only;rw[if_pos C2.out];rw[E2.out];dsimp only;rw[HZ2.out,if_neg (by decide),if_pos rfl,←HUE.out,if_pos ⟨ha,hb⟩]
           clear HP;have d1:decide (U≤9223372036854775808)=true:=decide_eq_true ha;have d1i:decide ((U:Int)≤9223372036854775808)=true:=decide_eq_true (by omega);have d2:decide (2147483648<U)=true:=decide_eq_true hb;have d2i:decide (2147483648<(U:Int))=true:=decide_eq_true (by omega);have hng:IntKind.u64.wrap (-(U:Int))=18446744073709551616-(U:Int):=by rw[IntKind.wrap_u64];omega
           have hng2:IntKind.i64.wrap (18446744073709551616-(U:Int)) = -(U:Int):=by rw[IntKind.wrap_i64];omega
           go_wp2_with fail;refine(demand_any _ true _).mono ?_;rintro e vy ⟨rfl,rfl⟩;go_wp2_with fail;go_ret;exact⟨O3.out,rfl,R3.out⟩
          ·
           obtain rfl:P=none:=by
             rw[HP.out];unfold largeP;rw[E0.out];dsimp only;rw[E1.out];dsimp only;rw[if_pos C2.out];rw[E2.out];dsimp only;rw[HZ2.out,if_neg (by decide),if_pos rfl,←HUE.out,if_neg (by omega)]
           clear HP;have d1:decide (U≤9223372036854775808)=true:=decide_eq_true ha;have d1i:decide ((U:Int)≤9223372036854775808)=true:=decide_eq_true (by omega);have d2:decide (2147483648<U)=false:=decide_eq_false hb;have d2i:decide (2147483648<(U:Int))=false:=decide_eq_false (by omega);go_wp2_with fail;refine(demand_any _ false _).mono ?_;rintro e vy ⟨rfl,rfl⟩;go_wp2_with fail;exact⟨rfl,O3.out,rfl⟩
         ·
          obtain rfl:P=none:=by
            rw[HP.out];unfold largeP;rw[E0.out];dsimp only;rw[E1.out];dsimp only;rw[if_pos C2.out];rw[E2.out];dsimp only;rw[HZ2.out,if_neg (by decide),if_pos rfl,←HUE.out,if_neg (by omega)]
          clear HP;have d1:decide (U≤9223372036854775808)=false:=decide_eq_false ha;have d1i:decide ((U:Int)≤9223372036854775808)=false:=decide_eq_false (by omega);go_wp2_with fail;refine(demand_any _ false _).mono ?_;rintro e vy ⟨rfl,rfl⟩;go_wp2_with fail;exact⟨rfl,O3.out,rfl⟩
        ·
         obtain rfl:n1=0:=by omega
         clear hs1
         by_cases ha:U<9223372036854775808
         ·
          by_cases hb:2147483648≤U
          ·
           obtain rfl:P=some ((U:Int),r3):=by
             rw[HP.out];unfold largeP;rw[E0.out];dsimp only;rw[E1.out];dsimp only;rw[if_pos C2.out];rw[E2.out];dsimp only;rw[HZ2.out,if_neg (by decide),if_neg (by decide),←HUE.out,if_pos ⟨ha,hb⟩]
           clear HP;have d1:decide (U<9223372036854775808)=true:=decide_eq_true ha;have d1i:decide ((U:Int)<9223372036854775808)=true:=decide_eq_true (by omega);have d2:decide (2147483648≤U)=true:=decide_eq_true hb;have d2i:decide (2147483648≤(U:Int))=true:=decide_eq_true (by omega);go_wp2_with fail;refine(demand_any _ true _).mono ?_;rintro e vy ⟨rfl,rfl⟩;go_wp2_with fail;go_ret;exact⟨O3.out,rfl,R3.out⟩
          ·
           obtain rfl:P=none:=by
             rw[HP.out];unfold largeP;rw[E0.out];dsimp only;rw[E1.out];dsimp only;rw[if_pos C2.out];rw[E2.out];dsimp only;rw[HZ2.out,if_neg (by decide),if_neg (by decide),←HUE.out,if_neg (by omega)]
           clear HP;have d1:decide (U<9223372036854775808)=true:=decide_eq_true ha;have d1i:decide ((U:Int)<9223372036854775808)=true:=decide_eq_true (by omega);have d2:decide (2147483648≤U)=false:=decide_eq_false hb;have d2i:decide (2147483648≤(U:Int))=false:=decide_eq_false (by omega);go_wp2_with fail;refine(demand_any _ false _).mono ?_;rintro e vy ⟨rfl,rfl⟩;go_wp2_with fail;exact⟨rfl,O3.out,rfl⟩
         ·
          obtain rfl:P=none:=by
            rw[HP.out];unfold largeP;rw[E0.out];dsimp only;rw[E1.out];dsimp only;rw[if_pos C2.out];rw[E2.out];dsimp only;rw[HZ2.out,if_neg (by decide),if_neg (by decide),←HUE.out,if_neg (by omega)]
          clear HP;have d1:decide (U<9223372036854775808)=false:=decide_eq_false ha;have d1i:decide ((U:Int)<9223372036854775808)=false:=decide_eq_false (by omega);go_wp2_with fail;refine(demand_any _ false _).mono ?_;rintro e vy ⟨rfl,rfl⟩;go_wp2_with fail;exact⟨rfl,O3.out,rfl⟩
   ·
    have C2:=qH hc;obtain rfl:P=none:=by
      rw[HP.out];unfold largeP;rw[E0.out];dsimp only;rw[E1.out];dsimp only;rw[if_neg C2.out]
    clear HP
    by_cases h4:4≤n0
    ·
     by_cases h8:n0≤8
     ·
      have h9:¬n1≤1:=fun h=>hc ⟨h4,h8,h⟩
      have d1:decide (4≤n0)=true:=decide_eq_true h4;have d1i:decide ((4:Int)≤n0)=true:=decide_eq_true (by omega);have d2:decide (n0≤8)=true:=decide_eq_true h8;have d2i:decide ((n0:Int)≤8)=true:=decide_eq_true (by omega);have d3:decide ((n1:Int)≤1)=false:=decide_eq_false (by omega);clear hc;go_wp2_with fail;refine(demand_any _ false _).mono ?_;rintro e vy ⟨rfl,rfl⟩;go_wp2_with fail;exact⟨rfl,O2.out,rfl⟩
     ·
      have d1:decide (4≤n0)=true:=decide_eq_true h4;have d1i:decide ((4:Int)≤n0)=true:=decide_eq_true (by omega);have d2:decide (n0≤8)=false:=decide_eq_false h8;have d2i:decide ((n0:Int)≤8)=false:=decide_eq_false (by omega);clear hc;go_wp2_with fail;refine(demand_any _ false _).mono ?_;rintro e vy ⟨rfl,rfl⟩;go_wp2_with fail;exact⟨rfl,O2.out,rfl⟩
    ·
     have d1:decide (4≤n0)=false:=decide_eq_false h4;have d1i:decide ((4:Int)≤n0)=false:=decide_eq_false (by omega);clear hc;go_wp2_with fail;refine(demand_any _ false _).mono ?_;rintro e vy ⟨rfl,rfl⟩;go_wp2_with fail;exact⟨rfl,O2.out,rfl⟩
end Go.Proofs.YtoaimoemaoinhaaGreatDoor
