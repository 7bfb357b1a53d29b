/- PeersX: a part of the proof. No condition beyond the premises of each theorem. -/
import Derived.Test.YtoaimoemaoinhaaGreatDoorQp15
import Derived.Test.YtoaimoemaoinhaaGreatDoorQp00
set_option maxRecDepth 100000
namespace Go.Proofs.YtoaimoemaoinhaaGreatDoor
open Go.RowKit Go.Rt Go.Rw
def headB (f:Fl) (len:Nat):List UInt8:=
 if f.k=1 then intB f.n
 else if f.k=2 then atomB f.nm
 else if f.k=7 then [104,u8 len]
 else if f.k=8 then [106]
 else if f.k=9 then 108::num4 ((len:Int)-1)
 else if f.k=10 then (if f.bt % 8=0 then 109::num4 f.bs.size else 77::(num4 f.bs.size ++ [u8 (f.bt % 8)]))++f.bs.data.toList
 else if f.k=6 then 88::(atomB f.nm++(num4 f.n++(num4 0++num4 f.g)))
 else if f.k=3 then 90::0::1::(atomB f.nm++(num4 f.g++num4 f.n))
 else if f.k=5 then 113::(atomB f.nm++(atomB f.fn++intB f.ar))
 else if f.k=4 then 112::u8 f.ar::(num2 f.n++(u8 len::(atomB f.nm++num4 f.g)))
 else []
mutual
def codeT : Tm→List UInt8
 | .mk f l=>headB f l.length++codeL l
def codeL : List Tm→List UInt8
 | []=>[]
 | t::r=>codeT t++codeL r
end
theorem codeL_take (l:List Tm) (k:Nat) (hk:k<l.length):codeL (l.take (k+1))=codeL (l.take k)++codeT l[k]:=by
 induction l generalizing k with
 | nil=>simp at hk
 | cons t r ih=>
  cases k with
  | zero=>simp[codeL]
  | succ k=>simp[codeL,ih k (by simpa using hk)]
theorem codeL_take_le (l:List Tm) (k:Nat):(codeL (l.take k)).length≤(codeL l).length:=by
 induction l generalizing k with
 | nil=>simp
 | cons t r ih=>
  cases k with
  | zero=>simp[codeL]
  | succ k=>have:=ih k;simp[codeL];omega
theorem intB_len (n:Int) (hn : -9223372036854775808≤n∧n≤9223372036854775807):(intB n).length≤11:=by
 unfold intB;split
 ·
  simp
 ·
  split
  ·
   simp[num4]
  ·
   have:=leB_len 8 n.natAbs (by omega)
   simp
   omega
theorem num4_len (n:Int):(num4 n).length=4:=rfl
theorem num2_len (n:Int):(num2 n).length=2:=rfl
theorem atomB_len (s:ByteArray):(atomB s).length=s.size+2:=by simp[atomB]
def TermC (S:Nat→Prop) (B b:Nat) (t:Tm):Prop:=∀ (x:Ft) (W:World) (l:List UInt8),TmAt S W t x→Wr B b l W→l.length+(codeT t).length+1000000≤140737488355328 →
 Calls Tryz.prog 120 #[.pointer (some ⟨b,0,none⟩),ftV x] W fun e w'=>e = .returned (.tuple #[])∧Wr B b (l++codeT t) w'∧WFr B b W w'
set_option maxHeartbeats 2000000 in
theorem wterm_core (S:Nat→Prop) (B b:Nat) (hS:∀ c,S c→c<B) (k n g:Int) (nm fn:ByteArray) (ar:Int) (bs:ByteArray) (bt:Int) (its:List Tm) (sa:Option Addr) (cap:Nat) (w:World) (l:List UInt8) (hi:ItsAt S w its (.slice sa its.length cap)) (hw:Wr B b l w)
  (hfit:fitF ⟨k,n,g,nm,fn,ar,bs,bt⟩) (hf:ownB ⟨k,n,g,nm,fn,ar,bs,bt⟩ its=true) (hlen:l.length+(codeT (.mk ⟨k,n,g,nm,fn,ar,bs,bt⟩ its)).length+1000000≤140737488355328) (ih:∀ t∈its,TermC S B b t) :
  Calls Tryz.prog 120 #[.pointer (some ⟨b,0,none⟩),ftV ⟨⟨k,n,g,nm,fn,ar,bs,bt⟩,.slice sa its.length cap⟩] w fun e w'=>e = .returned (.tuple #[])∧Wr B b (l++codeT (.mk ⟨k,n,g,nm,fn,ar,bs,bt⟩ its)) w'∧WFr B b w w':=by
 obtain⟨⟨hz1,hz2,hz3⟩,hk1,hn1,hg1,har1,hbt1⟩:=hfit;dsimp only at hz1 hz2 hz3 hk1 hn1 hg1 har1 hbt1;unfold ownB at hf;rw[Bool.and_eq_true,Bool.and_eq_true,Bool.or_eq_true] at hf;obtain⟨hok,_,hul⟩:=hf;have hmx:=hi.form.1;have HUL:=qH hul;have HOK:=qH hok;obtain⟨CT,hCT⟩:∃ CT,CT=codeT (.mk ⟨k,n,g,nm,fn,ar,bs,bt⟩ its):=⟨_,rfl⟩;rw[←hCT] at hlen ⊢;rw[codeT] at hCT;have HCT:=qH hCT;have HI:=qH hi;have HW:=qH hw
 have IH:=qH ih;have HS:=qH hS;have HBC:Hid (b<w.heap.size):=qH hw.lt;have hBw:B≤w.heap.size:=by have:=hw.lt;have:=hw.le;omega
 have HBW:=qH hBw;have HLN:=qH hlen;have hl1:l.length+1000000≤140737488355328:=by omega
 obtain⟨len,hle⟩:∃ len,len=its.length:=⟨_,rfl⟩;rw[←hle] at HI hmx ⊢;have HLE:=qH hle;unfold ftV;dsimp only;clear hok hul hlen hCT hi hw ih hS hle hBw
 by_cases q1:k=1
 ·
  subst q1;obtain rfl:its = []:=by
   have:=HUL.out
   simpa [usesL] using this
  obtain rfl:len=0:=HLE.out;have HC2:Hid (CT=(intB n)++codeL []):=qH (by rw[HCT.out];rfl);clear HCT;have W0:=qH (HW.out.below ((Below.refl w.heap.size w).alloc (Nat.le_refl _) (.cells #[.int .i64 1,.int .i64 n,.int .i64 g,.string nm,.string fn,.int .i64 ar,.slice sa 0 cap,.string bs,.int .i64 bt] 48)));have X0:=qH (Blk.new w 48 #[.int .i64 1,.int .i64 n,.int .i64 g,.string nm,.string fn,.int .i64 ar,.slice sa 0 cap,.string bs,.int .i64 bt])
  have F0:=qH (WFr.of_below (B:=B) (b:=b) ((Below.refl w.heap.size w).alloc (Nat.le_refl _) (.cells #[.int .i64 1,.int .i64 n,.int .i64 g,.string nm,.string fn,.int .i64 ar,.slice sa 0 cap,.string bs,.int .i64 bt] 48)) HBW.out);have HBS0:Hid (B≤(w.alloc (.cells #[.int .i64 1,.int .i64 n,.int .i64 g,.string nm,.string fn,.int .i64 ar,.slice sa 0 cap,.string bs,.int .i64 bt] 48)).heap.size):=qH (Nat.le_trans HBW.out F0.out.size)
  go_enter Tryz.func120,Tryz.ntmps120;go_upto_region 1 with fail
  generalize w.alloc (.cells #[.int .i64 1,.int .i64 n,.int .i64 g,.string nm,.string fn,.int .i64 ar,.slice sa 0 cap,.string bs,.int .i64 bt] 48)=v0 at W0 X0 F0 HBS0 ⊢;have xk:v0.cell? ⟨w.heap.size,0,none⟩=some (.int .i64 1):=X0.out.cell 0;have xn:v0.cell? ⟨w.heap.size,1,none⟩=some (.int .i64 n):=X0.out.cell 1;go_wp2_with fail;clear xk xn;refine(integer_any W0.out n (by omega) (by first|omega|(simp[atomB_len,num4_len,num2_len];omega))).mono ?_
  rintro e v1 ⟨rfl,q,f⟩;have W1:=qH q;have X1:=qH (f.blk X0.out (by have:=HBC.out;omega) (by decide));have F1:=qH (F0.out.trans f);have HBS1:=qH (Nat.le_trans HBW.out F1.out.size);clear q f W0 X0;have xit:v1.cell? ⟨w.heap.size,6,none⟩=some (.slice sa 0 cap):=X1.out.cell 6;go_wp2_with fail;refine wp_loop_rounds 1 ?_;rw[rounds_succ];go_wp2_with fail;go_end0;refine⟨rfl,?_,F1.out⟩
  have:=W1.out
  rw[HC2.out]
  simpa [codeL,num4,num2] using this
 ·
  -- not 1
  by_cases q2:k=2
  ·
   subst q2;obtain rfl:its = []:=by
    have:=HUL.out
    simpa [usesL] using this
   obtain rfl:len=0:=HLE.out;have HC2:Hid (CT=(atomB nm)++codeL []):=qH (by rw[HCT.out];rfl);clear HCT;have W0:=qH (HW.out.below ((Below.refl w.heap.size w).alloc (Nat.le_refl _) (.cells #[.int .i64 2,.int .i64 n,.int .i64 g,.string nm,.string fn,.int .i64 ar,.slice sa 0 cap,.string bs,.int .i64 bt] 48)));have X0:=qH (Blk.new w 48 #[.int .i64 2,.int .i64 n,.int .i64 g,.string nm,.string fn,.int .i64 ar,.slice sa 0 cap,.string bs,.int .i64 bt])
   have F0:=qH (WFr.of_below (B:=B) (b:=b) ((Below.refl w.heap.size w).alloc (Nat.le_refl _) (.cells #[.int .i64 2,.int .i64 n,.int .i64 g,.string nm,.string fn,.int .i64 ar,.slice sa 0 cap,.string bs,.int .i64 bt] 48)) HBW.out);have HBS0:Hid (B≤(w.alloc (.cells #[.int .i64 2,.int .i64 n,.int .i64 g,.string nm,.string fn,.int .i64 ar,.slice sa 0 cap,.string bs,.int .i64 bt] 48)).heap.size):=qH (Nat.le_trans HBW.out F0.out.size)
   go_enter Tryz.func120,Tryz.ntmps120;go_upto_region 1 with fail
   generalize w.alloc (.cells #[.int .i64 2,.int .i64 n,.int .i64 g,.string nm,.string fn,.int .i64 ar,.slice sa 0 cap,.string bs,.int .i64 bt] 48)=v0 at W0 X0 F0 HBS0 ⊢;have xk:v0.cell? ⟨w.heap.size,0,none⟩=some (.int .i64 2):=X0.out.cell 0;have xnm:v0.cell? ⟨w.heap.size,3,none⟩=some (.string nm):=X0.out.cell 3;go_wp2_with fail;clear xk xnm;refine(atom_any W0.out nm (by first|omega|(simp[atomB_len,num4_len,num2_len];omega))).mono ?_
   rintro e v1 ⟨rfl,q,f⟩;have W1:=qH q;have X1:=qH (f.blk X0.out (by have:=HBC.out;omega) (by decide));have F1:=qH (F0.out.trans f);have HBS1:=qH (Nat.le_trans HBW.out F1.out.size);clear q f W0 X0;have xit:v1.cell? ⟨w.heap.size,6,none⟩=some (.slice sa 0 cap):=X1.out.cell 6;go_wp2_with fail;refine wp_loop_rounds 1 ?_;rw[rounds_succ];go_wp2_with fail;go_end0;refine⟨rfl,?_,F1.out⟩
   have:=W1.out
   rw[HC2.out]
   simpa [codeL,num4,num2] using this
  ·
   -- not 2
   by_cases q3:k=3
   ·
    subst q3;obtain rfl:its = []:=by
     have:=HUL.out
     simpa [usesL] using this
    obtain rfl:len=0:=HLE.out;have HC2:Hid (CT=(90::0::1::(atomB nm++(num4 g++num4 n)))++codeL []):=qH (by rw[HCT.out];rfl);clear HCT;have W0:=qH (HW.out.below ((Below.refl w.heap.size w).alloc (Nat.le_refl _) (.cells #[.int .i64 3,.int .i64 n,.int .i64 g,.string nm,.string fn,.int .i64 ar,.slice sa 0 cap,.string bs,.int .i64 bt] 48)));have X0:=qH (Blk.new w 48 #[.int .i64 3,.int .i64 n,.int .i64 g,.string nm,.string fn,.int .i64 ar,.slice sa 0 cap,.string bs,.int .i64 bt])
    have F0:=qH (WFr.of_below (B:=B) (b:=b) ((Below.refl w.heap.size w).alloc (Nat.le_refl _) (.cells #[.int .i64 3,.int .i64 n,.int .i64 g,.string nm,.string fn,.int .i64 ar,.slice sa 0 cap,.string bs,.int .i64 bt] 48)) HBW.out);have HBS0:Hid (B≤(w.alloc (.cells #[.int .i64 3,.int .i64 n,.int .i64 g,.string nm,.string fn,.int .i64 ar,.slice sa 0 cap,.string bs,.int .i64 bt] 48)).heap.size):=qH (Nat.le_trans HBW.out F0.out.size)
    go_enter Tryz.func120,Tryz.ntmps120;go_upto_region 1 with fail
    generalize w.alloc (.cells #[.int .i64 3,.int .i64 n,.int .i64 g,.string nm,.string fn,.int .i64 ar,.slice sa 0 cap,.string bs,.int .i64 bt] 48)=v0 at W0 X0 F0 HBS0 ⊢;have xk:v0.cell? ⟨w.heap.size,0,none⟩=some (.int .i64 3):=X0.out.cell 0;go_wp2_with fail;clear xk;refine(lit_any [90,0,1] W0.out _ 3 rfl (by simp[Lib.byteCells]<;>omega) (by simp) (by first|omega|(simp[];omega))).mono ?_;rintro e v1 ⟨rfl,q,f,_⟩
    have W1:=qH q.wr;have X1:=qH (f.blk X0.out (by have:=HBC.out;omega) (by decide));have F1:=qH (F0.out.trans f);have HBS1:=qH (Nat.le_trans HBW.out F1.out.size);clear q f W0 X0;have xnm:v1.cell? ⟨w.heap.size,3,none⟩=some (.string nm):=X1.out.cell 3;go_wp2_with fail;clear xnm;refine(atom_any W1.out nm (by first|omega|(simp[];omega))).mono ?_;rintro e v2 ⟨rfl,q,f⟩;have W2:=qH q;have X2:=qH (f.blk X1.out (by have:=HBC.out;omega) (by decide))
    have F2:=qH (F1.out.trans f);have HBS2:=qH (Nat.le_trans HBW.out F2.out.size);clear q f W1 X1 F1;have xg:v2.cell? ⟨w.heap.size,2,none⟩=some (.int .i64 g):=X2.out.cell 2;go_wp2_with fail;clear xg;refine(number4 W2.out (g) (by first|omega|(simp[atomB_len];omega))).mono ?_;rintro e v3 ⟨rfl,q,f⟩;have W3:=qH q;have X3:=qH (f.blk X2.out (by have:=HBC.out;omega) (by decide));have F3:=qH (F2.out.trans f)
    have HBS3:=qH (Nat.le_trans HBW.out F3.out.size);clear q f W2 X2 F2;have xn:v3.cell? ⟨w.heap.size,1,none⟩=some (.int .i64 n):=X3.out.cell 1;go_wp2_with fail;clear xn;refine(number4 W3.out (n) (by first|omega|(simp[atomB_len];omega))).mono ?_;rintro e v4 ⟨rfl,q,f⟩;have W4:=qH q;have X4:=qH (f.blk X3.out (by have:=HBC.out;omega) (by decide));have F4:=qH (F3.out.trans f);have HBS4:=qH (Nat.le_trans HBW.out F4.out.size)
    clear q f W3 X3 F3;have xit:v4.cell? ⟨w.heap.size,6,none⟩=some (.slice sa 0 cap):=X4.out.cell 6;go_wp2_with fail;refine wp_loop_rounds 1 ?_;rw[rounds_succ];go_wp2_with fail;go_end0;refine⟨rfl,?_,F4.out⟩
    have:=W4.out
    rw[HC2.out]
    simpa [codeL,num4,num2] using this
   ·
    -- not 3
    by_cases q4:k=4
    ·
     subst q4;have har:=(show 0≤ar∧ar≤16 by
      have h:=HOK.out;have h2:(inB n 0 999&&(inB g 1 2147483647&&(nameF nm&&(inB ar 0 16&&decide (its.length≤200)))))=true:=h;simp only[Bool.and_eq_true,inB,decide_eq_true_eq] at h2;exact h2.2.2.2.1)
     have hll:len≤200:=by
      have h2:(inB n 0 999&&(inB g 1 2147483647&&(nameF nm&&(inB ar 0 16&&decide (its.length≤200)))))=true:=HOK.out;simp only[Bool.and_eq_true,decide_eq_true_eq] at h2;rw[HLE.out];exact h2.2.2.2.2
     have HC2:Hid (CT=(112::u8 ar::(num2 n++(u8 (len:Int)::(atomB nm++num4 g))))++codeL its):=qH (by rw[HCT.out,HLE.out];rfl);clear HCT;have W0:=qH (HW.out.below ((Below.refl w.heap.size w).alloc (Nat.le_refl _) (.cells #[.int .i64 4,.int .i64 n,.int .i64 g,.string nm,.string fn,.int .i64 ar,.slice sa len cap,.string bs,.int .i64 bt] 48)));have X0:=qH (Blk.new w 48 #[.int .i64 4,.int .i64 n,.int .i64 g,.string nm,.string fn,.int .i64 ar,.slice sa len cap,.string bs,.int .i64 bt])
     have F0:=qH (WFr.of_below (B:=B) (b:=b) ((Below.refl w.heap.size w).alloc (Nat.le_refl _) (.cells #[.int .i64 4,.int .i64 n,.int .i64 g,.string nm,.string fn,.int .i64 ar,.slice sa len cap,.string bs,.int .i64 bt] 48)) HBW.out);have HBS0:Hid (B≤(w.alloc (.cells #[.int .i64 4,.int .i64 n,.int .i64 g,.string nm,.string fn,.int .i64 ar,.slice sa len cap,.string bs,.int .i64 bt] 48)).heap.size):=qH (Nat.le_trans HBW.out F0.out.size)
     go_enter Tryz.func120,Tryz.ntmps120;go_upto_region 1 with fail
     generalize w.alloc (.cells #[.int .i64 4,.int .i64 n,.int .i64 g,.string nm,.string fn,.int .i64 ar,.slice sa len cap,.string bs,.int .i64 bt] 48)=v0 at W0 X0 F0 HBS0 ⊢;have xk:v0.cell? ⟨w.heap.size,0,none⟩=some (.int .i64 4):=X0.out.cell 0;have xar:v0.cell? ⟨w.heap.size,5,none⟩=some (.int .i64 ar):=X0.out.cell 5;go_wp2_with fail;clear xk xar;refine(lit_any [112,u8 ar] W0.out _ 2 rfl (by simp[Lib.byteCells,u8_toNat]<;>omega) (by simp) (by first|omega|(simp[];omega))).mono ?_
     rintro e v1 ⟨rfl,q,f,_⟩;have W1:=qH q.wr;have X1:=qH (f.blk X0.out (by have:=HBC.out;omega) (by decide));have F1:=qH (F0.out.trans f);have HBS1:=qH (Nat.le_trans HBW.out F1.out.size);clear q f W0 X0;have xn:v1.cell? ⟨w.heap.size,1,none⟩=some (.int .i64 n):=X1.out.cell 1;go_wp2_with fail;clear xn;refine(number2 W1.out (n) (by first|omega|(simp[];omega))).mono ?_;rintro e v2 ⟨rfl,q,f⟩;have W2:=qH q
     have X2:=qH (f.blk X1.out (by have:=HBC.out;omega) (by decide));have F2:=qH (F1.out.trans f);have HBS2:=qH (Nat.le_trans HBW.out F2.out.size);clear q f W1 X1 F1;have xit:v2.cell? ⟨w.heap.size,6,none⟩=some (.slice sa len cap):=X2.out.cell 6;go_wp2_with fail;clear xit;refine(lit_any [u8 (len:Int)] W2.out _ 1 rfl (by simp[Lib.byteCells,u8_toNat]<;>omega) (by simp) (by first|omega|(simp[];omega))).mono ?_
     rintro e v3 ⟨rfl,q,f,_⟩;have W3:=qH q.wr;have X3:=qH (f.blk X2.out (by have:=HBC.out;omega) (by decide));have F3:=qH (F2.out.trans f);have HBS3:=qH (Nat.le_trans HBW.out F3.out.size);clear q f W2 X2 F2;have xnm:v3.cell? ⟨w.heap.size,3,none⟩=some (.string nm):=X3.out.cell 3;go_wp2_with fail;clear xnm;refine(atom_any W3.out nm (by first|omega|(simp[];omega))).mono ?_;rintro e v4 ⟨rfl,q,f⟩;have W4:=qH q
     have X4:=qH (f.blk X3.out (by have:=HBC.out;omega) (by decide));have F4:=qH (F3.out.trans f);have HBS4:=qH (Nat.le_trans HBW.out F4.out.size);clear q f W3 X3 F3;have xg:v4.cell? ⟨w.heap.size,2,none⟩=some (.int .i64 g):=X4.out.cell 2;go_wp2_with fail;clear xg;refine(number4 W4.out (g) (by first|omega|(simp[atomB_len];omega))).mono ?_;rintro e v5 ⟨rfl,q,f⟩;have W5:=qH q;have X5:=qH (f.blk X4.out (by have:=HBC.out;omega) (by decide))
     have F5:=qH (F4.out.trans f);have HBS5:=qH (Nat.le_trans HBW.out F5.out.size);clear q f W4 X4 F4;have xit:v5.cell? ⟨w.heap.size,6,none⟩=some (.slice sa len cap):=X5.out.cell 6;go_wp2_with fail;have HP:Hid (l++CT=l++(112::u8 ar::(num2 n++(u8 (len:Int)::(atomB nm++num4 g))))++codeL its):=qH (by rw[HC2.out,List.append_assoc]);have WL:Hid (Wr B b (l++(112::u8 ar::(num2 n++(u8 (len:Int)::(atomB nm++num4 g))))) v5):=qH (by have:=W5.out;simpa [num4,num2] using this)
     obtain⟨LP,hLP⟩:∃ LP,LP=l++(112::u8 ar::(num2 n++(u8 (len:Int)::(atomB nm++num4 g)))):=⟨_,rfl⟩;rw[←hLP] at HP WL;have HLL:Hid (LP.length+(codeL its).length+1000000≤140737488355328):=qH (by
      have h1:=HLN.out;have h2:=congrArg List.length HP.out;rw[List.length_append,List.length_append] at h2;omega)
     clear hLP HC2 HLN W5 X5 xit HUL HOK;go_loopw [163] (fun i wr=>∃ c:Nat,c≤len∧i = .int .i64 c∧Hid (Wr B b (LP++codeL (its.take c)) wr)∧Hid (WFr B b w wr)) (fun i _=>len-(intOf i).toNat)
     case atStart=>exact⟨0,Nat.zero_le _,rfl,qH (by simpa [codeL] using WL.out),F5⟩
     case round=>
      clear WL F5;obtain⟨c,hc,rfl,WR,FR⟩:=hrel
      by_cases hlt:c<len
      ·
       have hlt2:c<its.length:=by rw[←HLE.out];exact hlt
       obtain⟨d,o,rfl,hb,hsb,hcc⟩:=HI.out.get (by omega);obtain⟨x,hx,hcx⟩:=hcc c hlt2;obtain⟨_,sx,cx,vx⟩:=hx.its.2.form;obtain⟨xf,xv⟩:=x;dsimp only at vx;subst vx;have hdB:=HS.out d hsb;obtain⟨p0,p1,p2,p3,p4,p5,p6,p7,p8⟩:=cells9 (W:=wr) (b:=d) (p:=o+c*9) (x:=⟨xf,.slice sx its[c].l.length cx⟩) (fun j hj=>by rw[←hcx j hj];exact FR.out.below.cell (p:=⟨d,_,none⟩) hdB);have A1:=qH (fun o=>(hx.below FR.out.below (fun b hb _=>HS.out b hb)).below ((Below.refl wr.heap.size wr).alloc (Nat.le_refl _) o) (fun _ _ h=>h))
       have WA:=qH (fun o=>WR.out.below ((Below.refl wr.heap.size wr).alloc (Nat.le_refl _) o));have FA:=qH (fun o=>FR.out.trans (WFr.of_below (B:=B) (b:=b) ((Below.refl wr.heap.size wr).alloc (Nat.le_refl _) o) (Nat.le_trans HBW.out FR.out.size)));have hlc:(LP++codeL (its.take c)).length+(codeT its[c]).length+1000000≤140737488355328:=by
        have h1:=codeL_take_le its (c+1);rw[codeL_take its c hlt2,List.length_append] at h1;have h2:=HLL.out;rw[List.length_append];omega
       have IK:=qH (fun o=>IH.out its[c] (List.getElem_mem hlt2) ⟨xf,.slice sx its[c].l.length cx⟩ (wr.alloc o) _ (A1.out o) (WA.out o) hlc);generalize hlx:its[c].l.length=lx at p6 IK;clear hcc hcx hx A1 WA hlc hlx;go_wp2_with fail;clear p0 p1 p2 p3 p4 p5 p6 p7 p8;refine(IK.out _).mono ?_;rintro e v4 ⟨rfl,w4,f4⟩;have W4:=qH w4;have F4:=qH ((FA.out _).trans f4);clear w4 f4 IK FA;go_wp2_with fail;go_roundw
       case rel=>exact⟨c+1,by omega,by go_num,qH (by rw[codeL_take its c hlt2,←List.append_assoc];exact W4.out),F4⟩
       case measure=>simp[intOf];omega
      ·
       have hcl:c=its.length:=by have:=HLE.out;omega
       go_wp2_with fail;go_end0;refine⟨rfl,?_,FR.out⟩;have h2:=HP.out
       have:=WR.out
       rw[hcl,List.take_length] at this;rw[h2];exact this
    ·
     -- not 4
     by_cases q5:k=5
     ·
      subst q5;obtain rfl:its = []:=by
       have:=HUL.out
       simpa [usesL] using this
      obtain rfl:len=0:=HLE.out;have HC2:Hid (CT=(113::(atomB nm++(atomB fn++intB ar)))++codeL []):=qH (by rw[HCT.out];rfl);clear HCT;have W0:=qH (HW.out.below ((Below.refl w.heap.size w).alloc (Nat.le_refl _) (.cells #[.int .i64 5,.int .i64 n,.int .i64 g,.string nm,.string fn,.int .i64 ar,.slice sa 0 cap,.string bs,.int .i64 bt] 48)));have X0:=qH (Blk.new w 48 #[.int .i64 5,.int .i64 n,.int .i64 g,.string nm,.string fn,.int .i64 ar,.slice sa 0 cap,.string bs,.int .i64 bt])
      have F0:=qH (WFr.of_below (B:=B) (b:=b) ((Below.refl w.heap.size w).alloc (Nat.le_refl _) (.cells #[.int .i64 5,.int .i64 n,.int .i64 g,.string nm,.string fn,.int .i64 ar,.slice sa 0 cap,.string bs,.int .i64 bt] 48)) HBW.out);have HBS0:Hid (B≤(w.alloc (.cells #[.int .i64 5,.int .i64 n,.int .i64 g,.string nm,.string fn,.int .i64 ar,.slice sa 0 cap,.string bs,.int .i64 bt] 48)).heap.size):=qH (Nat.le_trans HBW.out F0.out.size)
      go_enter Tryz.func120,Tryz.ntmps120;go_upto_region 1 with fail
      generalize w.alloc (.cells #[.int .i64 5,.int .i64 n,.int .i64 g,.string nm,.string fn,.int .i64 ar,.slice sa 0 cap,.string bs,.int .i64 bt] 48)=v0 at W0 X0 F0 HBS0 ⊢;have xk:v0.cell? ⟨w.heap.size,0,none⟩=some (.int .i64 5):=X0.out.cell 0;go_wp2_with fail;clear xk;refine(lit_any [113] W0.out _ 1 rfl (by simp[Lib.byteCells]<;>omega) (by simp) (by first|omega|(simp[];omega))).mono ?_;rintro e v1 ⟨rfl,q,f,_⟩
      have W1:=qH q.wr;have X1:=qH (f.blk X0.out (by have:=HBC.out;omega) (by decide));have F1:=qH (F0.out.trans f);have HBS1:=qH (Nat.le_trans HBW.out F1.out.size);clear q f W0 X0;have xnm:v1.cell? ⟨w.heap.size,3,none⟩=some (.string nm):=X1.out.cell 3;go_wp2_with fail;clear xnm;refine(atom_any W1.out nm (by first|omega|(simp[];omega))).mono ?_;rintro e v2 ⟨rfl,q,f⟩;have W2:=qH q;have X2:=qH (f.blk X1.out (by have:=HBC.out;omega) (by decide))
      have F2:=qH (F1.out.trans f);have HBS2:=qH (Nat.le_trans HBW.out F2.out.size);clear q f W1 X1 F1;have xfn:v2.cell? ⟨w.heap.size,4,none⟩=some (.string fn):=X2.out.cell 4;go_wp2_with fail;clear xfn;refine(atom_any W2.out fn (by first|omega|(simp[atomB_len];omega))).mono ?_;rintro e v3 ⟨rfl,q,f⟩;have W3:=qH q;have X3:=qH (f.blk X2.out (by have:=HBC.out;omega) (by decide));have F3:=qH (F2.out.trans f)
      have HBS3:=qH (Nat.le_trans HBW.out F3.out.size);clear q f W2 X2 F2;have xar:v3.cell? ⟨w.heap.size,5,none⟩=some (.int .i64 ar):=X3.out.cell 5;go_wp2_with fail;clear xar;refine(integer_any W3.out ar (by omega) (by first|omega|(simp[atomB_len];omega))).mono ?_;rintro e v4 ⟨rfl,q,f⟩;have W4:=qH q;have X4:=qH (f.blk X3.out (by have:=HBC.out;omega) (by decide));have F4:=qH (F3.out.trans f);have HBS4:=qH (Nat.le_trans HBW.out F4.out.size)
      clear q f W3 X3 F3;have xit:v4.cell? ⟨w.heap.size,6,none⟩=some (.slice sa 0 cap):=X4.out.cell 6;go_wp2_with fail;refine wp_loop_rounds 1 ?_;rw[rounds_succ];go_wp2_with fail;go_end0;refine⟨rfl,?_,F4.out⟩
      have:=W4.out
      rw[HC2.out]
      simpa [codeL,num4,num2] using this
     ·
      -- not 5
      by_cases q6:k=6
      ·
       subst q6;obtain rfl:its = []:=by
        have:=HUL.out
        simpa [usesL] using this
       obtain rfl:len=0:=HLE.out;have HC2:Hid (CT=(88::(atomB nm++(num4 n++(num4 0++num4 g))))++codeL []):=qH (by rw[HCT.out];rfl);clear HCT;have W0:=qH (HW.out.below ((Below.refl w.heap.size w).alloc (Nat.le_refl _) (.cells #[.int .i64 6,.int .i64 n,.int .i64 g,.string nm,.string fn,.int .i64 ar,.slice sa 0 cap,.string bs,.int .i64 bt] 48)));have X0:=qH (Blk.new w 48 #[.int .i64 6,.int .i64 n,.int .i64 g,.string nm,.string fn,.int .i64 ar,.slice sa 0 cap,.string bs,.int .i64 bt])
       have F0:=qH (WFr.of_below (B:=B) (b:=b) ((Below.refl w.heap.size w).alloc (Nat.le_refl _) (.cells #[.int .i64 6,.int .i64 n,.int .i64 g,.string nm,.string fn,.int .i64 ar,.slice sa 0 cap,.string bs,.int .i64 bt] 48)) HBW.out);have HBS0:Hid (B≤(w.alloc (.cells #[.int .i64 6,.int .i64 n,.int .i64 g,.string nm,.string fn,.int .i64 ar,.slice sa 0 cap,.string bs,.int .i64 bt] 48)).heap.size):=qH (Nat.le_trans HBW.out F0.out.size)
       go_enter Tryz.func120,Tryz.ntmps120;go_upto_region 1 with fail
       generalize w.alloc (.cells #[.int .i64 6,.int .i64 n,.int .i64 g,.string nm,.string fn,.int .i64 ar,.slice sa 0 cap,.string bs,.int .i64 bt] 48)=v0 at W0 X0 F0 HBS0 ⊢;have xk:v0.cell? ⟨w.heap.size,0,none⟩=some (.int .i64 6):=X0.out.cell 0;go_wp2_with fail;clear xk;refine(lit_any [88] W0.out _ 1 rfl (by simp[Lib.byteCells]<;>omega) (by simp) (by first|omega|(simp[];omega))).mono ?_;rintro e v1 ⟨rfl,q,f,_⟩
       have W1:=qH q.wr;have X1:=qH (f.blk X0.out (by have:=HBC.out;omega) (by decide));have F1:=qH (F0.out.trans f);have HBS1:=qH (Nat.le_trans HBW.out F1.out.size);clear q f W0 X0;have xnm:v1.cell? ⟨w.heap.size,3,none⟩=some (.string nm):=X1.out.cell 3;go_wp2_with fail;clear xnm;refine(atom_any W1.out nm (by first|omega|(simp[];omega))).mono ?_;rintro e v2 ⟨rfl,q,f⟩;have W2:=qH q;have X2:=qH (f.blk X1.out (by have:=HBC.out;omega) (by decide))
       have F2:=qH (F1.out.trans f);have HBS2:=qH (Nat.le_trans HBW.out F2.out.size);clear q f W1 X1 F1;have xn:v2.cell? ⟨w.heap.size,1,none⟩=some (.int .i64 n):=X2.out.cell 1;go_wp2_with fail;clear xn;refine(number4 W2.out (n) (by first|omega|(simp[atomB_len];omega))).mono ?_;rintro e v3 ⟨rfl,q,f⟩;have W3:=qH q;have X3:=qH (f.blk X2.out (by have:=HBC.out;omega) (by decide));have F3:=qH (F2.out.trans f)
       have HBS3:=qH (Nat.le_trans HBW.out F3.out.size);clear q f W2 X2 F2;go_wp2_with fail;refine(number4 W3.out (0) (by first|omega|(simp[atomB_len];omega))).mono ?_;rintro e v4 ⟨rfl,q,f⟩;have W4:=qH q;have X4:=qH (f.blk X3.out (by have:=HBC.out;omega) (by decide));have F4:=qH (F3.out.trans f);have HBS4:=qH (Nat.le_trans HBW.out F4.out.size);clear q f W3 X3 F3;have xg:v4.cell? ⟨w.heap.size,2,none⟩=some (.int .i64 g):=X4.out.cell 2
       go_wp2_with fail;clear xg;refine(number4 W4.out (g) (by first|omega|(simp[atomB_len];omega))).mono ?_;rintro e v5 ⟨rfl,q,f⟩;have W5:=qH q;have X5:=qH (f.blk X4.out (by have:=HBC.out;omega) (by decide));have F5:=qH (F4.out.trans f);have HBS5:=qH (Nat.le_trans HBW.out F5.out.size);clear q f W4 X4 F4;have xit:v5.cell? ⟨w.heap.size,6,none⟩=some (.slice sa 0 cap):=X5.out.cell 6;go_wp2_with fail;refine wp_loop_rounds 1 ?_
       rw[rounds_succ];go_wp2_with fail;go_end0;refine⟨rfl,?_,F5.out⟩
       have:=W5.out
       rw[HC2.out]
       simpa [codeL,num4,num2] using this
      ·
       -- not 6
       by_cases q7:k=7
       ·
        subst q7;have hll:len≤255:=by
         have h2:decide (its.length≤255)=true:=HOK.out;rw[decide_eq_true_eq] at h2;rw[HLE.out];exact h2
        have HC2:Hid (CT=([104,u8 (len:Int)])++codeL its):=qH (by rw[HCT.out,HLE.out];rfl);clear HCT;have W0:=qH (HW.out.below ((Below.refl w.heap.size w).alloc (Nat.le_refl _) (.cells #[.int .i64 7,.int .i64 n,.int .i64 g,.string nm,.string fn,.int .i64 ar,.slice sa len cap,.string bs,.int .i64 bt] 48)));have X0:=qH (Blk.new w 48 #[.int .i64 7,.int .i64 n,.int .i64 g,.string nm,.string fn,.int .i64 ar,.slice sa len cap,.string bs,.int .i64 bt])
        have F0:=qH (WFr.of_below (B:=B) (b:=b) ((Below.refl w.heap.size w).alloc (Nat.le_refl _) (.cells #[.int .i64 7,.int .i64 n,.int .i64 g,.string nm,.string fn,.int .i64 ar,.slice sa len cap,.string bs,.int .i64 bt] 48)) HBW.out);have HBS0:Hid (B≤(w.alloc (.cells #[.int .i64 7,.int .i64 n,.int .i64 g,.string nm,.string fn,.int .i64 ar,.slice sa len cap,.string bs,.int .i64 bt] 48)).heap.size):=qH (Nat.le_trans HBW.out F0.out.size)
        go_enter Tryz.func120,Tryz.ntmps120;go_upto_region 1 with fail
        generalize w.alloc (.cells #[.int .i64 7,.int .i64 n,.int .i64 g,.string nm,.string fn,.int .i64 ar,.slice sa len cap,.string bs,.int .i64 bt] 48)=v0 at W0 X0 F0 HBS0 ⊢;have xk:v0.cell? ⟨w.heap.size,0,none⟩=some (.int .i64 7):=X0.out.cell 0;have xit:v0.cell? ⟨w.heap.size,6,none⟩=some (.slice sa len cap):=X0.out.cell 6;go_wp2_with fail;clear xk xit;refine(lit_any [104,u8 (len:Int)] W0.out _ 2 rfl (by simp[Lib.byteCells,u8_toNat]<;>omega) (by simp) (by first|omega|(simp[];omega))).mono ?_
        rintro e v1 ⟨rfl,q,f,_⟩;have W1:=qH q.wr;have X1:=qH (f.blk X0.out (by have:=HBC.out;omega) (by decide));have F1:=qH (F0.out.trans f);have HBS1:=qH (Nat.le_trans HBW.out F1.out.size);clear q f W0 X0;have xit:v1.cell? ⟨w.heap.size,6,none⟩=some (.slice sa len cap):=X1.out.cell 6;go_wp2_with fail;have HP:Hid (l++CT=l++([104,u8 (len:Int)])++codeL its):=qH (by rw[HC2.out,List.append_assoc]);have WL:Hid (Wr B b (l++([104,u8 (len:Int)])) v1):=qH (by have:=W1.out;simpa [num4,num2] using this)
        obtain⟨LP,hLP⟩:∃ LP,LP=l++([104,u8 (len:Int)]):=⟨_,rfl⟩;rw[←hLP] at HP WL;have HLL:Hid (LP.length+(codeL its).length+1000000≤140737488355328):=qH (by
         have h1:=HLN.out;have h2:=congrArg List.length HP.out;rw[List.length_append,List.length_append] at h2;omega)
        clear hLP HC2 HLN W1 X1 xit HUL HOK;go_loopw [163] (fun i wr=>∃ c:Nat,c≤len∧i = .int .i64 c∧Hid (Wr B b (LP++codeL (its.take c)) wr)∧Hid (WFr B b w wr)) (fun i _=>len-(intOf i).toNat)
        case atStart=>exact⟨0,Nat.zero_le _,rfl,qH (by simpa [codeL] using WL.out),F1⟩
        case round=>
         clear WL F1;obtain⟨c,hc,rfl,WR,FR⟩:=hrel
         by_cases hlt:c<len
         ·
          have hlt2:c<its.length:=by rw[←HLE.out];exact hlt
          obtain⟨d,o,rfl,hb,hsb,hcc⟩:=HI.out.get (by omega);obtain⟨x,hx,hcx⟩:=hcc c hlt2;obtain⟨_,sx,cx,vx⟩:=hx.its.2.form;obtain⟨xf,xv⟩:=x;dsimp only at vx;subst vx;have hdB:=HS.out d hsb;obtain⟨p0,p1,p2,p3,p4,p5,p6,p7,p8⟩:=cells9 (W:=wr) (b:=d) (p:=o+c*9) (x:=⟨xf,.slice sx its[c].l.length cx⟩) (fun j hj=>by rw[←hcx j hj];exact FR.out.below.cell (p:=⟨d,_,none⟩) hdB);have A1:=qH (fun o=>(hx.below FR.out.below (fun b hb _=>HS.out b hb)).below ((Below.refl wr.heap.size wr).alloc (Nat.le_refl _) o) (fun _ _ h=>h))
          have WA:=qH (fun o=>WR.out.below ((Below.refl wr.heap.size wr).alloc (Nat.le_refl _) o));have FA:=qH (fun o=>FR.out.trans (WFr.of_below (B:=B) (b:=b) ((Below.refl wr.heap.size wr).alloc (Nat.le_refl _) o) (Nat.le_trans HBW.out FR.out.size)));have hlc:(LP++codeL (its.take c)).length+(codeT its[c]).length+1000000≤140737488355328:=by
           have h1:=codeL_take_le its (c+1);rw[codeL_take its c hlt2,List.length_append] at h1;have h2:=HLL.out;rw[List.length_append];omega
          have IK:=qH (fun o=>IH.out its[c] (List.getElem_mem hlt2) ⟨xf,.slice sx its[c].l.length cx⟩ (wr.alloc o) _ (A1.out o) (WA.out o) hlc);generalize hlx:its[c].l.length=lx at p6 IK;clear hcc hcx hx A1 WA hlc hlx;go_wp2_with fail;clear p0 p1 p2 p3 p4 p5 p6 p7 p8;refine(IK.out _).mono ?_;rintro e v4 ⟨rfl,w4,f4⟩;have W4:=qH w4;have F4:=qH ((FA.out _).trans f4);clear w4 f4 IK FA;go_wp2_with fail
          go_roundw
          case rel=>exact⟨c+1,by omega,by go_num,qH (by rw[codeL_take its c hlt2,←List.append_assoc];exact W4.out),F4⟩
          case measure=>simp[intOf];omega
         ·
          have hcl:c=its.length:=by have:=HLE.out;omega
          go_wp2_with fail;go_end0;refine⟨rfl,?_,FR.out⟩;have h2:=HP.out
          have:=WR.out
          rw[hcl,List.take_length] at this;rw[h2];exact this
       ·
        -- not 7
        by_cases q8:k=8
        ·
         subst q8;obtain rfl:its = []:=by
          have:=HUL.out
          simpa [usesL] using this
         obtain rfl:len=0:=HLE.out;have HC2:Hid (CT=([106])++codeL []):=qH (by rw[HCT.out];rfl);clear HCT;have W0:=qH (HW.out.below ((Below.refl w.heap.size w).alloc (Nat.le_refl _) (.cells #[.int .i64 8,.int .i64 n,.int .i64 g,.string nm,.string fn,.int .i64 ar,.slice sa 0 cap,.string bs,.int .i64 bt] 48)));have X0:=qH (Blk.new w 48 #[.int .i64 8,.int .i64 n,.int .i64 g,.string nm,.string fn,.int .i64 ar,.slice sa 0 cap,.string bs,.int .i64 bt])
         have F0:=qH (WFr.of_below (B:=B) (b:=b) ((Below.refl w.heap.size w).alloc (Nat.le_refl _) (.cells #[.int .i64 8,.int .i64 n,.int .i64 g,.string nm,.string fn,.int .i64 ar,.slice sa 0 cap,.string bs,.int .i64 bt] 48)) HBW.out);have HBS0:Hid (B≤(w.alloc (.cells #[.int .i64 8,.int .i64 n,.int .i64 g,.string nm,.string fn,.int .i64 ar,.slice sa 0 cap,.string bs,.int .i64 bt] 48)).heap.size):=qH (Nat.le_trans HBW.out F0.out.size)
         go_enter Tryz.func120,Tryz.ntmps120;go_upto_region 1 with fail
         generalize w.alloc (.cells #[.int .i64 8,.int .i64 n,.int .i64 g,.string nm,.string fn,.int .i64 ar,.slice sa 0 cap,.string bs,.int .i64 bt] 48)=v0 at W0 X0 F0 HBS0 ⊢;have xk:v0.cell? ⟨w.heap.size,0,none⟩=some (.int .i64 8):=X0.out.cell 0;go_wp2_with fail;clear xk;refine(lit_any [106] W0.out _ 1 rfl (by simp[Lib.byteCells]<;>omega) (by simp) (by first|omega|(simp[];omega))).mono ?_;rintro e v1 ⟨rfl,q,f,_⟩
         have W1:=qH q.wr;have X1:=qH (f.blk X0.out (by have:=HBC.out;omega) (by decide));have F1:=qH (F0.out.trans f);have HBS1:=qH (Nat.le_trans HBW.out F1.out.size);clear q f W0 X0;have xit:v1.cell? ⟨w.heap.size,6,none⟩=some (.slice sa 0 cap):=X1.out.cell 6;go_wp2_with fail;refine wp_loop_rounds 1 ?_;rw[rounds_succ];go_wp2_with fail;go_end0;refine⟨rfl,?_,F1.out⟩
         have:=W1.out
         rw[HC2.out]
         simpa [codeL,num4,num2] using this
        ·
         -- not 8
         by_cases q9:k=9
         ·
          subst q9;have hll:2≤len:=by rw[HLE.out];exact okF_nine HOK.out rfl
          have hw9:IntKind.i64.wrap ((len:Int)-1)=(len:Int)-1:=by rw[IntKind.wrap_i64];omega
          have HC2:Hid (CT=(108::num4 ((len:Int)-1))++codeL its):=qH (by rw[HCT.out,HLE.out];rfl);clear HCT;have W0:=qH (HW.out.below ((Below.refl w.heap.size w).alloc (Nat.le_refl _) (.cells #[.int .i64 9,.int .i64 n,.int .i64 g,.string nm,.string fn,.int .i64 ar,.slice sa len cap,.string bs,.int .i64 bt] 48)));have X0:=qH (Blk.new w 48 #[.int .i64 9,.int .i64 n,.int .i64 g,.string nm,.string fn,.int .i64 ar,.slice sa len cap,.string bs,.int .i64 bt])
          have F0:=qH (WFr.of_below (B:=B) (b:=b) ((Below.refl w.heap.size w).alloc (Nat.le_refl _) (.cells #[.int .i64 9,.int .i64 n,.int .i64 g,.string nm,.string fn,.int .i64 ar,.slice sa len cap,.string bs,.int .i64 bt] 48)) HBW.out);have HBS0:Hid (B≤(w.alloc (.cells #[.int .i64 9,.int .i64 n,.int .i64 g,.string nm,.string fn,.int .i64 ar,.slice sa len cap,.string bs,.int .i64 bt] 48)).heap.size):=qH (Nat.le_trans HBW.out F0.out.size)
          go_enter Tryz.func120,Tryz.ntmps120;go_upto_region 1 with fail
          generalize w.alloc (.cells #[.int .i64 9,.int .i64 n,.int .i64 g,.string nm,.string fn,.int .i64 ar,.slice sa len cap,.string bs,.int .i64 bt] 48)=v0 at W0 X0 F0 HBS0 ⊢;have xk:v0.cell? ⟨w.heap.size,0,none⟩=some (.int .i64 9):=X0.out.cell 0;go_wp2_with fail;clear xk;refine(lit_any [108] W0.out _ 1 rfl (by simp[Lib.byteCells]<;>omega) (by simp) (by first|omega|(simp[];omega))).mono ?_;rintro e v1 ⟨rfl,q,f,_⟩
          have W1:=qH q.wr;have X1:=qH (f.blk X0.out (by have:=HBC.out;omega) (by decide));have F1:=qH (F0.out.trans f);have HBS1:=qH (Nat.le_trans HBW.out F1.out.size);clear q f W0 X0;have xit:v1.cell? ⟨w.heap.size,6,none⟩=some (.slice sa len cap):=X1.out.cell 6;go_wp2_with fail;clear xit;refine(number4 W1.out ((len:Int)-1) (by first|omega|(simp[];omega))).mono ?_;rintro e v2 ⟨rfl,q,f⟩;have W2:=qH q
          have X2:=qH (f.blk X1.out (by have:=HBC.out;omega) (by decide));have F2:=qH (F1.out.trans f);have HBS2:=qH (Nat.le_trans HBW.out F2.out.size);clear q f W1 X1 F1;have xit:v2.cell? ⟨w.heap.size,6,none⟩=some (.slice sa len cap):=X2.out.cell 6;go_wp2_with fail;have HP:Hid (l++CT=l++(108::num4 ((len:Int)-1))++codeL its):=qH (by rw[HC2.out,List.append_assoc]);have WL:Hid (Wr B b (l++(108::num4 ((len:Int)-1))) v2):=qH (by have:=W2.out;simpa [num4,num2] using this)
          obtain⟨LP,hLP⟩:∃ LP,LP=l++(108::num4 ((len:Int)-1)):=⟨_,rfl⟩;rw[←hLP] at HP WL;have HLL:Hid (LP.length+(codeL its).length+1000000≤140737488355328):=qH (by
           have h1:=HLN.out;have h2:=congrArg List.length HP.out;rw[List.length_append,List.length_append] at h2;omega)
          clear hLP HC2 HLN W2 X2 xit HUL HOK;go_loopw [163] (fun i wr=>∃ c:Nat,c≤len∧i = .int .i64 c∧Hid (Wr B b (LP++codeL (its.take c)) wr)∧Hid (WFr B b w wr)) (fun i _=>len-(intOf i).toNat)
          case atStart=>exact⟨0,Nat.zero_le _,rfl,qH (by simpa [codeL] using WL.out),F2⟩
          case round=>
           clear WL F2;obtain⟨c,hc,rfl,WR,FR⟩:=hrel
           by_cases hlt:c<len
           ·
            have hlt2:c<its.length:=by rw[←HLE.out];exact hlt
            obtain⟨d,o,rfl,hb,hsb,hcc⟩:=HI.out.get (by omega);obtain⟨x,hx,hcx⟩:=hcc c hlt2;obtain⟨_,sx,cx,vx⟩:=hx.its.2.form;obtain⟨xf,xv⟩:=x;dsimp only at vx;subst vx;have hdB:=HS.out d hsb;obtain⟨p0,p1,p2,p3,p4,p5,p6,p7,p8⟩:=cells9 (W:=wr) (b:=d) (p:=o+c*9) (x:=⟨xf,.slice sx its[c].l.length cx⟩) (fun j hj=>by rw[←hcx j hj];exact FR.out.below.cell (p:=⟨d,_,none⟩) hdB);have A1:=qH (fun o=>(hx.below FR.out.below (fun b hb _=>HS.out b hb)).below ((Below.refl wr.heap.size wr).alloc (Nat.le_refl _) o) (fun _ _ h=>h))
            have WA:=qH (fun o=>WR.out.below ((Below.refl wr.heap.size wr).alloc (Nat.le_refl _) o));have FA:=qH (fun o=>FR.out.trans (WFr.of_below (B:=B) (b:=b) ((Below.refl wr.heap.size wr).alloc (Nat.le_refl _) o) (Nat.le_trans HBW.out FR.out.size)));have hlc:(LP++codeL (its.take c)).length+(codeT its[c]).length+1000000≤140737488355328:=by
             have h1:=codeL_take_le its (c+1);rw[codeL_take its c hlt2,List.length_append] at h1;have h2:=HLL.out;rw[List.length_append];omega
            have IK:=qH (fun o=>IH.out its[c] (List.getElem_mem hlt2) ⟨xf,.slice sx its[c].l.length cx⟩ (wr.alloc o) _ (A1.out o) (WA.out o) hlc);generalize hlx:its[c].l.length=lx at p6 IK;clear hcc hcx hx A1 WA hlc hlx;go_wp2_with fail;clear p0 p1 p2 p3 p4 p5 p6 p7 p8;refine(IK.out _).mono ?_;rintro e v4 ⟨rfl,w4,f4⟩;have W4:=qH w4;have F4:=qH ((FA.out _).trans f4);clear w4 f4 IK FA;go_wp2_with fail
            go_roundw
            case rel=>exact⟨c+1,by omega,by go_num,qH (by rw[codeL_take its c hlt2,←List.append_assoc];exact W4.out),F4⟩
            case measure=>simp[intOf];omega
           ·
            have hcl:c=its.length:=by have:=HLE.out;omega
            go_wp2_with fail;go_end0;refine⟨rfl,?_,FR.out⟩;have h2:=HP.out
            have:=WR.out
            rw[hcl,List.take_length] at this;rw[h2];exact this
         ·
          -- not 9
          obtain rfl:k=10:=by
           have h:=HOK.out;unfold okF at h;simp only[q1,q2,q3,q4,q5,q6,q7,q8,q9,if_false] at h;split at h
           ·
            assumption
           ·
            cases h
          have hbt:=okF_ten HOK.out rfl;dsimp only at hbt;obtain⟨m,rfl⟩:=Int.eq_ofNat_of_zero_le hbt.1;have hm:m≤16384:=by omega
          clear hbt q1 q2 q3 q4 q5 q6 q7 q8 q9
          by_cases h8:m % 8=0
          ·
           have hj:((m:Int) % 8==0)=true:=by simpa using (by omega:(m:Int) % 8=0)
           have hq:(m:Int) % 8=0:=by omega
           obtain rfl:its = []:=by
            have:=HUL.out
            simpa [usesL] using this
           obtain rfl:len=0:=HLE.out;have HC2:Hid (CT=(109::num4 bs.size++bs.data.toList)++codeL []):=qH (by rw[HCT.out];unfold headB;dsimp only;rw[if_neg (by decide),if_neg (by decide),if_neg (by decide),if_neg (by decide),if_neg (by decide),if_pos rfl,if_pos hq]);clear HCT;have W0:=qH (HW.out.below ((Below.refl w.heap.size w).alloc (Nat.le_refl _) (.cells #[.int .i64 10,.int .i64 n,.int .i64 g,.string nm,.string fn,.int .i64 ar,.slice sa 0 cap,.string bs,.int .i64 (m:Int)] 48)))
           have X0:=qH (Blk.new w 48 #[.int .i64 10,.int .i64 n,.int .i64 g,.string nm,.string fn,.int .i64 ar,.slice sa 0 cap,.string bs,.int .i64 (m:Int)]);have F0:=qH (WFr.of_below (B:=B) (b:=b) ((Below.refl w.heap.size w).alloc (Nat.le_refl _) (.cells #[.int .i64 10,.int .i64 n,.int .i64 g,.string nm,.string fn,.int .i64 ar,.slice sa 0 cap,.string bs,.int .i64 (m:Int)] 48)) HBW.out);have HBS0:Hid (B≤(w.alloc (.cells #[.int .i64 10,.int .i64 n,.int .i64 g,.string nm,.string fn,.int .i64 ar,.slice sa 0 cap,.string bs,.int .i64 (m:Int)] 48)).heap.size):=qH (Nat.le_trans HBW.out F0.out.size)
           go_enter Tryz.func120,Tryz.ntmps120;go_upto_region 1 with fail
           generalize w.alloc (.cells #[.int .i64 10,.int .i64 n,.int .i64 g,.string nm,.string fn,.int .i64 ar,.slice sa 0 cap,.string bs,.int .i64 (m:Int)] 48)=v0 at W0 X0 F0 HBS0 ⊢;have xk:v0.cell? ⟨w.heap.size,0,none⟩=some (.int .i64 10):=X0.out.cell 0;have xbt:v0.cell? ⟨w.heap.size,8,none⟩=some (.int .i64 (m:Int)):=X0.out.cell 8;go_wp2_with fail;clear xk xbt;refine(lit_any [109] W0.out _ 1 rfl (by simp[Lib.byteCells]<;>omega) (by simp) (by first|omega|(simp[];omega))).mono ?_
           rintro e v1 ⟨rfl,q,f,_⟩;have W1:=qH q.wr;have X1:=qH (f.blk X0.out (by have:=HBC.out;omega) (by decide));have F1:=qH (F0.out.trans f);have HBS1:=qH (Nat.le_trans HBW.out F1.out.size);clear q f W0 X0;have xbs:v1.cell? ⟨w.heap.size,7,none⟩=some (.string bs):=X1.out.cell 7;go_wp2_with fail;clear xbs;refine(number4 W1.out (bs.size) (by first|omega|(simp[];omega))).mono ?_;rintro e v2 ⟨rfl,q,f⟩
           have W2:=qH q;have X2:=qH (f.blk X1.out (by have:=HBC.out;omega) (by decide));have F2:=qH (F1.out.trans f);have HBS2:=qH (Nat.le_trans HBW.out F2.out.size);clear q f W1 X1 F1;have xbs:v2.cell? ⟨w.heap.size,7,none⟩=some (.string bs):=X2.out.cell 7;go_wp2_with fail;go_still_tail 5,(by kernel_rfl);change wpList _ _ _ _ _ v2.drew;have Wd:=qH (W2.out.below (Below.refl _ _).drew);have Xd:=qH (X2.out.drew)
           have Fd:=qH (F2.out.trans (WFr.of_below (B:=B) (b:=b) (Below.refl _ _).drew HBS2.out));generalize v2.drew=vd at Wd Xd Fd ⊢;clear xbs;go_wp2_with fail;refine(writes_any Wd.out bs (by first|omega|(simp[];omega))).mono ?_;rintro e v3 ⟨rfl,q,f⟩;have W3:=qH q.wr;have X3:=qH (f.blk Xd.out (by have:=HBC.out;omega) (by decide));have F3:=qH (Fd.out.trans f);have HBS3:=qH (Nat.le_trans HBW.out F3.out.size)
           clear q f W2 X2 F2;clear Wd Xd Fd;have xit:v3.cell? ⟨w.heap.size,6,none⟩=some (.slice sa 0 cap):=X3.out.cell 6;go_wp2_with fail;refine wp_loop_rounds 1 ?_;rw[rounds_succ];go_wp2_with fail;go_end0;refine⟨rfl,?_,F3.out⟩
           have:=W3.out
           rw[HC2.out]
           simpa [codeL,num4,num2] using this
          ·
           obtain⟨j,hj,hj8⟩:∃ j:Nat,(m:Int) % 8=(j:Int)∧j<8:=⟨m % 8,by omega,by omega⟩;have hj0:j≠0:=by omega
           have hJ:((j:Int)==0)=false:=by simpa using hj0
           obtain rfl:its = []:=by
            have:=HUL.out
            simpa [usesL] using this
           obtain rfl:len=0:=HLE.out;have HC2:Hid (CT=(77::(num4 bs.size ++ [u8 (j:Int)])++bs.data.toList)++codeL []):=qH (by rw[HCT.out];unfold headB;dsimp only;rw[if_neg (by decide),if_neg (by decide),if_neg (by decide),if_neg (by decide),if_neg (by decide),if_pos rfl,if_neg (by omega),hj]);clear HCT;have W0:=qH (HW.out.below ((Below.refl w.heap.size w).alloc (Nat.le_refl _) (.cells #[.int .i64 10,.int .i64 n,.int .i64 g,.string nm,.string fn,.int .i64 ar,.slice sa 0 cap,.string bs,.int .i64 (m:Int)] 48)))
           have X0:=qH (Blk.new w 48 #[.int .i64 10,.int .i64 n,.int .i64 g,.string nm,.string fn,.int .i64 ar,.slice sa 0 cap,.string bs,.int .i64 (m:Int)]);have F0:=qH (WFr.of_below (B:=B) (b:=b) ((Below.refl w.heap.size w).alloc (Nat.le_refl _) (.cells #[.int .i64 10,.int .i64 n,.int .i64 g,.string nm,.string fn,.int .i64 ar,.slice sa 0 cap,.string bs,.int .i64 (m:Int)] 48)) HBW.out);have HBS0:Hid (B≤(w.alloc (.cells #[.int .i64 10,.int .i64 n,.int .i64 g,.string nm,.string fn,.int .i64 ar,.slice sa 0 cap,.string bs,.int .i64 (m:Int)] 48)).heap.size):=qH (Nat.le_trans HBW.out F0.out.size)
           go_enter Tryz.func120,Tryz.ntmps120;go_upto_region 1 with fail
           generalize w.alloc (.cells #[.int .i64 10,.int .i64 n,.int .i64 g,.string nm,.string fn,.int .i64 ar,.slice sa 0 cap,.string bs,.int .i64 (m:Int)] 48)=v0 at W0 X0 F0 HBS0 ⊢;have xk:v0.cell? ⟨w.heap.size,0,none⟩=some (.int .i64 10):=X0.out.cell 0;have xbt:v0.cell? ⟨w.heap.size,8,none⟩=some (.int .i64 (m:Int)):=X0.out.cell 8;go_wp2_with fail;clear xk xbt;refine(lit_any [77] W0.out _ 1 rfl (by simp[Lib.byteCells]<;>omega) (by simp) (by first|omega|(simp[];omega))).mono ?_
           rintro e v1 ⟨rfl,q,f,_⟩;have W1:=qH q.wr;have X1:=qH (f.blk X0.out (by have:=HBC.out;omega) (by decide));have F1:=qH (F0.out.trans f);have HBS1:=qH (Nat.le_trans HBW.out F1.out.size);clear q f W0 X0;have xbs:v1.cell? ⟨w.heap.size,7,none⟩=some (.string bs):=X1.out.cell 7;go_wp2_with fail;clear xbs;refine(number4 W1.out (bs.size) (by first|omega|(simp[];omega))).mono ?_;rintro e v2 ⟨rfl,q,f⟩
           have W2:=qH q;have X2:=qH (f.blk X1.out (by have:=HBC.out;omega) (by decide));have F2:=qH (F1.out.trans f);have HBS2:=qH (Nat.le_trans HBW.out F2.out.size);clear q f W1 X1 F1;have xbt:v2.cell? ⟨w.heap.size,8,none⟩=some (.int .i64 (m:Int)):=X2.out.cell 8;go_wp2_with fail;clear xbt;refine(lit_any [u8 (j:Int)] W2.out _ 1 rfl (by simp[Lib.byteCells,u8_toNat]<;>omega) (by simp) (by first|omega|(simp[];omega))).mono ?_
           rintro e v3 ⟨rfl,q,f,_⟩;have W3:=qH q.wr;have X3:=qH (f.blk X2.out (by have:=HBC.out;omega) (by decide));have F3:=qH (F2.out.trans f);have HBS3:=qH (Nat.le_trans HBW.out F3.out.size);clear q f W2 X2 F2;have xbs:v3.cell? ⟨w.heap.size,7,none⟩=some (.string bs):=X3.out.cell 7;go_wp2_with fail;go_still_tail 5,(by kernel_rfl);change wpList _ _ _ _ _ v3.drew;have Wd:=qH (W3.out.below (Below.refl _ _).drew)
           have Xd:=qH (X3.out.drew);have Fd:=qH (F3.out.trans (WFr.of_below (B:=B) (b:=b) (Below.refl _ _).drew HBS3.out));generalize v3.drew=vd at Wd Xd Fd ⊢;clear xbs;go_wp2_with fail;refine(writes_any Wd.out bs (by first|omega|(simp[];omega))).mono ?_;rintro e v4 ⟨rfl,q,f⟩;have W4:=qH q.wr;have X4:=qH (f.blk Xd.out (by have:=HBC.out;omega) (by decide));have F4:=qH (Fd.out.trans f);have HBS4:=qH (Nat.le_trans HBW.out F4.out.size)
           clear q f W3 X3 F3;clear Wd Xd Fd;have xit:v4.cell? ⟨w.heap.size,6,none⟩=some (.slice sa 0 cap):=X4.out.cell 6;go_wp2_with fail;refine wp_loop_rounds 1 ?_;rw[rounds_succ];go_wp2_with fail;go_end0;refine⟨rfl,?_,F4.out⟩
           have:=W4.out
           rw[HC2.out]
           simpa [codeL,num4,num2] using this
theorem wterm_any (S:Nat→Prop) (B b:Nat) (hS:∀ c,S c→c<B):∀ t:Tm,fitT t→formed t=true→TermC S B b t:=by
 intro t
 induction t using Tm.ind with
 | h f its ih=>
  intro hfit hf x W l hx hw hlen;obtain⟨e1,i1⟩:=hx.its;obtain⟨_,sa,cap,v1⟩:=i1.form;obtain⟨xf,xv⟩:=x;dsimp only[Tm.f,Tm.l] at e1 v1 i1;subst e1 v1;rw[fitT] at hfit;rw[formed,Bool.and_eq_true] at hf;obtain⟨k,n,g,nm,fn,ar,bs,bt⟩:=xf;exact wterm_core S B b hS k n g nm fn ar bs bt its sa cap W l i1 hw hfit.1 hf.1 hlen (fun t ht=>ih t ht (fitL_mem its hfit.2 t ht) (formedL_mem its hf.2 t ht))
end Go.Proofs.YtoaimoemaoinhaaGreatDoor
