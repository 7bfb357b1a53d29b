/- PeersX: a part of the proof. No condition beyond the premises of each theorem. -/
import Derived.Test.YtoaimoemaoinhaaGreatDoorQp11
import Derived.Test.YtoaimoemaoinhaaGreatDoorRows
import Derived.Below
import Derived.Carry
import Derived.ProofKit
import Derived.LaidMore
import Derived.OpenShut
import Derived.ShutString
import Derived.Stop.Joined
import Derived.Test.YtoaimoemaoinhaaGreatDoorQp08
import Derived.Test.YtoaimoemaoinhaaGreatDoorQp00
set_option maxRecDepth 100000
namespace Go.Proofs.YtoaimoemaoinhaaGreatDoor.Sk
open Go.ChangeShapes Go.WideShapes Go.ChangeAt Go.RowKit
section
variable {H:Type} {enc:TypeId×Value→H} {P:Program} {w:World} {base:Nat} {spare:Nat→Bool} {held:Bool} {fuel:Nat} {t e:TypeId} {n:Nat}
theorem table_of {cs:Array Value} {x:DataW H×List MemPlace} {L:List Nat} (ht:P.underlying t=some (.array n e)) (he:P.underlying e=some (.int .u32)) (ce:P.cellsOf e=1) (ct:P.cellsOf t=n)
  (h:DataW.trod enc P w base spare held fuel t cs.toList=some x) (hx:x.1 = .agg (L.map fun k:Nat=>.lit (.int .u32 (k:Int)))):∀ i,i<n→cs[i]? = some (wv (L.getD i 0)):=by
 obtain⟨xs,m,_,rfl,hl,hn,hel⟩:=DataW.trod_array ht h;rw[ct] at hl;intro i hi;have q:=hel i hi;rw[ce,Nat.mul_one] at q;have hil:i<cs.toList.length:=by omega
 have e1:(cs.toList.drop i).take 1 = [cs.toList[i]]:=by
  rw[List.drop_eq_getElem_cons hil];rfl
 rw[e1,List.getElem?_eq_getElem (by omega)] at q;obtain⟨k,e2,e3,_⟩:=DataW.trod_int he q;simp only[DataW.agg.injEq] at hx;have e4:=congrArg (fun l=>l[i]?) hx;simp only[List.getElem?_map] at e4;rw[List.getElem?_eq_getElem (by omega)] at e4;simp only[Option.map_some,e3] at e4;cases hL:L[i]? with
 | none=>rw[hL] at e4;cases e4
 | some v=>
  rw[hL] at e4;simp only[Option.map_some,Option.some.injEq,DataW.lit.injEq,Lit.int.injEq,true_and] at e4;simp only[List.cons.injEq,and_true] at e2;rw[List.getD_eq_getElem?_getD,hL,←Array.getElem?_toList,List.getElem?_eq_getElem hil,e2,e4];rfl
end
abbrev laid2 {H:Type} : List (String×DataW H):=[("stagehand/digest.start",Rows.laid_stagehand_digest_start),("stagehand/digest.rounds",Rows.laid_stagehand_digest_rounds)]
theorem gStart : Tryz.prog.globalNamed "stagehand/digest.start" = some 0:=by kernel_rfl
theorem gRounds : Tryz.prog.globalNamed "stagehand/digest.rounds" = some 1:=by kernel_rfl
theorem tStart : (Tryz.prog.globals[0]?).map (·.type)=some 310:=by kernel_rfl
theorem tRounds : (Tryz.prog.globals[1]?).map (·.type)=some 323:=by kernel_rfl
theorem own : ownKnob Tryz.prog.godebug=none:=by kernel_rfl
theorem of_laid {W:World} (h:laidMetH Tryz.prog laid2 W):Tabs W:=by
 rw[MakeChecks.laidMetH_plain _ _ _ (by kernel_rfl)] at h;obtain⟨ps,⟨g0,t0,cs0,f0,p0,q0,hg0,ht0,hv0,hd0,⟨g1,t1,cs1,f1,p1,q1,hg1,ht1,hv1,hd1,_,_⟩,_⟩,_,_⟩:=h;obtain rfl:=Option.some.inj (gStart.symm.trans hg0);obtain rfl:=Option.some.inj (gRounds.symm.trans hg1);obtain rfl:=Option.some.inj (tStart.symm.trans ht0);obtain rfl:=Option.some.inj (tRounds.symm.trans ht1);refine⟨fun i hi=>?_,fun i hi=>?_⟩
 ·
  rw[World.var?_cell hg0 hv0 i];exact table_of (L:=startF.l) (n:=8) (e:=240) Tryz.underlying310 Tryz.underlying240 (by kernel_rfl) (by kernel_rfl) hd0 rfl i hi
 ·
  rw[World.var?_cell hg1 hv1 i];exact table_of (L:=KL) (n:=64) (e:=240) Tryz.underlying323 Tryz.underlying240 (by kernel_rfl) (by kernel_rfl) hd1 rfl i hi
end Go.Proofs.YtoaimoemaoinhaaGreatDoor.Sk
