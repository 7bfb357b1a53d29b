/- PeersX: a part of the proof. No condition beyond the premises of each theorem. -/
import Derived.Test.YtoaimoemaoinhaaGreatDoorQd33
namespace Go.Proofs.YtoaimoemaoinhaaGreatDoor
open Go.RowKit Go.Rt Go.Rw Go.Mp
structure Nu where
 ea : Int
 eb : Int
 sa : Int
 sb : Int
 fa : Int
 fb : Int
 ga : Int
 gb : Int
 ta : Int
 tb : Int
def prC (pa pb : Nat) (va vb : Value) (ua ub : Bool) (n : Nu) : Array Value := #[ptrV pa, ptrV pb, va, vb, .bool ua, .bool ub, .int .i64 n.ea, .int .i64 n.eb, .int .i64 n.sa, .int .i64 n.sb, .int .i64 n.fa, .int .i64 n.fb, .int .i64 n.ga, .int .i64 n.gb, .int .i64 n.ta, .int .i64 n.tb, .bool true]
structure Pb where
 g : Nat
 a : Nm
 b : Nm
 va : Value
 vb : Value
structure Sep (P : Pb) : Prop where
 ab : ∀ x ∈ foot P.a, x ∉ foot P.b
 av : ∀ x ∈ foot P.a, P.va.ownBlock ≠ some x
 aw : ∀ x ∈ foot P.a, P.vb.ownBlock ≠ some x
 ag : P.g ∉ foot P.a
 bv : ∀ x ∈ foot P.b, P.va.ownBlock ≠ some x
 bw : ∀ x ∈ foot P.b, P.vb.ownBlock ≠ some x
 bg : P.g ∉ foot P.b
 vg : P.va.ownBlock ≠ some P.g
 wg : P.vb.ownBlock ≠ some P.g
 vw : ∀ x, P.va.ownBlock = some x → P.vb.ownBlock ≠ some x
structure PwAt (w : World) (base : Nat) (s : Ds) (n : Nu) (P : Pb) : Prop where
 blk : Blk w P.g 33 (prC P.a.g P.b.g P.va P.vb s.ua s.ub n)
 na : NdAt w base s.na P.a
 nb : NdAt w base s.nb P.b
 qa : Wq w base P.va s.wa
 qb : Wq w base P.vb s.wb
 sep : Sep P
 bg : base ≤ P.g
section
variable {w w' : World} {base : Nat} {s : Ds} {n : Nu} {P : Pb}
theorem PwAt.below (h : PwAt w base s n P) (b : Below w.heap.size w w') : PwAt w' base s n P :=
 ⟨h.blk.below b h.blk.lt, h.na.below b, h.nb.below b, h.qa.only (F := []) (Only.of_below b) (fun _ _ => by simp), h.qb.only (F := []) (Only.of_below b) (fun _ _ => by simp), h.sep, h.bg⟩
theorem Trail.kept {a a' : Nm} {nd : Nd} (h : NdAt w base nd a) (t : Trail w w' a a') : Below base w w' := t.only.below (fun b hb => (h.low b hb).1) h.bz
theorem PwAt.setA (h : PwAt w base s n P) {nd : Nd} {a' : Nm} (ha : NdAt w' base nd a') (t : Trail w w' P.a a') : PwAt w' base { s with na := nd } n { P with a := a' } where
 blk := by
  have := h.blk.only t.only h.sep.ag
  show Blk w' P.g 33 (prC a'.g P.b.g P.va P.vb s.ua s.ub n)
  rw [t.g]
  exact this
 na := ha
 nb := h.nb.keep t.only (fun b hb q => h.sep.ab b q hb)
 qa := h.qa.only t.only (fun b hb q => h.sep.av b q hb)
 qb := h.qb.only t.only (fun b hb q => h.sep.aw b q hb)
 bg := h.bg
 sep :=
  {
   ab := fun x hx q => by
    rcases t.new x hx with z | z
    ·
     exact h.sep.ab x z q
    ·
     have := (h.nb.low x q).2
     omega
   av := fun x hx q => by
    rcases t.new x hx with z | z
    ·
     exact h.sep.av x z q
    ·
     have := (h.qa.lt x q).2
     omega
   aw := fun x hx q => by
    rcases t.new x hx with z | z
    ·
     exact h.sep.aw x z q
    ·
     have := (h.qb.lt x q).2
     omega
   ag := fun q => by
    rcases t.new _ q with z | z
    ·
     exact h.sep.ag z
    ·
     exact absurd h.blk.lt (Nat.not_lt.2 z)
   bv := h.sep.bv
   bw := h.sep.bw
   bg := h.sep.bg
   vg := h.sep.vg
   wg := h.sep.wg
   vw := h.sep.vw }
theorem PwAt.setB (h : PwAt w base s n P) {nd : Nd} {a' : Nm} (ha : NdAt w' base nd a') (t : Trail w w' P.b a') : PwAt w' base { s with nb := nd } n { P with b := a' } where
 blk := by
  have := h.blk.only t.only h.sep.bg
  show Blk w' P.g 33 (prC P.a.g a'.g P.va P.vb s.ua s.ub n)
  rw [t.g]
  exact this
 na := h.na.keep t.only (fun b hb q => h.sep.ab b hb q)
 nb := ha
 qa := h.qa.only t.only (fun b hb q => h.sep.bv b q hb)
 qb := h.qb.only t.only (fun b hb q => h.sep.bw b q hb)
 bg := h.bg
 sep :=
  {
   ab := fun x hx q => by
    rcases t.new x q with z | z
    ·
     exact h.sep.ab x hx z
    ·
     have := (h.na.low x hx).2
     omega
   av := h.sep.av
   aw := h.sep.aw
   ag := h.sep.ag
   bv := fun x hx q => by
    rcases t.new x hx with z | z
    ·
     exact h.sep.bv x z q
    ·
     have := (h.qa.lt x q).2
     omega
   bw := fun x hx q => by
    rcases t.new x hx with z | z
    ·
     exact h.sep.bw x z q
    ·
     have := (h.qb.lt x q).2
     omega
   bg := fun q => by
    rcases t.new _ q with z | z
    ·
     exact h.sep.bg z
    ·
     exact absurd h.blk.lt (Nat.not_lt.2 z)
   vg := h.sep.vg
   wg := h.sep.wg
   vw := h.sep.vw }
theorem PwAt.own (h : PwAt w base s n P) {ua ub : Bool} {n' : Nu} (o : Only [P.g] w w') (hb : Blk w' P.g 33 (prC P.a.g P.b.g P.va P.vb ua ub n')) : PwAt w' base { s with ua := ua, ub := ub } n' P where
 blk := hb
 na := h.na.keep o (fun b hb q => h.sep.ag (by rw [← List.mem_singleton.1 q]; exact hb))
 nb := h.nb.keep o (fun b hb q => h.sep.bg (by rw [← List.mem_singleton.1 q]; exact hb))
 qa := h.qa.only o (fun b hb q => h.sep.vg (by rw [← List.mem_singleton.1 q]; exact hb))
 qb := h.qb.only o (fun b hb q => h.sep.wg (by rw [← List.mem_singleton.1 q]; exact hb))
 bg := h.bg
 sep := h.sep
theorem PwAt.wayA {w1 : World} (h : PwAt w base s n P) {v : Value} {L : List ByteArray} (o1 : Only P.va.ownBlock.toList w w1) (q : Wq w1 base v L) (hv : v.ownBlock = none ∨ v.ownBlock = P.va.ownBlock ∨ ∀ b, v.ownBlock = some b → w.heap.size ≤ b) (o2 : Only [P.g] w1 w')
  (hb : Blk w' P.g 33 (prC P.a.g P.b.g v P.vb s.ua s.ub n)) : PwAt w' base { s with wa := L } n { P with va := v } where
 blk := hb
 na := (h.na.keep o1 (fun b hb q => h.sep.av b hb (Option.mem_toList.1 q))).keep o2 (fun b hb q => h.sep.ag (by rw [← List.mem_singleton.1 q]; exact hb))
 nb := (h.nb.keep o1 (fun b hb q => h.sep.bv b hb (Option.mem_toList.1 q))).keep o2 (fun b hb q => h.sep.bg (by rw [← List.mem_singleton.1 q]; exact hb))
 qa := q.only o2 (fun b hb z => by
  rw [List.mem_singleton.1 z] at hb
  rcases hv with e | e | e
  ·
   rw [e] at hb; cases hb
  ·
   rw [e] at hb; exact h.sep.vg hb
  ·
   have := e _ hb
   have := h.blk.lt
   omega)
 qb := (h.qb.only o1 (fun b hb q => h.sep.vw b (Option.mem_toList.1 q) hb)).only o2 (fun b hb q => h.sep.wg (by rw [← List.mem_singleton.1 q]; exact hb))
 bg := h.bg
 sep :=
  {
   ab := h.sep.ab
   av := fun x hx z => by
    rcases hv with e | e | e
    ·
     rw [e] at z; cases z
    ·
     rw [e] at z; exact h.sep.av x hx z
    ·
     have := e _ z
     have := (h.na.low x hx).2
     omega
   aw := h.sep.aw
   ag := h.sep.ag
   bv := fun x hx z => by
    rcases hv with e | e | e
    ·
     rw [e] at z; cases z
    ·
     rw [e] at z; exact h.sep.bv x hx z
    ·
     have := e _ z
     have := (h.nb.low x hx).2
     omega
   bw := h.sep.bw
   bg := h.sep.bg
   vg := fun z => by
    rcases hv with e | e | e
    ·
     rw [e] at z; cases z
    ·
     rw [e] at z; exact h.sep.vg z
    ·
     exact absurd h.blk.lt (Nat.not_lt.2 (e _ z))
   wg := h.sep.wg
   vw := fun x z => by
    rcases hv with e | e | e
    ·
     rw [e] at z; cases z
    ·
     rw [e] at z; exact h.sep.vw x z
    ·
     intro y
     have := e _ z
     have := (h.qb.lt x y).2
     omega }
theorem PwAt.wayB {w1 : World} (h : PwAt w base s n P) {v : Value} {L : List ByteArray} (o1 : Only P.vb.ownBlock.toList w w1) (q : Wq w1 base v L) (hv : v.ownBlock = none ∨ v.ownBlock = P.vb.ownBlock ∨ ∀ b, v.ownBlock = some b → w.heap.size ≤ b) (o2 : Only [P.g] w1 w')
  (hb : Blk w' P.g 33 (prC P.a.g P.b.g P.va v s.ua s.ub n)) : PwAt w' base { s with wb := L } n { P with vb := v } where
 blk := hb
 na := (h.na.keep o1 (fun b hb q => h.sep.aw b hb (Option.mem_toList.1 q))).keep o2 (fun b hb q => h.sep.ag (by rw [← List.mem_singleton.1 q]; exact hb))
 nb := (h.nb.keep o1 (fun b hb q => h.sep.bw b hb (Option.mem_toList.1 q))).keep o2 (fun b hb q => h.sep.bg (by rw [← List.mem_singleton.1 q]; exact hb))
 qa := (h.qa.only o1 (fun b hb q => h.sep.vw b hb (Option.mem_toList.1 q))).only o2 (fun b hb q => h.sep.vg (by rw [← List.mem_singleton.1 q]; exact hb))
 qb := q.only o2 (fun b hb z => by
  rw [List.mem_singleton.1 z] at hb
  rcases hv with e | e | e
  ·
   rw [e] at hb; cases hb
  ·
   rw [e] at hb; exact h.sep.wg hb
  ·
   have := e _ hb
   have := h.blk.lt
   omega)
 bg := h.bg
 sep :=
  {
   ab := h.sep.ab
   av := h.sep.av
   aw := fun x hx z => by
    rcases hv with e | e | e
    ·
     rw [e] at z; cases z
    ·
     rw [e] at z; exact h.sep.aw x hx z
    ·
     have := e _ z
     have := (h.na.low x hx).2
     omega
   ag := h.sep.ag
   bv := h.sep.bv
   bw := fun x hx z => by
    rcases hv with e | e | e
    ·
     rw [e] at z; cases z
    ·
     rw [e] at z; exact h.sep.bw x hx z
    ·
     have := e _ z
     have := (h.nb.low x hx).2
     omega
   bg := h.sep.bg
   vg := h.sep.vg
   wg := fun z => by
    rcases hv with e | e | e
    ·
     rw [e] at z; cases z
    ·
     rw [e] at z; exact h.sep.wg z
    ·
     exact absurd h.blk.lt (Nat.not_lt.2 (e _ z))
   vw := fun x y z => by
    rcases hv with e | e | e
    ·
     rw [e] at z; cases z
    ·
     rw [e] at z; exact h.sep.vw x y z
    ·
     have := e _ z
     have := (h.qa.lt x y).2
     omega }
end
end Go.Proofs.YtoaimoemaoinhaaGreatDoor
