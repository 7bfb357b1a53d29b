/- The walk of PeersNone. -/
import Derived.Test.YtoaimoemaoinhaaGreatDoorNone
namespace Go.Proofs.YtoaimoemaoinhaaGreatDoor
open Go.RowKit Go.Rt Go.Rw Go.Mp

def zeroP : Array Value := #[.string ⟨#[]⟩, .int .i64 0, .string ⟨#[]⟩, .int .u64 0, .int .u64 0, .map none, .map none, .map none]
/-- What the loop of the law keeps. -/
structure NW (n0 m g : Nat) (CS : Array Value) (w wr : World) : Prop where
  sig : Blk wr m 50 CS
  obj : Blk wr g 58 zeroP
  row : Blk wr (g + 1) 26 #[.pointer none, .pointer (some ⟨g, 0, none⟩)]
  bel : Below n0 w wr
  hn : n0 ≤ wr.heap.size
theorem NW.below {n0 m g : Nat} {CS : Array Value} {w wr W : World} (h : NW n0 m g CS w wr) (b : Below wr.heap.size wr W) : NW n0 m g CS w W :=
  ⟨h.sig.below b h.sig.lt, h.obj.below b h.obj.lt, h.row.below b h.row.lt, h.bel.trans (b.mono h.hn), Nat.le_trans h.hn b.size⟩
theorem NW.v0 {n0 m g : Nat} {CS : Array Value} {w wr : World} (_ : NW n0 m g CS w wr) : NoneV wr (.pointer none) := .inl rfl
theorem NW.v1 {n0 m g : Nat} {CS : Array Value} {w wr : World} (h : NW n0 m g CS w wr) : NoneV wr (.pointer (some ⟨g, 0, none⟩)) := .inr ⟨g, rfl, h.obj.lt, h.obj.cell 5⟩

set_option maxRecDepth 100000 in
set_option maxHeartbeats 8000000 in
theorem none_walk (node data : ByteArray) (CS : Array Value) (hCS : CS.size = 40) (w : World) : Calls Tryz.prog 5 #[.string node, .string data, .agg CS] w fun e w' => e = .returned (.bool true) ∧ Below w.heap.size w w' := by
  have HSZ := Lib.hid hCS
  clear hCS
  obtain ⟨m, hm⟩ : ∃ q, q = w.heap.size := ⟨_, rfl⟩
  have HM := Lib.hid hm
  have X := Lib.hid (Blk.new w 50 CS)
  have B := Lib.hid ((Below.refl w.heap.size w).alloc (Nat.le_refl _) (.cells CS 50))
  rw [← hm] at X B
  go_enter Tryz.func5, Tryz.ntmps5
  go_upto_region 1 with fail
  rw [← hm]
  generalize w.alloc (.cells CS 50) = w1 at X B ⊢
  clear hm
  go_wp2_with fail
  refine (shown6 w1).mono ?_
  rintro e w2 ⟨rfl, bb⟩
  replace B := Lib.hid (B.out.trans (bb.mono (by have := X.out.lt; omega)))
  replace X := Lib.hid (X.out.below bb X.out.lt)
  clear bb
  obtain ⟨g, hg⟩ : ∃ q, q = w2.heap.size := ⟨_, rfl⟩
  have HG := Lib.hid hg
  have N : Hid (NW m m g CS w ((w2.alloc (.cells zeroP 58)).alloc (.cells #[.pointer none, .pointer (some ⟨g, 0, none⟩)] 26))) := Lib.hid (by
    have hl := X.out.lt
    have a1 := (Below.refl w2.heap.size w2).alloc (Nat.le_refl _) (.cells zeroP 58)
    have a2 := a1.alloc a1.size (.cells #[.pointer none, .pointer (some ⟨g, 0, none⟩)] 26)
    have q := Blk.new (w2.alloc (.cells zeroP 58)) 26 #[.pointer none, .pointer (some ⟨g, 0, none⟩)]
    rw [World.size_alloc, ← hg] at q
    have q2 := (Blk.new w2 58 zeroP).alloc (.cells #[.pointer none, .pointer (some ⟨g, 0, none⟩)] 26)
    rw [← hg] at q2
    exact ⟨X.out.below a2 hl, q2, q, B.out.trans (a2.mono (by omega)), by have := a2.size; omega⟩)
  clear X B
  unfold zeroP at N
  go_upto_region 4 with fail
  rw [← hg]
  generalize (w2.alloc _).alloc _ = w3 at N ⊢
  clear hg
  go_wp2_with fail
  go_loopw [8] (fun i wr => ∃ k : Nat, k ≤ 2 ∧ i = .int .i64 k ∧ Hid (NW m m g CS w wr)) (fun i _ => 2 - (intOf i).toNat)
  case atStart => exact ⟨0, by omega, rfl, N⟩
  case round =>
    obtain ⟨k, hk, rfl, N⟩ := hrel
    by_cases hlt : k < 2
    · obtain ⟨v, hv⟩ : ∃ v, wr.cell? ⟨g + 1, k, none⟩ = some v ∧ Hid (NoneV wr v) := by
        have hk2 : k = 0 ∨ k = 1 := by omega
        rcases hk2 with rfl | rfl
        · exact ⟨_, N.out.row.cell 0, Lib.hid N.out.v0⟩
        · exact ⟨_, N.out.row.cell 1, Lib.hid N.out.v1⟩
      obtain ⟨hc, V⟩ := hv
      go_wp2_with fail
      clear hc
      refine (packet_none v node data _ V.out).mono ?_
      rintro e x1 ⟨rfl, bb⟩
      replace V := Lib.hid (V.out.below bb)
      replace N := Lib.hid (N.out.below bb)
      clear bb
      go_wp2_with fail
      refine (dial_none v node _ V.out).mono ?_
      rintro e x2 ⟨rfl, bb⟩
      replace V := Lib.hid (V.out.below bb)
      replace N := Lib.hid (N.out.below bb)
      clear bb
      go_wp2_with (refine wpList_load_blkG rfl 50 _ rfl m rfl _ 50 _ N.out.sig Tryz.underlying50 rfl (by rw [HSZ.out]; exact info26) ?_)
      refine (send_none v CS _ V.out).mono ?_
      rintro e x3 ⟨rfl, bb⟩
      replace V := Lib.hid (V.out.below bb)
      replace N := Lib.hid (N.out.below bb)
      clear bb
      go_wp2_with fail
      refine (out_none v node _ V.out).mono ?_
      rintro e x4 ⟨rfl, bb⟩
      replace V := Lib.hid (V.out.below bb)
      replace N := Lib.hid (N.out.below bb)
      clear bb
      go_wp2_with fail
      refine (cut_none v node _ V.out).mono ?_
      rintro e x5 ⟨rfl, bb⟩
      replace V := Lib.hid (V.out.below bb)
      replace N := Lib.hid (N.out.below bb)
      clear bb
      go_wp2_with fail
      refine (nodes_none v _ V.out).mono ?_
      rintro e x6 ⟨rfl, bb⟩
      replace N := Lib.hid (N.out.below bb)
      clear bb V
      go_wp2_with fail
      go_roundw
      case rel => exact ⟨k + 1, by omega, by go_num, N⟩
      case measure => simp [intOf]; omega
    · obtain rfl : k = 2 := by omega
      go_wp2_with fail
      go_ret
      exact ⟨rfl, by rw [← HM.out]; exact N.out.bel⟩
end Go.Proofs.YtoaimoemaoinhaaGreatDoor
