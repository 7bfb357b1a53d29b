/- The methods of an object that is nil or zero; the walk of PeersNone. -/
import Derived.Test.YtoaimoemaoinhaaGreatDoorSh1
namespace Go.Proofs.YtoaimoemaoinhaaGreatDoor
open Go.RowKit Go.Rt Go.Rw Go.Mp

/-- A value that is no object. -/
def NoneV (w : World) (v : Value) : Prop := v = .pointer none ∨ ∃ g, v = .pointer (some ⟨g, 0, none⟩) ∧ g < w.heap.size ∧ w.cell? ⟨g, 5, none⟩ = some (.map none)
theorem NoneV.below {w w' : World} {v : Value} (h : NoneV w v) (b : Below w.heap.size w w') : NoneV w' v := by
  rcases h with h | ⟨g, h, h1, h2⟩
  · exact .inl h
  · exact .inr ⟨g, h, Nat.lt_of_lt_of_le h1 b.size, (b.cell (p := ⟨g, 5, none⟩) h1).trans h2⟩
theorem none_any (v : Value) (w : World) (h : NoneV w v) : Calls Tryz.prog 30 #[v] w fun e w' => e = .returned (.bool true) ∧ w' = w := by
  rcases h with rfl | ⟨g, rfl, _, h2⟩
  · exact none_nil w
  · exact none_zero g w h2
set_option maxRecDepth 100000 in
set_option maxHeartbeats 4000000 in
theorem dial_none (v : Value) (node : ByteArray) (w : World) (h : NoneV w v) : Calls Tryz.prog 10 #[v, .string node] w fun e w' => e = .returned (.int .i64 1) ∧ Below w.heap.size w w' := by
  have HN := Lib.hid (none_any v w h)
  clear h
  go_enter Tryz.func10, Tryz.ntmps10
  go_wp2_with fail
  refine HN.out.mono ?_
  rintro e w1 ⟨rfl, rfl⟩
  go_wp2_with fail
  go_ret
  exact ⟨rfl, Below.refl _ _⟩
set_option maxRecDepth 100000 in
set_option maxHeartbeats 4000000 in
theorem out_none (v : Value) (node : ByteArray) (w : World) (h : NoneV w v) : Calls Tryz.prog 21 #[v, .string node] w fun e w' => e = .returned (.slice none 0 0) ∧ Below w.heap.size w w' := by
  have HN := Lib.hid (none_any v w h)
  clear h
  go_enter Tryz.func21, Tryz.ntmps21
  go_wp2_with fail
  refine HN.out.mono ?_
  rintro e w1 ⟨rfl, rfl⟩
  go_wp2_with fail
  go_ret
  exact ⟨rfl, Below.refl _ _⟩
set_option maxRecDepth 100000 in
set_option maxHeartbeats 4000000 in
theorem nodes_none (v : Value) (w : World) (h : NoneV w v) : Calls Tryz.prog 18 #[v] w fun e w' => e = .returned (.slice none 0 0) ∧ Below w.heap.size w w' := by
  have HN := Lib.hid (none_any v w h)
  clear h
  go_enter Tryz.func18, Tryz.ntmps18
  go_wp2_with fail
  refine HN.out.mono ?_
  rintro e w1 ⟨rfl, rfl⟩
  go_wp2_with fail
  go_ret
  exact ⟨rfl, Below.refl _ _⟩
set_option maxRecDepth 100000 in
set_option maxHeartbeats 4000000 in
theorem packet_none (v : Value) (node data : ByteArray) (w : World) (h : NoneV w v) : Calls Tryz.prog 19 #[v, .string node, .string data] w fun e w' => e = .returned (.tuple #[.slice none 0 0, .int .i64 1]) ∧ Below w.heap.size w w' := by
  have HN := Lib.hid (none_any v w h)
  clear h
  go_enter Tryz.func19, Tryz.ntmps19
  go_wp2_with fail
  refine HN.out.mono ?_
  rintro e w1 ⟨rfl, rfl⟩
  go_wp2_with fail
  go_ret2
  exact ⟨rfl, Below.refl _ _⟩
set_option maxRecDepth 100000 in
set_option maxHeartbeats 4000000 in
theorem send_none (v : Value) (CS : Array Value) (w : World) (h : NoneV w v) : Calls Tryz.prog 20 #[v, .agg CS] w fun e w' => e = .returned (.int .i64 1) ∧ Below w.heap.size w w' := by
  have AL := (Below.refl w.heap.size w).alloc (Nat.le_refl _) (.cells CS 50)
  have HN := Lib.hid (none_any v _ (h.below AL))
  have B := Lib.hid AL
  clear h AL
  go_enter Tryz.func20, Tryz.ntmps20
  go_upto_region 1 with fail
  generalize w.alloc (.cells CS 50) = w1 at *
  go_wp2_with fail
  refine HN.out.mono ?_
  rintro e w2 ⟨rfl, rfl⟩
  go_wp2_with fail
  go_ret
  exact ⟨rfl, B.out⟩
set_option maxRecDepth 100000 in
set_option maxHeartbeats 4000000 in
theorem cut_none (v : Value) (node : ByteArray) (w : World) (h : NoneV w v) : Calls Tryz.prog 15 #[v, .string node] w fun e w' => e = .returned (.slice none 0 0) ∧ Below w.heap.size w w' := by
  have HO := Lib.hid (out_none v node w h)
  have HN := Lib.hid (fun W (hW : Below w.heap.size w W) => none_any v W (h.below hW))
  clear h
  go_enter Tryz.func15, Tryz.ntmps15
  go_wp2_with fail
  refine HO.out.mono ?_
  rintro e w1 ⟨rfl, bb⟩
  have B := Lib.hid bb
  clear bb
  go_wp2_with fail
  refine (HN.out _ B.out).mono ?_
  rintro e w2 ⟨rfl, rfl⟩
  go_wp2_with fail
  go_ret
  exact ⟨rfl, B.out⟩
end Go.Proofs.YtoaimoemaoinhaaGreatDoor
