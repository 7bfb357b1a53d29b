/- Feed of a gatherer: the walk, case by case. -/
import Derived.Test.YtbddggdbhfmlnaaGather
namespace Go.Proofs.Ytbddggdbhfmlnaa
open Go.RowKit Go.Rt Go.Rw Go.Mp Go.Lib

theorem nilmap (m : Nat) (w : World) : (binOp .eql 59 (.map (some m)) (.map none)).run Try.prog w = .ok (.bool false) w := by kernel_rfl

/-- What a look-up gives. -/
def Looks (w : World) (m : Nat) (id : Int) (is : Bool) (v : Value) (next : Int) : Prop :=
  (Instr.lookup 59 (.map (some m)) (.int .i64 id) true).run Try.prog w = .ok (.tuple #[.agg #[v, .int .i64 next], .bool is]) w

theorem append_str_where {P : Program} {w : World} {base : Nat} {t u ty e : TypeId} {i : TypeInfo} (ht : P.underlying t = some (.slice e)) (hu : P.underlying u = some .string) (hi : P.info? e = some i) (hz : i.zero = some (.int .u8 0))
    (hsize : i.size = 1) (hby : i.bytes = 1) (v : Value) (n : Nat) (xs : List Value) (hown : w.ownsRow base e 1 v n xs) (s : ByteArray) (h63 : n + s.size ≤ maxLen) (hbytes : n + s.size ≤ 140737488355328)
    {v' : Value} {w' : World} (hr' : (Builtin.append_ #[t, u] ty #[v, .string s]).run P w = .ok v' w') : v'.ownBlock = v.ownBlock ∨ v'.ownBlock = some w.heap.size := by
  have hsmall : n + s.size ≤ 9223372036854775807 := by simp only [maxLen] at h63; omega
  have hxl : xs.length = n := by simpa using hown.1
  rcases hown.2 with ⟨rfl, rfl⟩ | ⟨g, cap, cur, rfl, hbg, hg, hnc, hcm, hcs, htake⟩
  · by_cases hm : s.size = 0
    · have hf := run_firstCells_string (P := P) w 1 s
      rw [hm] at hf
      have hr : (Builtin.append_ #[t, u] ty #[.slice none 0 0, .string s]).run P w = .ok (.slice none 0 0) w := by
        simp [Builtin.append_, run_underlying ht, run_underlying hu, sizeOf, typeInfo, hi, hsize, Builtin.lenOf, hm, hf]
      rw [hr] at hr'
      cases hr'
      exact .inl rfl
    · have hr := run_append_nil_string (P := P) w t u ty e i (.int .u8 0) ht hu hi hz s (by omega) (by omega) (by rw [hby]; omega)
      rw [hr] at hr'
      cases hr'
      exact .inr rfl
  · by_cases hroom : n + s.size ≤ cap
    · have hcs' : cur.size = cap := by simpa using hcs
      have hr := run_append_room_string (P := P) w t u ty e i ht hu hi hsize g n cap cur hg s hroom (by omega)
      rw [hr] at hr'
      cases hr'
      exact .inl rfl
    · have holds : ∀ j u, xs[j]? = some u → w.cell? ((⟨g, 0, none⟩ : Addr).add j) = some u := hown.cells (g := g) rfl
      have hr := run_append_grow_string (P := P) w t u ty e i (.int .u8 0) ht hu hi hz ⟨g, 0, none⟩ n cap xs (by rw [hsize]; simpa using hxl) holds s (by omega) (by omega) (by rw [hby]; exact growslice_fits (by omega) (by omega))
      rw [hr] at hr'
      cases hr'
      exact .inr rfl
theorem strCells_append (a b : ByteArray) : strCells (a ++ b) = strCells a ++ strCells b := by simp [strCells]

theorem not_mem2 {k a : Nat} {o : Option Nat} (h1 : k ≠ a) (h2 : some k ≠ o) : k ∉ a :: o.toList := by
  simp only [List.mem_cons, Option.mem_toList]
  rintro (q | q)
  · exact h1 q
  · exact h2 q.symm
theorem ownB_ne {W : World} {M base n : Nat} {cs : Array Value} {t : TypeId} {fr : Nat × Nat} {v : Value} {xs : List Value} (h : W.heap[M]? = some (.cells cs t fr)) (hr : W.ownsRow base 5 1 v n xs) (ht : t ≠ 5) : v.ownBlock ≠ some M := by
  intro e
  rcases hr.2 with ⟨rfl, _⟩ | ⟨g, cap, cur, rfl, _, hg, _⟩
  · cases e
  · simp [Value.ownBlock] at e
    subst e
    rw [h] at hg
    cases hg
    exact ht rfl
theorem ownsRow_putObj_map {W : World} {base m n : Nat} {v : Value} {xs : List Value} {M : List (Int × (Value × Int))} (h : W.ownsRow base 5 1 v n xs) (hm : MapAt W m idV msgV M) (o : Obj) : (W.putObj m o).ownsRow base 5 1 v n xs := by
  obtain ⟨es, c, hb, _⟩ := hm
  exact ownsRow_putObj h o hb rfl
theorem two_cells {W : World} {M : Nat} {a b : Value} {t : TypeId} (h : W.heap[M]? = some (.cells #[a, b] t (0, 0))) (x y : Value) : ((W.setCell ⟨M, 0, none⟩ x).setCell ⟨M, 1, none⟩ y).drew.heap[M]? = some (.cells #[x, y] t (0, 0)) := by
  have h1 := heap_setCell_same W M 0 #[a, b] t x h
  have h2 := heap_setCell_same (W.setCell ⟨M, 0, none⟩ x) M 1 _ t y h1
  simp only [List.setIfInBounds_toArray, List.set_cons_zero, List.set_cons_succ] at h2
  exact h2
theorem conv_row {W : World} {base n cap : Nat} {sa : Option Addr} {s : ByteArray} (h : W.ownsRow base 5 1 (.slice sa n cap) s.size (strCells s)) : (convert 62 9 (.slice sa n cap)).run Try.prog W = .ok (.string s) W := by
  rcases h.2 with ⟨e, h0⟩ | ⟨g, cap', cur, e, _, hg, hnc, _, _, htk⟩
  · cases e
    rw [run_convert_nil_bytes W 62 9 5 0 u62 u5 u9]
    have : s = ⟨#[]⟩ := by
      obtain ⟨⟨l⟩⟩ := s
      have : l.length = 0 := h0
      simp at this
      rw [this]
    rw [this]
  · cases e
    have := run_convert_bytes_back (P := Try.prog) W 62 9 5 ⟨g, 0, none⟩ cap s.data.toList u62 u5 u9 (by
      intro j hj
      rw [add_none, cell_at hg, Nat.zero_add]
      have hl : (strCells s)[j]? = some (.int .u8 (s.data.toList[j].toNat : Int)) := by simp [strCells, List.getElem?_eq_getElem hj]
      rw [← htk, List.getElem?_take] at hl
      split at hl
      · simpa using hl
      · cases hl)
    simpa using this
/-- The message's bytes with the fragment's, in w' as a row of their own: nothing has turned but the map, the message's row, new blocks. -/
structure Fed (w : World) (base m : Nat) (v v' : Value) (d : ByteArray) (M' : List (Int × (Value × Int))) (w' : World) : Prop where
  mp : MapAt w' m idV msgV M'
  row : w'.ownsRow base 5 1 v' d.size (strCells d)
  only : Only (m :: v.ownBlock.toList) w w'
  wher : v'.ownBlock = v.ownBlock ∨ ∀ g, v'.ownBlock = some g → w.heap.size ≤ g

set_option maxHeartbeats 400000 in
theorem feed_bad {base G m : Nat} {O : List OE} (w : World) (h : GA w base G m O) (id left : Int) (fi : Bool) (data : ByteArray) (hs : data.size ≤ 9223372036854775807) (hv : validB id left data = false) :
    Calls Try.prog 16 #[.pointer (some ⟨G, 0, none⟩), .agg #[.int .i64 id, .bool fi, .int .i64 left, .string data]] w fun e w' => e = .returned (.tuple #[.string ByteArray.empty, .bool false, .int .i64 2]) ∧ Below w.heap.size w w' := by
  have c0 := h.c0
  have hlt := h.lt
  have hn := nilmap m
  clear h
  go_enter Try.func16, Try.ntmps16
  go_wp2_with fail
  refine (valid_no id left fi data _ hs hv).mono ?_
  rintro e w1 ⟨rfl, b1⟩
  have B1 := Lib.hid b1
  clear b1
  go_wp2
  go_ret3
  exact ⟨rfl, ((Below.refl _ _).alloc (Nat.le_refl _) _).trans (B1.out.mono (by simp))⟩


set_option maxRecDepth 100000 in
set_option maxHeartbeats 2000000 in
theorem feed_form1 {base G m : Nat} {O : List OE} (w : World) (h : GA w base G m O) (id left : Int) (fi : Bool) (data : ByteArray) (hv : validB id left data = true) (is : Bool) (v : Value) (next : Int)
    (hlook : ∀ w', Below w.heap.size w w' → Looks w' m id is v next) (hsl : ∃ sa n cap, v = .slice sa n cap) (hno : (fi == is) = true) :
    Calls Try.prog 16 #[.pointer (some ⟨G, 0, none⟩), .agg #[.int .i64 id, .bool fi, .int .i64 left, .string data]] w fun e w' => e = .returned (.tuple #[.string ByteArray.empty, .bool false, .int .i64 6]) ∧ Below w.heap.size w w' := by
  have c0 := h.c0
  have hlt := h.lt
  have hn := nilmap m
  obtain ⟨sa, n, cap, rfl⟩ := hsl
  have HL := Lib.hid hlook
  clear h hlook
  go_enter Try.func16, Try.ntmps16
  go_wp2_with fail
  refine (valid_yes id left fi data _ hv).mono ?_
  rintro e w1 ⟨rfl, b1⟩
  have B1 : Below w.heap.size w w1 := ((Below.refl _ _).alloc (Nat.le_refl _) _).trans (b1.mono (by simp))
  have l1 : (Instr.lookup 59 (.map (some m)) (.int .i64 id) true).run Try.prog w1.drew = .ok (.tuple #[.agg #[.slice sa n cap, .int .i64 next], .bool is]) w1.drew := HL.out w1.drew B1.drew
  have l2 : (Instr.lookup 59 (.map (some m)) (.int .i64 id) true).run Try.prog (w1.alloc (.cells #[.slice none 0 0, .int .i64 0] 64)).drew = .ok (.tuple #[.agg #[.slice sa n cap, .int .i64 next], .bool is]) (w1.alloc (.cells #[.slice none 0 0, .int .i64 0] 64)).drew := HL.out _ (B1.alloc B1.size _).drew
  have c1 : w1.cell? ⟨G, 0, none⟩ = some (.map (some m)) := (B1.cell (p := ⟨G, 0, none⟩) hlt).trans c0
  have hbk : w1.heap[w.heap.size]? = some (.cells #[.int .i64 id, .bool fi, .int .i64 left, .string data] 30 (0, 0)) := (b1.block w.heap.size (by simp)).trans (World.alloc_heap_new w _)
  have k0 : w1.cell? ⟨w.heap.size, 0, none⟩ = some (.int .i64 id) := by simp [World.cell?, hbk]
  have k1 : w1.cell? ⟨w.heap.size, 1, none⟩ = some (.bool fi) := by simp [World.cell?, hbk]
  have k2 : w1.cell? ⟨w.heap.size, 2, none⟩ = some (.int .i64 left) := by simp [World.cell?, hbk]
  have k3 : w1.cell? ⟨w.heap.size, 3, none⟩ = some (.string data) := by simp [World.cell?, hbk]
  have hz := b1.size
  simp only [World.size_alloc] at hz
  have hz1 : w.heap.size < w1.heap.size := by omega
  have hz2 : G < w1.heap.size := by omega
  have HB1 := Lib.hid B1
  have HBK := Lib.hid hbk
  clear b1 hbk B1 hz
  go_wp2_with fail
  go_region
  all_goals
    go_wp2
    go_ret3
    exact ⟨rfl, (HB1.out.alloc HB1.out.size _).drew⟩


set_option maxRecDepth 100000 in
set_option maxHeartbeats 2000000 in
theorem feed_form2 {base G m : Nat} {O : List OE} (w : World) (h : GA w base G m O) (id left : Int) (data : ByteArray) (hv : validB id left data = true) (v : Value) (next : Int)
    (hlook : ∀ w', Below w.heap.size w w' → Looks w' m id true v next) (hsl : ∃ sa n cap, v = .slice sa n cap) (hno : (left != next) = true) :
    Calls Try.prog 16 #[.pointer (some ⟨G, 0, none⟩), .agg #[.int .i64 id, .bool false, .int .i64 left, .string data]] w fun e w' => e = .returned (.tuple #[.string ByteArray.empty, .bool false, .int .i64 6]) ∧ Below w.heap.size w w' := by
  have c0 := h.c0
  have hlt := h.lt
  have hn := nilmap m
  obtain ⟨sa, n, cap, rfl⟩ := hsl
  have HL := Lib.hid hlook
  clear h hlook
  go_enter Try.func16, Try.ntmps16
  go_wp2_with fail
  refine (valid_yes id left false data _ hv).mono ?_
  rintro e w1 ⟨rfl, b1⟩
  have B1 : Below w.heap.size w w1 := ((Below.refl _ _).alloc (Nat.le_refl _) _).trans (b1.mono (by simp))
  have l1 : (Instr.lookup 59 (.map (some m)) (.int .i64 id) true).run Try.prog w1.drew = .ok (.tuple #[.agg #[.slice sa n cap, .int .i64 next], .bool true]) w1.drew := HL.out w1.drew B1.drew
  have l2 : (Instr.lookup 59 (.map (some m)) (.int .i64 id) true).run Try.prog (w1.alloc (.cells #[.slice none 0 0, .int .i64 0] 64)).drew = .ok (.tuple #[.agg #[.slice sa n cap, .int .i64 next], .bool true]) (w1.alloc (.cells #[.slice none 0 0, .int .i64 0] 64)).drew := HL.out _ (B1.alloc B1.size _).drew
  have c1 : w1.cell? ⟨G, 0, none⟩ = some (.map (some m)) := (B1.cell (p := ⟨G, 0, none⟩) hlt).trans c0
  have hbk : w1.heap[w.heap.size]? = some (.cells #[.int .i64 id, .bool false, .int .i64 left, .string data] 30 (0, 0)) := (b1.block w.heap.size (by simp)).trans (World.alloc_heap_new w _)
  have k0 : w1.cell? ⟨w.heap.size, 0, none⟩ = some (.int .i64 id) := by simp [World.cell?, hbk]
  have k1 : w1.cell? ⟨w.heap.size, 1, none⟩ = some (.bool false) := by simp [World.cell?, hbk]
  have k2 : w1.cell? ⟨w.heap.size, 2, none⟩ = some (.int .i64 left) := by simp [World.cell?, hbk]
  have k3 : w1.cell? ⟨w.heap.size, 3, none⟩ = some (.string data) := by simp [World.cell?, hbk]
  have hz := b1.size
  simp only [World.size_alloc] at hz
  have hz1 : w.heap.size < w1.heap.size := by omega
  have hz2 : G < w1.heap.size := by omega
  have HB1 := Lib.hid B1
  have HBK := Lib.hid hbk
  clear b1 hbk B1 hz
  go_wp2_with fail
  go_region
  all_goals
    go_wp2
    go_ret3
    exact ⟨rfl, (HB1.out.alloc HB1.out.size _).drew⟩


set_option maxRecDepth 100000 in
set_option maxHeartbeats 2000000 in
theorem feed_full {base G m : Nat} {O : List OE} (w : World) (h : GA w base G m O) (id left : Int) (data : ByteArray) (hv : validB id left data = true) (v : Value) (next : Int)
    (hlook : ∀ w', Below w.heap.size w w' → Looks w' m id false v next) (hsl : ∃ sa n cap, v = .slice sa n cap) (hO : O.length ≤ 1000000) (hl : 1 < left) (hf : 64 ≤ O.length) :
    Calls Try.prog 16 #[.pointer (some ⟨G, 0, none⟩), .agg #[.int .i64 id, .bool true, .int .i64 left, .string data]] w fun e w' => e = .returned (.tuple #[.string ByteArray.empty, .bool false, .int .i64 5]) ∧ Below w.heap.size w w' := by
  have c0 := h.c0
  have hlt := h.lt
  have hn := nilmap m
  obtain ⟨sa, n, cap, rfl⟩ := hsl
  have HL := Lib.hid hlook
  have hf' : (64 : Int) ≤ O.length := by omega
  have hlen : ∀ (w' : World), Below w.heap.size w w' → ∀ ty, (Builtin.len_ #[59] ty #[.map (some m)]).run Try.prog w' = .ok (.int .i64 O.length) w' := by
    intro w' hb ty
    have := run_len (P := Try.prog) (ty := ty) u59 (h.below hb).mp
    simp only [List.length_map] at this
    exact this
  have HLEN := Lib.hid hlen
  clear hlen
  clear h hlook
  go_enter Try.func16, Try.ntmps16
  go_wp2_with fail
  refine (valid_yes id left true data _ hv).mono ?_
  rintro e w1 ⟨rfl, b1⟩
  have B1 : Below w.heap.size w w1 := ((Below.refl _ _).alloc (Nat.le_refl _) _).trans (b1.mono (by simp))
  have l1 : (Instr.lookup 59 (.map (some m)) (.int .i64 id) true).run Try.prog w1.drew = .ok (.tuple #[.agg #[.slice sa n cap, .int .i64 next], .bool false]) w1.drew := HL.out w1.drew B1.drew
  have l2 : (Instr.lookup 59 (.map (some m)) (.int .i64 id) true).run Try.prog (w1.alloc (.cells #[.slice none 0 0, .int .i64 0] 64)).drew = .ok (.tuple #[.agg #[.slice sa n cap, .int .i64 next], .bool false]) (w1.alloc (.cells #[.slice none 0 0, .int .i64 0] 64)).drew := HL.out _ (B1.alloc B1.size _).drew
  have c1 : w1.cell? ⟨G, 0, none⟩ = some (.map (some m)) := (B1.cell (p := ⟨G, 0, none⟩) hlt).trans c0
  have hbk : w1.heap[w.heap.size]? = some (.cells #[.int .i64 id, .bool true, .int .i64 left, .string data] 30 (0, 0)) := (b1.block w.heap.size (by simp)).trans (World.alloc_heap_new w _)
  have k0 : w1.cell? ⟨w.heap.size, 0, none⟩ = some (.int .i64 id) := by simp [World.cell?, hbk]
  have k1 : w1.cell? ⟨w.heap.size, 1, none⟩ = some (.bool true) := by simp [World.cell?, hbk]
  have k2 : w1.cell? ⟨w.heap.size, 2, none⟩ = some (.int .i64 left) := by simp [World.cell?, hbk]
  have k3 : w1.cell? ⟨w.heap.size, 3, none⟩ = some (.string data) := by simp [World.cell?, hbk]
  have hz := b1.size
  simp only [World.size_alloc] at hz
  have hz1 : w.heap.size < w1.heap.size := by omega
  have hz2 : G < w1.heap.size := by omega
  have HB1 := Lib.hid B1
  have HBK := Lib.hid hbk
  clear b1 hbk B1 hz
  have hl3 := HLEN.out (w1.alloc (.cells #[.slice sa n cap, .int .i64 next] 64)).drew (HB1.out.alloc HB1.out.size _).drew
  go_wp2_with fail
  go_region
  all_goals
    go_wp2
    go_ret3
    exact ⟨rfl, (HB1.out.alloc HB1.out.size _).drew⟩


set_option maxRecDepth 100000 in
set_option maxHeartbeats 2000000 in
theorem feed_long {base G m : Nat} {O : List OE} (w : World) (h : GA w base G m O) (id left : Int) (data : ByteArray) (hv : validB id left data = true) (v : Value) (next : Int)
    (hlook : ∀ w', Below w.heap.size w w' → Looks w' m id true v next) (hsl : ∃ sa n cap, v = .slice sa n cap) (hnx : left = next) (d : ByteArray) (hd : ∃ sa cap, v = .slice sa d.size cap) (hds : d.size ≤ 262144) (hlong : 262144 < d.size + data.size) :
    Calls Try.prog 16 #[.pointer (some ⟨G, 0, none⟩), .agg #[.int .i64 id, .bool false, .int .i64 left, .string data]] w fun e w' => e = .returned (.tuple #[.string ByteArray.empty, .bool false, .int .i64 3]) ∧ Below w.heap.size w w' := by
  have c0 := h.c0
  have hlt := h.lt
  have hn := nilmap m
  obtain ⟨sa, n, cap, rfl⟩ := hsl
  have HL := Lib.hid hlook
  have hne : (left != next) = false := by simp [hnx]
  obtain ⟨sa', cap', e⟩ := hd
  simp only [Value.slice.injEq] at e
  obtain ⟨_, e2, _⟩ := e
  have hds2 : data.size ≤ 4096 := (valid_of hv).2.2.2.2
  have hds3 : n ≤ 262144 := by omega
  have hlg : (262144 : Int) < (n : Int) + data.size := by omega
  clear hlong hnx e2
  clear h hlook
  go_enter Try.func16, Try.ntmps16
  go_wp2_with fail
  refine (valid_yes id left false data _ hv).mono ?_
  rintro e w1 ⟨rfl, b1⟩
  have B1 : Below w.heap.size w w1 := ((Below.refl _ _).alloc (Nat.le_refl _) _).trans (b1.mono (by simp))
  have l1 : (Instr.lookup 59 (.map (some m)) (.int .i64 id) true).run Try.prog w1.drew = .ok (.tuple #[.agg #[.slice sa n cap, .int .i64 next], .bool true]) w1.drew := HL.out w1.drew B1.drew
  have l2 : (Instr.lookup 59 (.map (some m)) (.int .i64 id) true).run Try.prog (w1.alloc (.cells #[.slice none 0 0, .int .i64 0] 64)).drew = .ok (.tuple #[.agg #[.slice sa n cap, .int .i64 next], .bool true]) (w1.alloc (.cells #[.slice none 0 0, .int .i64 0] 64)).drew := HL.out _ (B1.alloc B1.size _).drew
  have c1 : w1.cell? ⟨G, 0, none⟩ = some (.map (some m)) := (B1.cell (p := ⟨G, 0, none⟩) hlt).trans c0
  have hbk : w1.heap[w.heap.size]? = some (.cells #[.int .i64 id, .bool false, .int .i64 left, .string data] 30 (0, 0)) := (b1.block w.heap.size (by simp)).trans (World.alloc_heap_new w _)
  have k0 : w1.cell? ⟨w.heap.size, 0, none⟩ = some (.int .i64 id) := by simp [World.cell?, hbk]
  have k1 : w1.cell? ⟨w.heap.size, 1, none⟩ = some (.bool false) := by simp [World.cell?, hbk]
  have k2 : w1.cell? ⟨w.heap.size, 2, none⟩ = some (.int .i64 left) := by simp [World.cell?, hbk]
  have k3 : w1.cell? ⟨w.heap.size, 3, none⟩ = some (.string data) := by simp [World.cell?, hbk]
  have hz := b1.size
  simp only [World.size_alloc] at hz
  have hz1 : w.heap.size < w1.heap.size := by omega
  have hz2 : G < w1.heap.size := by omega
  have HB1 := Lib.hid B1
  have HBK := Lib.hid hbk
  clear b1 hbk B1 hz
  go_wp2_with fail
  go_region
  all_goals
    go_wp2
    go_ret3
    exact ⟨rfl, (HB1.out.alloc HB1.out.size _).drew⟩


set_option maxRecDepth 100000 in
set_option maxHeartbeats 2000000 in
theorem feed_put1 {base G m : Nat} {O : List OE} (w : World) (h : GA w base G m O) (id left : Int) (data : ByteArray) (hv : validB id left data = true) (v : Value) (next : Int)
    (hlook : ∀ w', Below w.heap.size w w' → Looks w' m id false v next) (hsl : ∃ sa n cap, v = .slice sa n cap) (d : ByteArray) (hrow : w.ownsRow base 5 1 v d.size (strCells d)) (hvb : ∀ g, v.ownBlock = some g → g ≠ G ∧ g ≠ m) (hbz : base ≤ w.heap.size) (hsum : d.size + data.size ≤ 262144) (hl : 1 < left) (hfull : O.length < 64) :
    Calls Try.prog 16 #[.pointer (some ⟨G, 0, none⟩), .agg #[.int .i64 id, .bool true, .int .i64 left, .string data]] w fun e w' => e = .returned (.tuple #[.string ByteArray.empty, .bool false, .int .i64 0]) ∧ ∃ v', Fed w base m v v' (d ++ data) (Mp.put (O.map kv) id (v', left - 1)) w' := by
  have c0 := h.c0
  have hlt := h.lt
  have hn := nilmap m
  obtain ⟨sa, n, cap, rfl⟩ := hsl
  have HL := Lib.hid hlook
  obtain ⟨i0, hi, hza, hzb, hzc⟩ := info_parts info5
  obtain ⟨hv1, hv2, hv3, hv4, hv5⟩ := valid_of hv
  have hgl := hrow.lt
  have hmlt := h.mp.lt
  have hnd : n ≤ d.size := by
    rcases hrow.2 with ⟨e, _⟩ | ⟨_, _, _, e, _⟩
    · simp at e; omega
    · simp at e; omega
  have hnd2 : ¬ (262144 : Int) < (n : Int) + data.size := by omega
  have HH := Lib.hid h
  have HROW := Lib.hid hrow
  have HVB := Lib.hid hvb
  have HGL := Lib.hid hgl
  have HI := Lib.hid (And.intro hi (And.intro hza (And.intro hzb hzc)))
  clear hrow hvb hgl hi hza hzb hzc
  have hlen : ∀ (w' : World), Below w.heap.size w w' → ∀ ty, (Builtin.len_ #[59] ty #[.map (some m)]).run Try.prog w' = .ok (.int .i64 O.length) w' := by
    intro w' hb ty
    have := run_len (P := Try.prog) (ty := ty) u59 (h.below hb).mp
    simp only [List.length_map] at this
    exact this
  have HLEN := Lib.hid hlen
  clear hlen
  have hf' : ¬ (64 : Int) ≤ O.length := by omega
  clear h hlook
  go_enter Try.func16, Try.ntmps16
  go_wp2_with fail
  refine (valid_yes id left true data _ hv).mono ?_
  rintro e w1 ⟨rfl, b1⟩
  have B1 : Below w.heap.size w w1 := ((Below.refl _ _).alloc (Nat.le_refl _) _).trans (b1.mono (by simp))
  have l1 : (Instr.lookup 59 (.map (some m)) (.int .i64 id) true).run Try.prog w1.drew = .ok (.tuple #[.agg #[.slice sa n cap, .int .i64 next], .bool false]) w1.drew := HL.out w1.drew B1.drew
  have l2 : (Instr.lookup 59 (.map (some m)) (.int .i64 id) true).run Try.prog (w1.alloc (.cells #[.slice none 0 0, .int .i64 0] 64)).drew = .ok (.tuple #[.agg #[.slice sa n cap, .int .i64 next], .bool false]) (w1.alloc (.cells #[.slice none 0 0, .int .i64 0] 64)).drew := HL.out _ (B1.alloc B1.size _).drew
  have c1 : w1.cell? ⟨G, 0, none⟩ = some (.map (some m)) := (B1.cell (p := ⟨G, 0, none⟩) hlt).trans c0
  have hbk : w1.heap[w.heap.size]? = some (.cells #[.int .i64 id, .bool true, .int .i64 left, .string data] 30 (0, 0)) := (b1.block w.heap.size (by simp)).trans (World.alloc_heap_new w _)
  have k0 : w1.cell? ⟨w.heap.size, 0, none⟩ = some (.int .i64 id) := by simp [World.cell?, hbk]
  have k1 : w1.cell? ⟨w.heap.size, 1, none⟩ = some (.bool true) := by simp [World.cell?, hbk]
  have k2 : w1.cell? ⟨w.heap.size, 2, none⟩ = some (.int .i64 left) := by simp [World.cell?, hbk]
  have k3 : w1.cell? ⟨w.heap.size, 3, none⟩ = some (.string data) := by simp [World.cell?, hbk]
  have hz := b1.size
  simp only [World.size_alloc] at hz
  have hz1 : w.heap.size < w1.heap.size := by omega
  have hz2 : G < w1.heap.size := by omega
  have HB1 := Lib.hid B1
  have HBK := Lib.hid hbk
  clear b1 hbk B1 hz
  have hB2 : Below w.heap.size w (w1.alloc (.cells #[.slice sa n cap, .int .i64 next] 64)).drew := (HB1.out.alloc HB1.out.size _).drew
  have hrow2 : (w1.alloc (.cells #[.slice sa n cap, .int .i64 next] 64)).drew.ownsRow base 5 1 (.slice sa n cap) d.size (strCells d) :=
    HROW.out.kept (row := none) ⟨hB2.os, hB2.tape, hB2.output, hB2.size, fun k hk _ => hB2.block k hk⟩ (by cases sa <;> simp [Value.ownBlock])
  obtain ⟨hi, hza, hzb, hzc⟩ := HI.out
  obtain ⟨v', W3, hrun, hown, hgrow, _⟩ := run_append_own_string (P := Try.prog) (w1.alloc (.cells #[.slice sa n cap, .int .i64 next] 64)).drew base 62 9 62 5 i0 u62 u9 hi hza hzb hzc (.slice sa n cap) d.size (strCells d) hrow2 data (by unfold maxLen; omega) (by omega) (by simp; omega)
  have hwh := append_str_where (P := Try.prog) (ty := 62) u62 u9 hi hza hzb hzc (.slice sa n cap) d.size (strCells d) hrow2 data (by unfold maxLen; omega) (by omega) hrun
  rw [← strCells_append, ← ByteArray.size_append] at hown
  obtain ⟨sa', n', cap', rfl⟩ : ∃ sa' n' cap', v' = .slice sa' n' cap' := by
    rcases hown.2 with ⟨e, _⟩ | ⟨g, c, _, e, _⟩
    · exact ⟨_, _, _, e⟩
    · exact ⟨_, _, _, e⟩
  have hnM : some w1.heap.size ≠ (Value.slice sa n cap).ownBlock := fun e => by have := (HGL.out _ e.symm).2; omega
  have hnF : some w.heap.size ≠ (Value.slice sa n cap).ownBlock := fun e => by have := (HGL.out _ e.symm).2; omega
  have hnG : some G ≠ (Value.slice sa n cap).ownBlock := fun e => (HVB.out _ e.symm).1 rfl
  have hnm : some m ≠ (Value.slice sa n cap).ownBlock := fun e => (HVB.out _ e.symm).2 rfl
  have hM3 : W3.heap[w1.heap.size]? = some (.cells #[.slice sa n cap, .int .i64 next] 64 (0, 0)) := (hgrow.block _ (by simp) hnM).trans (World.alloc_heap_new w1 _)
  have hF3 : W3.heap[w.heap.size]? = some (.cells #[.int .i64 id, .bool true, .int .i64 left, .string data] 30 (0, 0)) := (hgrow.block _ (by simp; omega) hnF).trans ((Below.heap_alloc _ _ _ hz1).trans HBK.out)
  have hG3 : W3.heap[G]? = some (.cells #[.map (some m)] 61 (0, 0)) := (hgrow.block _ (by simp; omega) hnG).trans ((hB2.block G hlt).trans HH.out.blk)
  have m0 := cell_at hM3 0
  have m1 := cell_at hM3 1
  have q0 := cell_at hF3 0
  have q1 := cell_at hF3 1
  have q2 := cell_at hF3 2
  have q3 := cell_at hF3 3
  have g3 := cell_at hG3 0
  simp only [List.getElem?_toArray, List.getElem?_cons_zero, List.getElem?_cons_succ] at m0 m1 q0 q1 q2 q3 g3
  have fm0 : W3.frozen? ⟨w1.heap.size, 0, none⟩ = false := by simp [World.frozen?, hM3]
  have fm1 : W3.frozen? ⟨w1.heap.size, 1, none⟩ = false := by simp [World.frozen?, hM3]
  have hz3 : w1.heap.size + 1 ≤ W3.heap.size := by have := hgrow.size; simpa using this
  have o4 : Only (w1.heap.size :: (Value.slice sa n cap).ownBlock.toList) w ((W3.setCell ⟨w1.heap.size, 0, none⟩ (.slice sa' n' cap')).setCell ⟨w1.heap.size, 1, none⟩ (.int .i64 (left - 1))).drew :=
    ((((Only.of_below hB2).trans (Only.grown hgrow (fun r hr => .inl (by simp [hr])))).trans (Only.setCell _ _ _ (by simp))).trans (Only.setCell _ _ _ (by simp))).trans (Only.drew _ _)
  have mp4 : MapAt ((W3.setCell ⟨w1.heap.size, 0, none⟩ (.slice sa' n' cap')).setCell ⟨w1.heap.size, 1, none⟩ (.int .i64 (left - 1))).drew m idV msgV (O.map kv) :=
    HH.out.mp.of_heap (o4.block m hmlt (not_mem2 (by omega) hnm))
  have row4 : ((W3.setCell ⟨w1.heap.size, 0, none⟩ (.slice sa' n' cap')).setCell ⟨w1.heap.size, 1, none⟩ (.int .i64 (left - 1))).drew.ownsRow base 5 1 (.slice sa' n' cap') (d ++ data).size (strCells (d ++ data)) :=
    (ownsRow_setCell_other (a := ⟨w1.heap.size, 1, none⟩) (ownsRow_setCell_other (a := ⟨w1.heap.size, 0, none⟩) hown (ownB_ne hM3 hown (by decide)) _) (ownB_ne hM3 hown (by decide)) _).drew
  have HRN := Lib.hid hrun
  have hl3 := HLEN.out (w1.alloc (.cells #[.slice sa n cap, .int .i64 next] 64)).drew (HB1.out.alloc HB1.out.size _).drew
  obtain ⟨o, hu, hm⟩ := run_update (P := Try.prog) (int_emb u2) u59 mp4 id (.slice sa' n' cap', left - 1)
  replace hu : (Instr.mapUpdate 59 (.map (some m)) (.int .i64 id) (.agg #[.slice sa' n' cap', .int .i64 (left - 1)])).run Try.prog ((W3.setCell ⟨w1.heap.size, 0, none⟩ (.slice sa' n' cap')).setCell ⟨w1.heap.size, 1, none⟩ (.int .i64 (left - 1))).drew = .ok () (((W3.setCell ⟨w1.heap.size, 0, none⟩ (.slice sa' n' cap')).setCell ⟨w1.heap.size, 1, none⟩ (.int .i64 (left - 1))).drew.putObj m o) := hu
  have o5 := o4.mono (cs := m :: (Value.slice sa n cap).ownBlock.toList) (fun b hb => by
    simp only [List.mem_cons, Option.mem_toList] at hb ⊢
    rcases hb with rfl | hb
    · exact .inr (by omega)
    · exact .inl (.inr hb))
  have row5 := ownsRow_putObj_map row4 mp4 o
  have HFIN := Lib.hid (Fed.mk (v := .slice sa n cap) hm row5 (o5.trans (Only.putObj (bs := m :: (Value.slice sa n cap).ownBlock.toList) _ m o (by simp))) (hwh.imp (fun e => e) (fun e g hg => by rw [e] at hg; simp at hg; omega)))
  have hM5 : (((W3.setCell ⟨w1.heap.size, 0, none⟩ (.slice sa' n' cap')).setCell ⟨w1.heap.size, 1, none⟩ (.int .i64 (left - 1))).drew.putObj m o).heap[w1.heap.size]? = some (.cells #[.slice sa' n' cap', .int .i64 (left - 1)] 64 (0, 0)) :=
    (World.putObj_heap_other (by omega)).trans (two_cells hM3 _ _)
  have hconv := conv_row row5
  generalize ((W3.setCell ⟨w1.heap.size, 0, none⟩ (.slice sa' n' cap')).setCell ⟨w1.heap.size, 1, none⟩ (.int .i64 (left - 1))).drew.putObj m o = Y at *
  have y0 := cell_at hM5 0
  simp only [List.getElem?_toArray, List.getElem?_cons_zero] at y0
  clear hown hgrow hM3 hF3 hG3 o4 o5 mp4 row4 row5 hrow2 hB2 hm hi hza hzb hzc hwh hM5 hrun
  go_wp2_with fail
  go_region
  all_goals
    go_wp2_with (at_builtin; refine wpList_append_run rfl _ _ 62 9 rfl rfl rfl HRN.out ?_)
    go_region
    go_wp2
    go_ret3
    exact ⟨rfl, _, HFIN.out⟩


set_option maxRecDepth 100000 in
set_option maxHeartbeats 2000000 in
theorem feed_put2 {base G m : Nat} {O : List OE} (w : World) (h : GA w base G m O) (id left : Int) (data : ByteArray) (hv : validB id left data = true) (v : Value) (next : Int)
    (hlook : ∀ w', Below w.heap.size w w' → Looks w' m id true v next) (hsl : ∃ sa n cap, v = .slice sa n cap) (d : ByteArray) (hrow : w.ownsRow base 5 1 v d.size (strCells d)) (hvb : ∀ g, v.ownBlock = some g → g ≠ G ∧ g ≠ m) (hbz : base ≤ w.heap.size) (hsum : d.size + data.size ≤ 262144) (hl : 1 < left) (hnx : left = next) :
    Calls Try.prog 16 #[.pointer (some ⟨G, 0, none⟩), .agg #[.int .i64 id, .bool false, .int .i64 left, .string data]] w fun e w' => e = .returned (.tuple #[.string ByteArray.empty, .bool false, .int .i64 0]) ∧ ∃ v', Fed w base m v v' (d ++ data) (Mp.put (O.map kv) id (v', left - 1)) w' := by
  have c0 := h.c0
  have hlt := h.lt
  have hn := nilmap m
  obtain ⟨sa, n, cap, rfl⟩ := hsl
  have HL := Lib.hid hlook
  obtain ⟨i0, hi, hza, hzb, hzc⟩ := info_parts info5
  obtain ⟨hv1, hv2, hv3, hv4, hv5⟩ := valid_of hv
  have hgl := hrow.lt
  have hmlt := h.mp.lt
  have hnd : n ≤ d.size := by
    rcases hrow.2 with ⟨e, _⟩ | ⟨_, _, _, e, _⟩
    · simp at e; omega
    · simp at e; omega
  have hnd2 : ¬ (262144 : Int) < (n : Int) + data.size := by omega
  have HH := Lib.hid h
  have HROW := Lib.hid hrow
  have HVB := Lib.hid hvb
  have HGL := Lib.hid hgl
  have HI := Lib.hid (And.intro hi (And.intro hza (And.intro hzb hzc)))
  clear hrow hvb hgl hi hza hzb hzc
  have hne : (left != next) = false := by simp [hnx]
  clear hnx
  clear h hlook
  go_enter Try.func16, Try.ntmps16
  go_wp2_with fail
  refine (valid_yes id left false data _ hv).mono ?_
  rintro e w1 ⟨rfl, b1⟩
  have B1 : Below w.heap.size w w1 := ((Below.refl _ _).alloc (Nat.le_refl _) _).trans (b1.mono (by simp))
  have l1 : (Instr.lookup 59 (.map (some m)) (.int .i64 id) true).run Try.prog w1.drew = .ok (.tuple #[.agg #[.slice sa n cap, .int .i64 next], .bool true]) w1.drew := HL.out w1.drew B1.drew
  have l2 : (Instr.lookup 59 (.map (some m)) (.int .i64 id) true).run Try.prog (w1.alloc (.cells #[.slice none 0 0, .int .i64 0] 64)).drew = .ok (.tuple #[.agg #[.slice sa n cap, .int .i64 next], .bool true]) (w1.alloc (.cells #[.slice none 0 0, .int .i64 0] 64)).drew := HL.out _ (B1.alloc B1.size _).drew
  have c1 : w1.cell? ⟨G, 0, none⟩ = some (.map (some m)) := (B1.cell (p := ⟨G, 0, none⟩) hlt).trans c0
  have hbk : w1.heap[w.heap.size]? = some (.cells #[.int .i64 id, .bool false, .int .i64 left, .string data] 30 (0, 0)) := (b1.block w.heap.size (by simp)).trans (World.alloc_heap_new w _)
  have k0 : w1.cell? ⟨w.heap.size, 0, none⟩ = some (.int .i64 id) := by simp [World.cell?, hbk]
  have k1 : w1.cell? ⟨w.heap.size, 1, none⟩ = some (.bool false) := by simp [World.cell?, hbk]
  have k2 : w1.cell? ⟨w.heap.size, 2, none⟩ = some (.int .i64 left) := by simp [World.cell?, hbk]
  have k3 : w1.cell? ⟨w.heap.size, 3, none⟩ = some (.string data) := by simp [World.cell?, hbk]
  have hz := b1.size
  simp only [World.size_alloc] at hz
  have hz1 : w.heap.size < w1.heap.size := by omega
  have hz2 : G < w1.heap.size := by omega
  have HB1 := Lib.hid B1
  have HBK := Lib.hid hbk
  clear b1 hbk B1 hz
  have hB2 : Below w.heap.size w (w1.alloc (.cells #[.slice sa n cap, .int .i64 next] 64)).drew := (HB1.out.alloc HB1.out.size _).drew
  have hrow2 : (w1.alloc (.cells #[.slice sa n cap, .int .i64 next] 64)).drew.ownsRow base 5 1 (.slice sa n cap) d.size (strCells d) :=
    HROW.out.kept (row := none) ⟨hB2.os, hB2.tape, hB2.output, hB2.size, fun k hk _ => hB2.block k hk⟩ (by cases sa <;> simp [Value.ownBlock])
  obtain ⟨hi, hza, hzb, hzc⟩ := HI.out
  obtain ⟨v', W3, hrun, hown, hgrow, _⟩ := run_append_own_string (P := Try.prog) (w1.alloc (.cells #[.slice sa n cap, .int .i64 next] 64)).drew base 62 9 62 5 i0 u62 u9 hi hza hzb hzc (.slice sa n cap) d.size (strCells d) hrow2 data (by unfold maxLen; omega) (by omega) (by simp; omega)
  have hwh := append_str_where (P := Try.prog) (ty := 62) u62 u9 hi hza hzb hzc (.slice sa n cap) d.size (strCells d) hrow2 data (by unfold maxLen; omega) (by omega) hrun
  rw [← strCells_append, ← ByteArray.size_append] at hown
  obtain ⟨sa', n', cap', rfl⟩ : ∃ sa' n' cap', v' = .slice sa' n' cap' := by
    rcases hown.2 with ⟨e, _⟩ | ⟨g, c, _, e, _⟩
    · exact ⟨_, _, _, e⟩
    · exact ⟨_, _, _, e⟩
  have hnM : some w1.heap.size ≠ (Value.slice sa n cap).ownBlock := fun e => by have := (HGL.out _ e.symm).2; omega
  have hnF : some w.heap.size ≠ (Value.slice sa n cap).ownBlock := fun e => by have := (HGL.out _ e.symm).2; omega
  have hnG : some G ≠ (Value.slice sa n cap).ownBlock := fun e => (HVB.out _ e.symm).1 rfl
  have hnm : some m ≠ (Value.slice sa n cap).ownBlock := fun e => (HVB.out _ e.symm).2 rfl
  have hM3 : W3.heap[w1.heap.size]? = some (.cells #[.slice sa n cap, .int .i64 next] 64 (0, 0)) := (hgrow.block _ (by simp) hnM).trans (World.alloc_heap_new w1 _)
  have hF3 : W3.heap[w.heap.size]? = some (.cells #[.int .i64 id, .bool false, .int .i64 left, .string data] 30 (0, 0)) := (hgrow.block _ (by simp; omega) hnF).trans ((Below.heap_alloc _ _ _ hz1).trans HBK.out)
  have hG3 : W3.heap[G]? = some (.cells #[.map (some m)] 61 (0, 0)) := (hgrow.block _ (by simp; omega) hnG).trans ((hB2.block G hlt).trans HH.out.blk)
  have m0 := cell_at hM3 0
  have m1 := cell_at hM3 1
  have q0 := cell_at hF3 0
  have q1 := cell_at hF3 1
  have q2 := cell_at hF3 2
  have q3 := cell_at hF3 3
  have g3 := cell_at hG3 0
  simp only [List.getElem?_toArray, List.getElem?_cons_zero, List.getElem?_cons_succ] at m0 m1 q0 q1 q2 q3 g3
  have fm0 : W3.frozen? ⟨w1.heap.size, 0, none⟩ = false := by simp [World.frozen?, hM3]
  have fm1 : W3.frozen? ⟨w1.heap.size, 1, none⟩ = false := by simp [World.frozen?, hM3]
  have hz3 : w1.heap.size + 1 ≤ W3.heap.size := by have := hgrow.size; simpa using this
  have o4 : Only (w1.heap.size :: (Value.slice sa n cap).ownBlock.toList) w ((W3.setCell ⟨w1.heap.size, 0, none⟩ (.slice sa' n' cap')).setCell ⟨w1.heap.size, 1, none⟩ (.int .i64 (left - 1))).drew :=
    ((((Only.of_below hB2).trans (Only.grown hgrow (fun r hr => .inl (by simp [hr])))).trans (Only.setCell _ _ _ (by simp))).trans (Only.setCell _ _ _ (by simp))).trans (Only.drew _ _)
  have mp4 : MapAt ((W3.setCell ⟨w1.heap.size, 0, none⟩ (.slice sa' n' cap')).setCell ⟨w1.heap.size, 1, none⟩ (.int .i64 (left - 1))).drew m idV msgV (O.map kv) :=
    HH.out.mp.of_heap (o4.block m hmlt (not_mem2 (by omega) hnm))
  have row4 : ((W3.setCell ⟨w1.heap.size, 0, none⟩ (.slice sa' n' cap')).setCell ⟨w1.heap.size, 1, none⟩ (.int .i64 (left - 1))).drew.ownsRow base 5 1 (.slice sa' n' cap') (d ++ data).size (strCells (d ++ data)) :=
    (ownsRow_setCell_other (a := ⟨w1.heap.size, 1, none⟩) (ownsRow_setCell_other (a := ⟨w1.heap.size, 0, none⟩) hown (ownB_ne hM3 hown (by decide)) _) (ownB_ne hM3 hown (by decide)) _).drew
  have HRN := Lib.hid hrun
  obtain ⟨o, hu, hm⟩ := run_update (P := Try.prog) (int_emb u2) u59 mp4 id (.slice sa' n' cap', left - 1)
  replace hu : (Instr.mapUpdate 59 (.map (some m)) (.int .i64 id) (.agg #[.slice sa' n' cap', .int .i64 (left - 1)])).run Try.prog ((W3.setCell ⟨w1.heap.size, 0, none⟩ (.slice sa' n' cap')).setCell ⟨w1.heap.size, 1, none⟩ (.int .i64 (left - 1))).drew = .ok () (((W3.setCell ⟨w1.heap.size, 0, none⟩ (.slice sa' n' cap')).setCell ⟨w1.heap.size, 1, none⟩ (.int .i64 (left - 1))).drew.putObj m o) := hu
  have o5 := o4.mono (cs := m :: (Value.slice sa n cap).ownBlock.toList) (fun b hb => by
    simp only [List.mem_cons, Option.mem_toList] at hb ⊢
    rcases hb with rfl | hb
    · exact .inr (by omega)
    · exact .inl (.inr hb))
  have row5 := ownsRow_putObj_map row4 mp4 o
  have HFIN := Lib.hid (Fed.mk (v := .slice sa n cap) hm row5 (o5.trans (Only.putObj (bs := m :: (Value.slice sa n cap).ownBlock.toList) _ m o (by simp))) (hwh.imp (fun e => e) (fun e g hg => by rw [e] at hg; simp at hg; omega)))
  have hM5 : (((W3.setCell ⟨w1.heap.size, 0, none⟩ (.slice sa' n' cap')).setCell ⟨w1.heap.size, 1, none⟩ (.int .i64 (left - 1))).drew.putObj m o).heap[w1.heap.size]? = some (.cells #[.slice sa' n' cap', .int .i64 (left - 1)] 64 (0, 0)) :=
    (World.putObj_heap_other (by omega)).trans (two_cells hM3 _ _)
  have hconv := conv_row row5
  generalize ((W3.setCell ⟨w1.heap.size, 0, none⟩ (.slice sa' n' cap')).setCell ⟨w1.heap.size, 1, none⟩ (.int .i64 (left - 1))).drew.putObj m o = Y at *
  have y0 := cell_at hM5 0
  simp only [List.getElem?_toArray, List.getElem?_cons_zero] at y0
  clear hown hgrow hM3 hF3 hG3 o4 o5 mp4 row4 row5 hrow2 hB2 hm hi hza hzb hzc hwh hM5 hrun
  go_wp2_with fail
  go_region
  all_goals
    go_wp2_with (at_builtin; refine wpList_append_run rfl _ _ 62 9 rfl rfl rfl HRN.out ?_)
    go_region
    go_wp2
    go_ret3
    exact ⟨rfl, _, HFIN.out⟩


set_option maxRecDepth 100000 in
set_option maxHeartbeats 2000000 in
theorem feed_end1 {base G m : Nat} {O : List OE} (w : World) (h : GA w base G m O) (id left : Int) (data : ByteArray) (hv : validB id left data = true) (v : Value) (next : Int)
    (hlook : ∀ w', Below w.heap.size w w' → Looks w' m id false v next) (hsl : ∃ sa n cap, v = .slice sa n cap) (d : ByteArray) (hrow : w.ownsRow base 5 1 v d.size (strCells d)) (hvb : ∀ g, v.ownBlock = some g → g ≠ G ∧ g ≠ m) (hbz : base ≤ w.heap.size) (hsum : d.size + data.size ≤ 262144) (hl : ¬ 1 < left) :
    Calls Try.prog 16 #[.pointer (some ⟨G, 0, none⟩), .agg #[.int .i64 id, .bool true, .int .i64 left, .string data]] w fun e w' => e = .returned (.tuple #[.string (d ++ data), .bool true, .int .i64 0]) ∧ ∃ v', Fed w base m v v' (d ++ data) (Mp.del (O.map kv) id) w' := by
  have c0 := h.c0
  have hlt := h.lt
  have hn := nilmap m
  obtain ⟨sa, n, cap, rfl⟩ := hsl
  have HL := Lib.hid hlook
  obtain ⟨i0, hi, hza, hzb, hzc⟩ := info_parts info5
  obtain ⟨hv1, hv2, hv3, hv4, hv5⟩ := valid_of hv
  have hgl := hrow.lt
  have hmlt := h.mp.lt
  have hnd : n ≤ d.size := by
    rcases hrow.2 with ⟨e, _⟩ | ⟨_, _, _, e, _⟩
    · simp at e; omega
    · simp at e; omega
  have hnd2 : ¬ (262144 : Int) < (n : Int) + data.size := by omega
  have HH := Lib.hid h
  have HROW := Lib.hid hrow
  have HVB := Lib.hid hvb
  have HGL := Lib.hid hgl
  have HI := Lib.hid (And.intro hi (And.intro hza (And.intro hzb hzc)))
  clear hrow hvb hgl hi hza hzb hzc
  clear h hlook
  go_enter Try.func16, Try.ntmps16
  go_wp2_with fail
  refine (valid_yes id left true data _ hv).mono ?_
  rintro e w1 ⟨rfl, b1⟩
  have B1 : Below w.heap.size w w1 := ((Below.refl _ _).alloc (Nat.le_refl _) _).trans (b1.mono (by simp))
  have l1 : (Instr.lookup 59 (.map (some m)) (.int .i64 id) true).run Try.prog w1.drew = .ok (.tuple #[.agg #[.slice sa n cap, .int .i64 next], .bool false]) w1.drew := HL.out w1.drew B1.drew
  have l2 : (Instr.lookup 59 (.map (some m)) (.int .i64 id) true).run Try.prog (w1.alloc (.cells #[.slice none 0 0, .int .i64 0] 64)).drew = .ok (.tuple #[.agg #[.slice sa n cap, .int .i64 next], .bool false]) (w1.alloc (.cells #[.slice none 0 0, .int .i64 0] 64)).drew := HL.out _ (B1.alloc B1.size _).drew
  have c1 : w1.cell? ⟨G, 0, none⟩ = some (.map (some m)) := (B1.cell (p := ⟨G, 0, none⟩) hlt).trans c0
  have hbk : w1.heap[w.heap.size]? = some (.cells #[.int .i64 id, .bool true, .int .i64 left, .string data] 30 (0, 0)) := (b1.block w.heap.size (by simp)).trans (World.alloc_heap_new w _)
  have k0 : w1.cell? ⟨w.heap.size, 0, none⟩ = some (.int .i64 id) := by simp [World.cell?, hbk]
  have k1 : w1.cell? ⟨w.heap.size, 1, none⟩ = some (.bool true) := by simp [World.cell?, hbk]
  have k2 : w1.cell? ⟨w.heap.size, 2, none⟩ = some (.int .i64 left) := by simp [World.cell?, hbk]
  have k3 : w1.cell? ⟨w.heap.size, 3, none⟩ = some (.string data) := by simp [World.cell?, hbk]
  have hz := b1.size
  simp only [World.size_alloc] at hz
  have hz1 : w.heap.size < w1.heap.size := by omega
  have hz2 : G < w1.heap.size := by omega
  have HB1 := Lib.hid B1
  have HBK := Lib.hid hbk
  clear b1 hbk B1 hz
  have hB2 : Below w.heap.size w (w1.alloc (.cells #[.slice sa n cap, .int .i64 next] 64)).drew := (HB1.out.alloc HB1.out.size _).drew
  have hrow2 : (w1.alloc (.cells #[.slice sa n cap, .int .i64 next] 64)).drew.ownsRow base 5 1 (.slice sa n cap) d.size (strCells d) :=
    HROW.out.kept (row := none) ⟨hB2.os, hB2.tape, hB2.output, hB2.size, fun k hk _ => hB2.block k hk⟩ (by cases sa <;> simp [Value.ownBlock])
  obtain ⟨hi, hza, hzb, hzc⟩ := HI.out
  obtain ⟨v', W3, hrun, hown, hgrow, _⟩ := run_append_own_string (P := Try.prog) (w1.alloc (.cells #[.slice sa n cap, .int .i64 next] 64)).drew base 62 9 62 5 i0 u62 u9 hi hza hzb hzc (.slice sa n cap) d.size (strCells d) hrow2 data (by unfold maxLen; omega) (by omega) (by simp; omega)
  have hwh := append_str_where (P := Try.prog) (ty := 62) u62 u9 hi hza hzb hzc (.slice sa n cap) d.size (strCells d) hrow2 data (by unfold maxLen; omega) (by omega) hrun
  rw [← strCells_append, ← ByteArray.size_append] at hown
  obtain ⟨sa', n', cap', rfl⟩ : ∃ sa' n' cap', v' = .slice sa' n' cap' := by
    rcases hown.2 with ⟨e, _⟩ | ⟨g, c, _, e, _⟩
    · exact ⟨_, _, _, e⟩
    · exact ⟨_, _, _, e⟩
  have hnM : some w1.heap.size ≠ (Value.slice sa n cap).ownBlock := fun e => by have := (HGL.out _ e.symm).2; omega
  have hnF : some w.heap.size ≠ (Value.slice sa n cap).ownBlock := fun e => by have := (HGL.out _ e.symm).2; omega
  have hnG : some G ≠ (Value.slice sa n cap).ownBlock := fun e => (HVB.out _ e.symm).1 rfl
  have hnm : some m ≠ (Value.slice sa n cap).ownBlock := fun e => (HVB.out _ e.symm).2 rfl
  have hM3 : W3.heap[w1.heap.size]? = some (.cells #[.slice sa n cap, .int .i64 next] 64 (0, 0)) := (hgrow.block _ (by simp) hnM).trans (World.alloc_heap_new w1 _)
  have hF3 : W3.heap[w.heap.size]? = some (.cells #[.int .i64 id, .bool true, .int .i64 left, .string data] 30 (0, 0)) := (hgrow.block _ (by simp; omega) hnF).trans ((Below.heap_alloc _ _ _ hz1).trans HBK.out)
  have hG3 : W3.heap[G]? = some (.cells #[.map (some m)] 61 (0, 0)) := (hgrow.block _ (by simp; omega) hnG).trans ((hB2.block G hlt).trans HH.out.blk)
  have m0 := cell_at hM3 0
  have m1 := cell_at hM3 1
  have q0 := cell_at hF3 0
  have q1 := cell_at hF3 1
  have q2 := cell_at hF3 2
  have q3 := cell_at hF3 3
  have g3 := cell_at hG3 0
  simp only [List.getElem?_toArray, List.getElem?_cons_zero, List.getElem?_cons_succ] at m0 m1 q0 q1 q2 q3 g3
  have fm0 : W3.frozen? ⟨w1.heap.size, 0, none⟩ = false := by simp [World.frozen?, hM3]
  have fm1 : W3.frozen? ⟨w1.heap.size, 1, none⟩ = false := by simp [World.frozen?, hM3]
  have hz3 : w1.heap.size + 1 ≤ W3.heap.size := by have := hgrow.size; simpa using this
  have o4 : Only (w1.heap.size :: (Value.slice sa n cap).ownBlock.toList) w ((W3.setCell ⟨w1.heap.size, 0, none⟩ (.slice sa' n' cap')).setCell ⟨w1.heap.size, 1, none⟩ (.int .i64 (left - 1))).drew :=
    ((((Only.of_below hB2).trans (Only.grown hgrow (fun r hr => .inl (by simp [hr])))).trans (Only.setCell _ _ _ (by simp))).trans (Only.setCell _ _ _ (by simp))).trans (Only.drew _ _)
  have mp4 : MapAt ((W3.setCell ⟨w1.heap.size, 0, none⟩ (.slice sa' n' cap')).setCell ⟨w1.heap.size, 1, none⟩ (.int .i64 (left - 1))).drew m idV msgV (O.map kv) :=
    HH.out.mp.of_heap (o4.block m hmlt (not_mem2 (by omega) hnm))
  have row4 : ((W3.setCell ⟨w1.heap.size, 0, none⟩ (.slice sa' n' cap')).setCell ⟨w1.heap.size, 1, none⟩ (.int .i64 (left - 1))).drew.ownsRow base 5 1 (.slice sa' n' cap') (d ++ data).size (strCells (d ++ data)) :=
    (ownsRow_setCell_other (a := ⟨w1.heap.size, 1, none⟩) (ownsRow_setCell_other (a := ⟨w1.heap.size, 0, none⟩) hown (ownB_ne hM3 hown (by decide)) _) (ownB_ne hM3 hown (by decide)) _).drew
  have HRN := Lib.hid hrun
  obtain ⟨o, hu, hm⟩ := run_delete (P := Try.prog) (ty := 0) (int_emb u2) u59 mp4 id
  replace hu : (Builtin.delete_ #[59, 2] 0 #[.map (some m), .int .i64 id]).run Try.prog ((W3.setCell ⟨w1.heap.size, 0, none⟩ (.slice sa' n' cap')).setCell ⟨w1.heap.size, 1, none⟩ (.int .i64 (left - 1))).drew = .ok (.tuple #[]) (((W3.setCell ⟨w1.heap.size, 0, none⟩ (.slice sa' n' cap')).setCell ⟨w1.heap.size, 1, none⟩ (.int .i64 (left - 1))).drew.putObj m o) := hu
  have o5 := o4.mono (cs := m :: (Value.slice sa n cap).ownBlock.toList) (fun b hb => by
    simp only [List.mem_cons, Option.mem_toList] at hb ⊢
    rcases hb with rfl | hb
    · exact .inr (by omega)
    · exact .inl (.inr hb))
  have row5 := ownsRow_putObj_map row4 mp4 o
  have HFIN := Lib.hid (Fed.mk (v := .slice sa n cap) hm row5 (o5.trans (Only.putObj (bs := m :: (Value.slice sa n cap).ownBlock.toList) _ m o (by simp))) (hwh.imp (fun e => e) (fun e g hg => by rw [e] at hg; simp at hg; omega)))
  have hM5 : (((W3.setCell ⟨w1.heap.size, 0, none⟩ (.slice sa' n' cap')).setCell ⟨w1.heap.size, 1, none⟩ (.int .i64 (left - 1))).drew.putObj m o).heap[w1.heap.size]? = some (.cells #[.slice sa' n' cap', .int .i64 (left - 1)] 64 (0, 0)) :=
    (World.putObj_heap_other (by omega)).trans (two_cells hM3 _ _)
  have hconv := conv_row row5
  generalize ((W3.setCell ⟨w1.heap.size, 0, none⟩ (.slice sa' n' cap')).setCell ⟨w1.heap.size, 1, none⟩ (.int .i64 (left - 1))).drew.putObj m o = Y at *
  have y0 := cell_at hM5 0
  simp only [List.getElem?_toArray, List.getElem?_cons_zero] at y0
  clear hown hgrow hM3 hF3 hG3 o4 o5 mp4 row4 row5 hrow2 hB2 hm hi hza hzb hzc hwh hM5 hrun
  go_wp2_with fail
  go_region
  all_goals
    go_wp2_with (at_builtin; refine wpList_append_run rfl _ _ 62 9 rfl rfl rfl HRN.out ?_)
    go_region
    go_wp2
    go_ret3
    exact ⟨rfl, _, HFIN.out⟩


set_option maxRecDepth 100000 in
set_option maxHeartbeats 2000000 in
theorem feed_end2 {base G m : Nat} {O : List OE} (w : World) (h : GA w base G m O) (id left : Int) (data : ByteArray) (hv : validB id left data = true) (v : Value) (next : Int)
    (hlook : ∀ w', Below w.heap.size w w' → Looks w' m id true v next) (hsl : ∃ sa n cap, v = .slice sa n cap) (d : ByteArray) (hrow : w.ownsRow base 5 1 v d.size (strCells d)) (hvb : ∀ g, v.ownBlock = some g → g ≠ G ∧ g ≠ m) (hbz : base ≤ w.heap.size) (hsum : d.size + data.size ≤ 262144) (hl : ¬ 1 < left) (hnx : left = next) :
    Calls Try.prog 16 #[.pointer (some ⟨G, 0, none⟩), .agg #[.int .i64 id, .bool false, .int .i64 left, .string data]] w fun e w' => e = .returned (.tuple #[.string (d ++ data), .bool true, .int .i64 0]) ∧ ∃ v', Fed w base m v v' (d ++ data) (Mp.del (O.map kv) id) w' := by
  have c0 := h.c0
  have hlt := h.lt
  have hn := nilmap m
  obtain ⟨sa, n, cap, rfl⟩ := hsl
  have HL := Lib.hid hlook
  obtain ⟨i0, hi, hza, hzb, hzc⟩ := info_parts info5
  obtain ⟨hv1, hv2, hv3, hv4, hv5⟩ := valid_of hv
  have hgl := hrow.lt
  have hmlt := h.mp.lt
  have hnd : n ≤ d.size := by
    rcases hrow.2 with ⟨e, _⟩ | ⟨_, _, _, e, _⟩
    · simp at e; omega
    · simp at e; omega
  have hnd2 : ¬ (262144 : Int) < (n : Int) + data.size := by omega
  have HH := Lib.hid h
  have HROW := Lib.hid hrow
  have HVB := Lib.hid hvb
  have HGL := Lib.hid hgl
  have HI := Lib.hid (And.intro hi (And.intro hza (And.intro hzb hzc)))
  clear hrow hvb hgl hi hza hzb hzc
  have hne : (left != next) = false := by simp [hnx]
  clear hnx
  clear h hlook
  go_enter Try.func16, Try.ntmps16
  go_wp2_with fail
  refine (valid_yes id left false data _ hv).mono ?_
  rintro e w1 ⟨rfl, b1⟩
  have B1 : Below w.heap.size w w1 := ((Below.refl _ _).alloc (Nat.le_refl _) _).trans (b1.mono (by simp))
  have l1 : (Instr.lookup 59 (.map (some m)) (.int .i64 id) true).run Try.prog w1.drew = .ok (.tuple #[.agg #[.slice sa n cap, .int .i64 next], .bool true]) w1.drew := HL.out w1.drew B1.drew
  have l2 : (Instr.lookup 59 (.map (some m)) (.int .i64 id) true).run Try.prog (w1.alloc (.cells #[.slice none 0 0, .int .i64 0] 64)).drew = .ok (.tuple #[.agg #[.slice sa n cap, .int .i64 next], .bool true]) (w1.alloc (.cells #[.slice none 0 0, .int .i64 0] 64)).drew := HL.out _ (B1.alloc B1.size _).drew
  have c1 : w1.cell? ⟨G, 0, none⟩ = some (.map (some m)) := (B1.cell (p := ⟨G, 0, none⟩) hlt).trans c0
  have hbk : w1.heap[w.heap.size]? = some (.cells #[.int .i64 id, .bool false, .int .i64 left, .string data] 30 (0, 0)) := (b1.block w.heap.size (by simp)).trans (World.alloc_heap_new w _)
  have k0 : w1.cell? ⟨w.heap.size, 0, none⟩ = some (.int .i64 id) := by simp [World.cell?, hbk]
  have k1 : w1.cell? ⟨w.heap.size, 1, none⟩ = some (.bool false) := by simp [World.cell?, hbk]
  have k2 : w1.cell? ⟨w.heap.size, 2, none⟩ = some (.int .i64 left) := by simp [World.cell?, hbk]
  have k3 : w1.cell? ⟨w.heap.size, 3, none⟩ = some (.string data) := by simp [World.cell?, hbk]
  have hz := b1.size
  simp only [World.size_alloc] at hz
  have hz1 : w.heap.size < w1.heap.size := by omega
  have hz2 : G < w1.heap.size := by omega
  have HB1 := Lib.hid B1
  have HBK := Lib.hid hbk
  clear b1 hbk B1 hz
  have hB2 : Below w.heap.size w (w1.alloc (.cells #[.slice sa n cap, .int .i64 next] 64)).drew := (HB1.out.alloc HB1.out.size _).drew
  have hrow2 : (w1.alloc (.cells #[.slice sa n cap, .int .i64 next] 64)).drew.ownsRow base 5 1 (.slice sa n cap) d.size (strCells d) :=
    HROW.out.kept (row := none) ⟨hB2.os, hB2.tape, hB2.output, hB2.size, fun k hk _ => hB2.block k hk⟩ (by cases sa <;> simp [Value.ownBlock])
  obtain ⟨hi, hza, hzb, hzc⟩ := HI.out
  obtain ⟨v', W3, hrun, hown, hgrow, _⟩ := run_append_own_string (P := Try.prog) (w1.alloc (.cells #[.slice sa n cap, .int .i64 next] 64)).drew base 62 9 62 5 i0 u62 u9 hi hza hzb hzc (.slice sa n cap) d.size (strCells d) hrow2 data (by unfold maxLen; omega) (by omega) (by simp; omega)
  have hwh := append_str_where (P := Try.prog) (ty := 62) u62 u9 hi hza hzb hzc (.slice sa n cap) d.size (strCells d) hrow2 data (by unfold maxLen; omega) (by omega) hrun
  rw [← strCells_append, ← ByteArray.size_append] at hown
  obtain ⟨sa', n', cap', rfl⟩ : ∃ sa' n' cap', v' = .slice sa' n' cap' := by
    rcases hown.2 with ⟨e, _⟩ | ⟨g, c, _, e, _⟩
    · exact ⟨_, _, _, e⟩
    · exact ⟨_, _, _, e⟩
  have hnM : some w1.heap.size ≠ (Value.slice sa n cap).ownBlock := fun e => by have := (HGL.out _ e.symm).2; omega
  have hnF : some w.heap.size ≠ (Value.slice sa n cap).ownBlock := fun e => by have := (HGL.out _ e.symm).2; omega
  have hnG : some G ≠ (Value.slice sa n cap).ownBlock := fun e => (HVB.out _ e.symm).1 rfl
  have hnm : some m ≠ (Value.slice sa n cap).ownBlock := fun e => (HVB.out _ e.symm).2 rfl
  have hM3 : W3.heap[w1.heap.size]? = some (.cells #[.slice sa n cap, .int .i64 next] 64 (0, 0)) := (hgrow.block _ (by simp) hnM).trans (World.alloc_heap_new w1 _)
  have hF3 : W3.heap[w.heap.size]? = some (.cells #[.int .i64 id, .bool false, .int .i64 left, .string data] 30 (0, 0)) := (hgrow.block _ (by simp; omega) hnF).trans ((Below.heap_alloc _ _ _ hz1).trans HBK.out)
  have hG3 : W3.heap[G]? = some (.cells #[.map (some m)] 61 (0, 0)) := (hgrow.block _ (by simp; omega) hnG).trans ((hB2.block G hlt).trans HH.out.blk)
  have m0 := cell_at hM3 0
  have m1 := cell_at hM3 1
  have q0 := cell_at hF3 0
  have q1 := cell_at hF3 1
  have q2 := cell_at hF3 2
  have q3 := cell_at hF3 3
  have g3 := cell_at hG3 0
  simp only [List.getElem?_toArray, List.getElem?_cons_zero, List.getElem?_cons_succ] at m0 m1 q0 q1 q2 q3 g3
  have fm0 : W3.frozen? ⟨w1.heap.size, 0, none⟩ = false := by simp [World.frozen?, hM3]
  have fm1 : W3.frozen? ⟨w1.heap.size, 1, none⟩ = false := by simp [World.frozen?, hM3]
  have hz3 : w1.heap.size + 1 ≤ W3.heap.size := by have := hgrow.size; simpa using this
  have o4 : Only (w1.heap.size :: (Value.slice sa n cap).ownBlock.toList) w ((W3.setCell ⟨w1.heap.size, 0, none⟩ (.slice sa' n' cap')).setCell ⟨w1.heap.size, 1, none⟩ (.int .i64 (left - 1))).drew :=
    ((((Only.of_below hB2).trans (Only.grown hgrow (fun r hr => .inl (by simp [hr])))).trans (Only.setCell _ _ _ (by simp))).trans (Only.setCell _ _ _ (by simp))).trans (Only.drew _ _)
  have mp4 : MapAt ((W3.setCell ⟨w1.heap.size, 0, none⟩ (.slice sa' n' cap')).setCell ⟨w1.heap.size, 1, none⟩ (.int .i64 (left - 1))).drew m idV msgV (O.map kv) :=
    HH.out.mp.of_heap (o4.block m hmlt (not_mem2 (by omega) hnm))
  have row4 : ((W3.setCell ⟨w1.heap.size, 0, none⟩ (.slice sa' n' cap')).setCell ⟨w1.heap.size, 1, none⟩ (.int .i64 (left - 1))).drew.ownsRow base 5 1 (.slice sa' n' cap') (d ++ data).size (strCells (d ++ data)) :=
    (ownsRow_setCell_other (a := ⟨w1.heap.size, 1, none⟩) (ownsRow_setCell_other (a := ⟨w1.heap.size, 0, none⟩) hown (ownB_ne hM3 hown (by decide)) _) (ownB_ne hM3 hown (by decide)) _).drew
  have HRN := Lib.hid hrun
  obtain ⟨o, hu, hm⟩ := run_delete (P := Try.prog) (ty := 0) (int_emb u2) u59 mp4 id
  replace hu : (Builtin.delete_ #[59, 2] 0 #[.map (some m), .int .i64 id]).run Try.prog ((W3.setCell ⟨w1.heap.size, 0, none⟩ (.slice sa' n' cap')).setCell ⟨w1.heap.size, 1, none⟩ (.int .i64 (left - 1))).drew = .ok (.tuple #[]) (((W3.setCell ⟨w1.heap.size, 0, none⟩ (.slice sa' n' cap')).setCell ⟨w1.heap.size, 1, none⟩ (.int .i64 (left - 1))).drew.putObj m o) := hu
  have o5 := o4.mono (cs := m :: (Value.slice sa n cap).ownBlock.toList) (fun b hb => by
    simp only [List.mem_cons, Option.mem_toList] at hb ⊢
    rcases hb with rfl | hb
    · exact .inr (by omega)
    · exact .inl (.inr hb))
  have row5 := ownsRow_putObj_map row4 mp4 o
  have HFIN := Lib.hid (Fed.mk (v := .slice sa n cap) hm row5 (o5.trans (Only.putObj (bs := m :: (Value.slice sa n cap).ownBlock.toList) _ m o (by simp))) (hwh.imp (fun e => e) (fun e g hg => by rw [e] at hg; simp at hg; omega)))
  have hM5 : (((W3.setCell ⟨w1.heap.size, 0, none⟩ (.slice sa' n' cap')).setCell ⟨w1.heap.size, 1, none⟩ (.int .i64 (left - 1))).drew.putObj m o).heap[w1.heap.size]? = some (.cells #[.slice sa' n' cap', .int .i64 (left - 1)] 64 (0, 0)) :=
    (World.putObj_heap_other (by omega)).trans (two_cells hM3 _ _)
  have hconv := conv_row row5
  generalize ((W3.setCell ⟨w1.heap.size, 0, none⟩ (.slice sa' n' cap')).setCell ⟨w1.heap.size, 1, none⟩ (.int .i64 (left - 1))).drew.putObj m o = Y at *
  have y0 := cell_at hM5 0
  simp only [List.getElem?_toArray, List.getElem?_cons_zero] at y0
  clear hown hgrow hM3 hF3 hG3 o4 o5 mp4 row4 row5 hrow2 hB2 hm hi hza hzb hzc hwh hM5 hrun
  go_wp2_with fail
  go_region
  all_goals
    go_wp2_with (at_builtin; refine wpList_append_run rfl _ _ 62 9 rfl rfl rfl HRN.out ?_)
    go_region
    go_wp2
    go_ret3
    exact ⟨rfl, _, HFIN.out⟩

end Go.Proofs.Ytbddggdbhfmlnaa
