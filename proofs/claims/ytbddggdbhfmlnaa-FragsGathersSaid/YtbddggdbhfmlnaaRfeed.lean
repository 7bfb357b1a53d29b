/- The reference's Feed: the walk, case by case. -/
import Derived.Test.YtbddggdbhfmlnaaGathersP
import Derived.BigQuiet
namespace Go.Proofs.Ytbddggdbhfmlnaa
open Go.RowKit Go.Rt Go.Rw Go.Mp Go.Lib

theorem u47 : Try.prog.underlying 47 = some (.slice 68) := by kernel_rfl
theorem info68 : (Try.prog.info? 68).map (fun i => (i.zero, i.size, i.bytes)) = some (some (.agg #[.int .i64 0, .string ByteArray.empty, .int .i64 0]), 3, 32) := by kernel_rfl
theorem mc_one (a : MsgD) : ∀ u ∈ mc a, u.oneCell' = true := by simp [mc, Value.oneCell']
theorem results_tmp4 {fn : Func} {t u v x : Tmp} (h : fn.results = #[.tmp t, .tmp u, .tmp v, .tmp x]) (tmps : Array Value) (P : Program) (w : World) :
    (results fn tmps).run P w = .ok (.tuple #[tmps.getD t undef, tmps.getD u undef, tmps.getD v undef, tmps.getD x undef]) w := by
  simp [results, h]
theorem erase_end {α : Type} (l : List α) (n : Nat) (x : α) (h : n ≠ l.length) : (l ++ [x]).eraseIdx n = l.eraseIdx n ++ [x] := by
  rcases Nat.lt_or_gt_of_ne h with q | q
  · rw [List.eraseIdx_append_of_lt_length q]
  · rw [List.eraseIdx_of_length_le (by simp; omega), List.eraseIdx_of_length_le (by omega)]
/-- What the copying loop has copied. -/
def copyK (L : List MsgD) (n k : Nat) : List MsgD := (L.take k).eraseIdx n
theorem copy_zero (L : List MsgD) (n : Nat) : copyK L n 0 = [] := by simp [copyK]
theorem copy_skip (L : List MsgD) (n : Nat) (h : n < L.length) : copyK L n (n + 1) = copyK L n n := by
  unfold copyK
  rw [List.take_succ_eq_append_getElem h, List.eraseIdx_append_of_length_le (by rw [List.length_take]; omega), List.length_take, Nat.min_eq_left (by omega), Nat.sub_self]
  rw [List.eraseIdx_of_length_le (k := n) (by rw [List.length_take]; omega)]
  simp
theorem copy_next (L : List MsgD) (n k : Nat) (h : k < L.length) (hn : n ≠ k) : copyK L n (k + 1) = copyK L n k ++ [L[k]] := by
  unfold copyK
  rw [List.take_succ_eq_append_getElem h, erase_end _ _ _ (by rw [List.length_take]; omega)]
theorem copy_len (L : List MsgD) (n k : Nat) : (copyK L n k).length ≤ k := by
  unfold copyK
  have := (List.eraseIdx_sublist (L.take k) n).length_le
  rw [List.length_take] at this
  omega
theorem copy_all (L : List MsgD) (n : Nat) : copyK L n L.length = L.eraseIdx n := by simp [copyK]
theorem find_some : ∀ (L : List MsgD) (id : Int) (k : Nat) (v : ByteArray × Int), Mp.get L id = some v → ∃ j, ∃ h : j < L.length, L[j] = (id, v) ∧ findF L id k = ((k + j : Nat) : Int) ∧ Mp.del L id = L.eraseIdx j
  | (a, u) :: r, id, k, v, h => by
    by_cases e : a = id
    · rw [Mp.get, if_pos e] at h
      cases h
      subst e
      exact ⟨0, by simp, rfl, by rw [findF, if_pos rfl]; rfl, by rw [Mp.del, if_pos rfl]; rfl⟩
    · rw [Mp.get, if_neg e] at h
      obtain ⟨j, hj, h1, h2, h3⟩ := find_some r id (k + 1) v h
      refine ⟨j + 1, by simp; omega, by simpa using h1, ?_, ?_⟩
      · rw [findF, if_neg e, h2]; congr 1; omega
      · rw [Mp.del, if_neg e, h3]; rfl
theorem find_none : ∀ (L : List MsgD) (id : Int) (k : Nat), Mp.get L id = none → findF L id k = -1
  | [], _, _, _ => rfl
  | (a, u) :: r, id, k, h => by
    by_cases e : a = id
    · rw [Mp.get, if_pos e] at h; cases h
    · rw [Mp.get, if_neg e] at h
      rw [findF, if_neg e]
      exact find_none r id (k + 1) h

theorem box68 {W : World} {cs : Array Value} {b : Nat} (h : W.heap[b]? = some (.cells cs 68 (0, 0))) : b < W.heap.size := (Array.getElem?_eq_some_iff.1 h).1

set_option maxRecDepth 100000 in
set_option maxHeartbeats 4000000 in
theorem rfeed_bad {base : Nat} {L : List MsgD} {v : Value} (w : World) (h : Sl w base 68 3 mc v L) (_ : L.length ≤ 1000000) (id left : Int) (fi : Bool) (data : ByteArray) (hs : data.size ≤ 9223372036854775807) (hv : validB id left data = false) :
    Calls Try.prog 20 #[v, .agg #[.int .i64 id, .bool fi, .int .i64 left, .string data]] w fun e w' => e = .returned (.tuple #[v, .string ByteArray.empty, .bool false, .int .i64 2]) ∧ Below w.heap.size w w' := by
  obtain ⟨_, sa, cap, rfl⟩ := (h.at mc_len).len
  clear h
  go_enter Try.func20, Try.ntmps20
  go_wp2_with fail
  refine (rvalid_no id left fi data _ hs hv).mono ?_
  rintro e w1 ⟨rfl, b1⟩
  have B1 := Lib.hid b1
  clear b1
  go_wp2_with fail
  ((try simp only [Exit.inBlock, Exit.then]); refine bodyPost_ret (results_tmp4 rfl _ _ _) rfl ?_)
  exact ⟨rfl, ((Below.refl _ _).alloc (Nat.le_refl _) _).trans (B1.out.mono (by simp))⟩

set_option maxRecDepth 100000 in
set_option maxHeartbeats 4000000 in
theorem rfeed_form1 {base : Nat} {L : List MsgD} {v : Value} (w : World) (h : Sl w base 68 3 mc v L) (_ : L.length ≤ 1000000) (id left : Int) (data : ByteArray) (hv : validB id left data = true) (d : ByteArray) (nx : Int) (hg : Mp.get L id = some (d, nx)) :
    Calls Try.prog 20 #[v, .agg #[.int .i64 id, .bool true, .int .i64 left, .string data]] w fun e w' => e = .returned (.tuple #[v, .string ByteArray.empty, .bool false, .int .i64 6]) ∧ Below w.heap.size w w' := by
  obtain ⟨_, sa, cap, rfl⟩ := (h.at mc_len).len
  obtain ⟨j, hj, hLj, hfj, hdel⟩ := find_some L id 0 (d, nx) hg
  rw [Nat.zero_add] at hfj
  have HF := hfj
  have HD := Lib.hid hdel
  clear hfj hdel
  obtain ⟨hv1, hv2, hv3, hv4, hv5⟩ := valid_of hv
  go_enter Try.func20, Try.ntmps20
  go_wp2_with fail
  refine (rvalid_yes id left true data _ hv).mono ?_
  rintro e w1 ⟨rfl, b1⟩
  have hz1 := b1.size
  simp only [World.size_alloc] at hz1
  have hb1 : w1.heap[w.heap.size]? = some (.cells #[.int .i64 id, .bool true, .int .i64 left, .string data] 30 (0, 0)) :=
    (b1.block w.heap.size (by simp)).trans (World.alloc_heap_new w _)
  have B1 : Below w.heap.size w w1 := ((Below.refl _ w).alloc (Nat.le_refl _) _).trans (b1.mono (by simp))
  have h1 : Sl w1 base 68 3 mc (.slice sa L.length cap) L := h.below B1 (fun g hg => (h.lt g hg).2)
  have hbw : ∀ g, (Value.slice sa L.length cap).ownBlock = some g → g < w.heap.size := fun g hg => (h.lt g hg).2
  have HG := Lib.hid hbw
  clear hbw
  have HA1 := Lib.hid (h1.at mc_len)
  clear b1 h
  have x0 := cell_at hb1 0
  simp only [List.getElem?_toArray, List.getElem?_cons_zero] at x0
  have HH1 := Lib.hid h1
  have HBB := Lib.hid B1
  have HB1 := Lib.hid hb1
  clear h1 B1 hb1 hv
  go_wp2_with fail
  refine (find_any L _ id w1 HA1.out).mono ?_
  rw [HF]
  rintro e w2 ⟨rfl, nd, rfl⟩
  obtain ⟨wq, hwq⟩ : ∃ wq, wq = w1.drewN nd := ⟨_, rfl⟩
  rw [← hwq]
  have hh : wq.heap = w1.heap := by rw [hwq]; rfl
  have HBQ : Hid (Below w.heap.size w wq) := by
    refine Lib.hid ?_
    rw [hwq]
    exact ⟨HBB.out.os, HBB.out.tape, HBB.out.output, HBB.out.size, HBB.out.block⟩
  have hb1 : wq.heap[w.heap.size]? = some (.cells #[.int .i64 id, .bool true, .int .i64 left, .string data] 30 (0, 0)) := by rw [hh]; exact HB1.out
  have HHQ : Hid (Sl wq base 68 3 mc (.slice sa L.length cap) L) := Lib.hid (HH1.out.same (by rw [hh]; exact Nat.le_refl _) (fun g _ => by rw [hh]))
  have HAQ := Lib.hid (HHQ.out.at mc_len)
  have hzq : w.heap.size < wq.heap.size := (Array.getElem?_eq_some_iff.1 hb1).1
  clear hwq hh HBB HH1 HA1 HB1 x0
  have x0 := cell_at hb1 0
  have x1 := cell_at hb1 1
  have x2 := cell_at hb1 2
  have x3 := cell_at hb1 3
  simp only [List.getElem?_toArray, List.getElem?_cons_zero, List.getElem?_cons_succ] at x0 x1 x2 x3
  clear hb1
  have y0 : (0 : Int) ≤ (j : Int) := by omega
  go_wp2_with fail
  ((try simp only [Exit.inBlock, Exit.then]); refine bodyPost_ret (results_tmp4 rfl _ _ _) rfl ?_)
  exact ⟨rfl, HBQ.out⟩

set_option maxRecDepth 100000 in
set_option maxHeartbeats 4000000 in
theorem rfeed_form2 {base : Nat} {L : List MsgD} {v : Value} (w : World) (h : Sl w base 68 3 mc v L) (_ : L.length ≤ 1000000) (id left : Int) (data : ByteArray) (hv : validB id left data = true) (hg : Mp.get L id = none) :
    Calls Try.prog 20 #[v, .agg #[.int .i64 id, .bool false, .int .i64 left, .string data]] w fun e w' => e = .returned (.tuple #[v, .string ByteArray.empty, .bool false, .int .i64 6]) ∧ Below w.heap.size w w' := by
  obtain ⟨_, sa, cap, rfl⟩ := (h.at mc_len).len
  have HF := find_none L id 0 hg
  obtain ⟨hv1, hv2, hv3, hv4, hv5⟩ := valid_of hv
  go_enter Try.func20, Try.ntmps20
  go_wp2_with fail
  refine (rvalid_yes id left false data _ hv).mono ?_
  rintro e w1 ⟨rfl, b1⟩
  have hz1 := b1.size
  simp only [World.size_alloc] at hz1
  have hb1 : w1.heap[w.heap.size]? = some (.cells #[.int .i64 id, .bool false, .int .i64 left, .string data] 30 (0, 0)) :=
    (b1.block w.heap.size (by simp)).trans (World.alloc_heap_new w _)
  have B1 : Below w.heap.size w w1 := ((Below.refl _ w).alloc (Nat.le_refl _) _).trans (b1.mono (by simp))
  have h1 : Sl w1 base 68 3 mc (.slice sa L.length cap) L := h.below B1 (fun g hg => (h.lt g hg).2)
  have hbw : ∀ g, (Value.slice sa L.length cap).ownBlock = some g → g < w.heap.size := fun g hg => (h.lt g hg).2
  have HG := Lib.hid hbw
  clear hbw
  have HA1 := Lib.hid (h1.at mc_len)
  clear b1 h
  have x0 := cell_at hb1 0
  simp only [List.getElem?_toArray, List.getElem?_cons_zero] at x0
  have HH1 := Lib.hid h1
  have HBB := Lib.hid B1
  have HB1 := Lib.hid hb1
  clear h1 B1 hb1 hv
  go_wp2_with fail
  refine (find_any L _ id w1 HA1.out).mono ?_
  rw [HF]
  rintro e w2 ⟨rfl, nd, rfl⟩
  obtain ⟨wq, hwq⟩ : ∃ wq, wq = w1.drewN nd := ⟨_, rfl⟩
  rw [← hwq]
  have hh : wq.heap = w1.heap := by rw [hwq]; rfl
  have HBQ : Hid (Below w.heap.size w wq) := by
    refine Lib.hid ?_
    rw [hwq]
    exact ⟨HBB.out.os, HBB.out.tape, HBB.out.output, HBB.out.size, HBB.out.block⟩
  have hb1 : wq.heap[w.heap.size]? = some (.cells #[.int .i64 id, .bool false, .int .i64 left, .string data] 30 (0, 0)) := by rw [hh]; exact HB1.out
  have HHQ : Hid (Sl wq base 68 3 mc (.slice sa L.length cap) L) := Lib.hid (HH1.out.same (by rw [hh]; exact Nat.le_refl _) (fun g _ => by rw [hh]))
  have HAQ := Lib.hid (HHQ.out.at mc_len)
  have hzq : w.heap.size < wq.heap.size := (Array.getElem?_eq_some_iff.1 hb1).1
  clear hwq hh HBB HH1 HA1 HB1 x0
  have x0 := cell_at hb1 0
  have x1 := cell_at hb1 1
  have x2 := cell_at hb1 2
  have x3 := cell_at hb1 3
  simp only [List.getElem?_toArray, List.getElem?_cons_zero, List.getElem?_cons_succ] at x0 x1 x2 x3
  clear hb1
  go_wp2_with fail
  ((try simp only [Exit.inBlock, Exit.then]); refine bodyPost_ret (results_tmp4 rfl _ _ _) rfl ?_)
  exact ⟨rfl, HBQ.out⟩

set_option maxRecDepth 100000 in
set_option maxHeartbeats 4000000 in
theorem rfeed_full {base : Nat} {L : List MsgD} {v : Value} (w : World) (h : Sl w base 68 3 mc v L) (hL : L.length ≤ 1000000) (id left : Int) (data : ByteArray) (hv : validB id left data = true) (hg : Mp.get L id = none) (hl : 1 < left) (hn : 64 ≤ L.length) :
    Calls Try.prog 20 #[v, .agg #[.int .i64 id, .bool true, .int .i64 left, .string data]] w fun e w' => e = .returned (.tuple #[v, .string ByteArray.empty, .bool false, .int .i64 5]) ∧ Below w.heap.size w w' := by
  obtain ⟨_, sa, cap, rfl⟩ := (h.at mc_len).len
  have HF := find_none L id 0 hg
  obtain ⟨hv1, hv2, hv3, hv4, hv5⟩ := valid_of hv
  go_enter Try.func20, Try.ntmps20
  go_wp2_with fail
  refine (rvalid_yes id left true data _ hv).mono ?_
  rintro e w1 ⟨rfl, b1⟩
  have hz1 := b1.size
  simp only [World.size_alloc] at hz1
  have hb1 : w1.heap[w.heap.size]? = some (.cells #[.int .i64 id, .bool true, .int .i64 left, .string data] 30 (0, 0)) :=
    (b1.block w.heap.size (by simp)).trans (World.alloc_heap_new w _)
  have B1 : Below w.heap.size w w1 := ((Below.refl _ w).alloc (Nat.le_refl _) _).trans (b1.mono (by simp))
  have h1 : Sl w1 base 68 3 mc (.slice sa L.length cap) L := h.below B1 (fun g hg => (h.lt g hg).2)
  have hbw : ∀ g, (Value.slice sa L.length cap).ownBlock = some g → g < w.heap.size := fun g hg => (h.lt g hg).2
  have HG := Lib.hid hbw
  clear hbw
  have HA1 := Lib.hid (h1.at mc_len)
  clear b1 h
  have x0 := cell_at hb1 0
  simp only [List.getElem?_toArray, List.getElem?_cons_zero] at x0
  have HH1 := Lib.hid h1
  have HBB := Lib.hid B1
  have HB1 := Lib.hid hb1
  clear h1 B1 hb1 hv
  go_wp2_with fail
  refine (find_any L _ id w1 HA1.out).mono ?_
  rw [HF]
  rintro e w2 ⟨rfl, nd, rfl⟩
  obtain ⟨wq, hwq⟩ : ∃ wq, wq = w1.drewN nd := ⟨_, rfl⟩
  rw [← hwq]
  have hh : wq.heap = w1.heap := by rw [hwq]; rfl
  have HBQ : Hid (Below w.heap.size w wq) := by
    refine Lib.hid ?_
    rw [hwq]
    exact ⟨HBB.out.os, HBB.out.tape, HBB.out.output, HBB.out.size, HBB.out.block⟩
  have hb1 : wq.heap[w.heap.size]? = some (.cells #[.int .i64 id, .bool true, .int .i64 left, .string data] 30 (0, 0)) := by rw [hh]; exact HB1.out
  have HHQ : Hid (Sl wq base 68 3 mc (.slice sa L.length cap) L) := Lib.hid (HH1.out.same (by rw [hh]; exact Nat.le_refl _) (fun g _ => by rw [hh]))
  have HAQ := Lib.hid (HHQ.out.at mc_len)
  have hzq : w.heap.size < wq.heap.size := (Array.getElem?_eq_some_iff.1 hb1).1
  clear hwq hh HBB HH1 HA1 HB1 x0
  have x0 := cell_at hb1 0
  have x1 := cell_at hb1 1
  have x2 := cell_at hb1 2
  have x3 := cell_at hb1 3
  simp only [List.getElem?_toArray, List.getElem?_cons_zero, List.getElem?_cons_succ] at x0 x1 x2 x3
  clear hb1
  have y1 : (64 : Int) ≤ (L.length : Int) := by omega
  go_wp2_with fail
  ((try simp only [Exit.inBlock, Exit.then]); refine bodyPost_ret (results_tmp4 rfl _ _ _) rfl ?_)
  refine ⟨rfl, ?_⟩
  exact HBQ.out.alloc HBQ.out.size _

set_option maxRecDepth 100000 in
set_option maxHeartbeats 4000000 in
theorem rfeed_form3 {base : Nat} {L : List MsgD} {v : Value} (w : World) (h : Sl w base 68 3 mc v L) (_ : L.length ≤ 1000000) (id left : Int) (data : ByteArray) (hv : validB id left data = true) (d : ByteArray) (nx : Int) (hg : Mp.get L id = some (d, nx)) (hne : left ≠ nx) :
    Calls Try.prog 20 #[v, .agg #[.int .i64 id, .bool false, .int .i64 left, .string data]] w fun e w' => e = .returned (.tuple #[v, .string ByteArray.empty, .bool false, .int .i64 6]) ∧ Below w.heap.size w w' := by
  obtain ⟨_, sa, cap, rfl⟩ := (h.at mc_len).len
  obtain ⟨j, hj, hLj, hfj, hdel⟩ := find_some L id 0 (d, nx) hg
  rw [Nat.zero_add] at hfj
  have HF := hfj
  have HD := Lib.hid hdel
  clear hfj hdel
  obtain ⟨hv1, hv2, hv3, hv4, hv5⟩ := valid_of hv
  go_enter Try.func20, Try.ntmps20
  go_wp2_with fail
  refine (rvalid_yes id left false data _ hv).mono ?_
  rintro e w1 ⟨rfl, b1⟩
  have hz1 := b1.size
  simp only [World.size_alloc] at hz1
  have hb1 : w1.heap[w.heap.size]? = some (.cells #[.int .i64 id, .bool false, .int .i64 left, .string data] 30 (0, 0)) :=
    (b1.block w.heap.size (by simp)).trans (World.alloc_heap_new w _)
  have B1 : Below w.heap.size w w1 := ((Below.refl _ w).alloc (Nat.le_refl _) _).trans (b1.mono (by simp))
  have h1 : Sl w1 base 68 3 mc (.slice sa L.length cap) L := h.below B1 (fun g hg => (h.lt g hg).2)
  have hbw : ∀ g, (Value.slice sa L.length cap).ownBlock = some g → g < w.heap.size := fun g hg => (h.lt g hg).2
  have HG := Lib.hid hbw
  clear hbw
  have HA1 := Lib.hid (h1.at mc_len)
  clear b1 h
  have x0 := cell_at hb1 0
  simp only [List.getElem?_toArray, List.getElem?_cons_zero] at x0
  have HH1 := Lib.hid h1
  have HBB := Lib.hid B1
  have HB1 := Lib.hid hb1
  clear h1 B1 hb1 hv
  go_wp2_with fail
  refine (find_any L _ id w1 HA1.out).mono ?_
  rw [HF]
  rintro e w2 ⟨rfl, nd, rfl⟩
  obtain ⟨wq, hwq⟩ : ∃ wq, wq = w1.drewN nd := ⟨_, rfl⟩
  rw [← hwq]
  have hh : wq.heap = w1.heap := by rw [hwq]; rfl
  have HBQ : Hid (Below w.heap.size w wq) := by
    refine Lib.hid ?_
    rw [hwq]
    exact ⟨HBB.out.os, HBB.out.tape, HBB.out.output, HBB.out.size, HBB.out.block⟩
  have hb1 : wq.heap[w.heap.size]? = some (.cells #[.int .i64 id, .bool false, .int .i64 left, .string data] 30 (0, 0)) := by rw [hh]; exact HB1.out
  have HHQ : Hid (Sl wq base 68 3 mc (.slice sa L.length cap) L) := Lib.hid (HH1.out.same (by rw [hh]; exact Nat.le_refl _) (fun g _ => by rw [hh]))
  have HAQ := Lib.hid (HHQ.out.at mc_len)
  have hzq : w.heap.size < wq.heap.size := (Array.getElem?_eq_some_iff.1 hb1).1
  clear hwq hh HBB HH1 HA1 HB1 x0
  have x0 := cell_at hb1 0
  have x1 := cell_at hb1 1
  have x2 := cell_at hb1 2
  have x3 := cell_at hb1 3
  simp only [List.getElem?_toArray, List.getElem?_cons_zero, List.getElem?_cons_succ] at x0 x1 x2 x3
  clear hb1
  obtain ⟨b0, o0, rfl, q0, cL⟩ := HAQ.out.get (by omega)
  have k0 := cL j 0 hj (by omega)
  have k1 := cL j 1 hj (by omega)
  have k2 := cL j 2 hj (by omega)
  rw [hLj] at k0 k1 k2
  simp only [mc, List.getElem?_cons_zero, List.getElem?_cons_succ, Nat.add_zero] at k0 k1 k2
  clear cL
  have y0 : (0 : Int) ≤ (j : Int) := by omega
  have y1 : (left != nx) = true := by simpa using hne
  go_wp2_with fail
  ((try simp only [Exit.inBlock, Exit.then]); refine bodyPost_ret (results_tmp4 rfl _ _ _) rfl ?_)
  refine ⟨rfl, ?_⟩
  exact HBQ.out.alloc HBQ.out.size _

set_option maxRecDepth 100000 in
set_option maxHeartbeats 4000000 in
theorem rfeed_long {base : Nat} {L : List MsgD} {v : Value} (w : World) (h : Sl w base 68 3 mc v L) (_ : L.length ≤ 1000000) (id left : Int) (data : ByteArray) (hv : validB id left data = true) (d : ByteArray) (hg : Mp.get L id = some (d, left)) (hds : d.size ≤ 262144) (hlg : 262144 < d.size + data.size) :
    Calls Try.prog 20 #[v, .agg #[.int .i64 id, .bool false, .int .i64 left, .string data]] w fun e w' => e = .returned (.tuple #[v, .string ByteArray.empty, .bool false, .int .i64 3]) ∧ Below w.heap.size w w' := by
  obtain ⟨_, sa, cap, rfl⟩ := (h.at mc_len).len
  obtain ⟨j, hj, hLj, hfj, hdel⟩ := find_some L id 0 (d, left) hg
  rw [Nat.zero_add] at hfj
  have HF := hfj
  have HD := Lib.hid hdel
  clear hfj hdel
  obtain ⟨hv1, hv2, hv3, hv4, hv5⟩ := valid_of hv
  go_enter Try.func20, Try.ntmps20
  go_wp2_with fail
  refine (rvalid_yes id left false data _ hv).mono ?_
  rintro e w1 ⟨rfl, b1⟩
  have hz1 := b1.size
  simp only [World.size_alloc] at hz1
  have hb1 : w1.heap[w.heap.size]? = some (.cells #[.int .i64 id, .bool false, .int .i64 left, .string data] 30 (0, 0)) :=
    (b1.block w.heap.size (by simp)).trans (World.alloc_heap_new w _)
  have B1 : Below w.heap.size w w1 := ((Below.refl _ w).alloc (Nat.le_refl _) _).trans (b1.mono (by simp))
  have h1 : Sl w1 base 68 3 mc (.slice sa L.length cap) L := h.below B1 (fun g hg => (h.lt g hg).2)
  have hbw : ∀ g, (Value.slice sa L.length cap).ownBlock = some g → g < w.heap.size := fun g hg => (h.lt g hg).2
  have HG := Lib.hid hbw
  clear hbw
  have HA1 := Lib.hid (h1.at mc_len)
  clear b1 h
  have x0 := cell_at hb1 0
  simp only [List.getElem?_toArray, List.getElem?_cons_zero] at x0
  have HH1 := Lib.hid h1
  have HBB := Lib.hid B1
  have HB1 := Lib.hid hb1
  clear h1 B1 hb1 hv
  go_wp2_with fail
  refine (find_any L _ id w1 HA1.out).mono ?_
  rw [HF]
  rintro e w2 ⟨rfl, nd, rfl⟩
  obtain ⟨wq, hwq⟩ : ∃ wq, wq = w1.drewN nd := ⟨_, rfl⟩
  rw [← hwq]
  have hh : wq.heap = w1.heap := by rw [hwq]; rfl
  have HBQ : Hid (Below w.heap.size w wq) := by
    refine Lib.hid ?_
    rw [hwq]
    exact ⟨HBB.out.os, HBB.out.tape, HBB.out.output, HBB.out.size, HBB.out.block⟩
  have hb1 : wq.heap[w.heap.size]? = some (.cells #[.int .i64 id, .bool false, .int .i64 left, .string data] 30 (0, 0)) := by rw [hh]; exact HB1.out
  have HHQ : Hid (Sl wq base 68 3 mc (.slice sa L.length cap) L) := Lib.hid (HH1.out.same (by rw [hh]; exact Nat.le_refl _) (fun g _ => by rw [hh]))
  have HAQ := Lib.hid (HHQ.out.at mc_len)
  have hzq : w.heap.size < wq.heap.size := (Array.getElem?_eq_some_iff.1 hb1).1
  clear hwq hh HBB HH1 HA1 HB1 x0
  have x0 := cell_at hb1 0
  have x1 := cell_at hb1 1
  have x2 := cell_at hb1 2
  have x3 := cell_at hb1 3
  simp only [List.getElem?_toArray, List.getElem?_cons_zero, List.getElem?_cons_succ] at x0 x1 x2 x3
  clear hb1
  obtain ⟨b0, o0, rfl, q0, cL⟩ := HAQ.out.get (by omega)
  have k0 := cL j 0 hj (by omega)
  have k1 := cL j 1 hj (by omega)
  have k2 := cL j 2 hj (by omega)
  rw [hLj] at k0 k1 k2
  simp only [mc, List.getElem?_cons_zero, List.getElem?_cons_succ, Nat.add_zero] at k0 k1 k2
  clear cL
  have y0 : (0 : Int) ≤ (j : Int) := by omega
  have y1 : (left != left) = false := by simp
  have y2 : (262144 : Int) < (d.size : Int) + (data.size : Int) := by omega
  go_wp2_with fail
  ((try simp only [Exit.inBlock, Exit.then]); refine bodyPost_ret (results_tmp4 rfl _ _ _) rfl ?_)
  refine ⟨rfl, ?_⟩
  exact HBQ.out.alloc HBQ.out.size _

set_option maxRecDepth 100000 in
set_option maxHeartbeats 4000000 in
theorem rfeed_next {base : Nat} {L : List MsgD} {v : Value} (w : World) (h : Sl w base 68 3 mc v L) (hL : L.length ≤ 1000000) (id left : Int) (data : ByteArray) (hbase : base ≤ w.heap.size) (hv : validB id left data = true) (d : ByteArray) (hg : Mp.get L id = some (d, left)) (hds : d.size ≤ 262144) (hlg : d.size + data.size ≤ 262144) :
    Calls Try.prog 20 #[v, .agg #[.int .i64 id, .bool false, .int .i64 left, .string data]] w fun e w' => ∃ v', e = .returned (.tuple #[v', .string (if 1 < left then ByteArray.empty else d ++ data), .bool (if 1 < left then false else true), .int .i64 0]) ∧ Sl w' base 68 3 mc v' (if 1 < left then Mp.del L id ++ [(id, d ++ data, left - 1)] else Mp.del L id) ∧ Below w.heap.size w w' := by
  obtain ⟨_, sa, cap, rfl⟩ := (h.at mc_len).len
  obtain ⟨j, hj, hLj, hfj, hdel⟩ := find_some L id 0 (d, left) hg
  rw [Nat.zero_add] at hfj
  have HF := hfj
  have HD := Lib.hid hdel
  clear hfj hdel
  obtain ⟨hv1, hv2, hv3, hv4, hv5⟩ := valid_of hv
  go_enter Try.func20, Try.ntmps20
  go_wp2_with fail
  refine (rvalid_yes id left false data _ hv).mono ?_
  rintro e w1 ⟨rfl, b1⟩
  have hz1 := b1.size
  simp only [World.size_alloc] at hz1
  have hb1 : w1.heap[w.heap.size]? = some (.cells #[.int .i64 id, .bool false, .int .i64 left, .string data] 30 (0, 0)) :=
    (b1.block w.heap.size (by simp)).trans (World.alloc_heap_new w _)
  have B1 : Below w.heap.size w w1 := ((Below.refl _ w).alloc (Nat.le_refl _) _).trans (b1.mono (by simp))
  have h1 : Sl w1 base 68 3 mc (.slice sa L.length cap) L := h.below B1 (fun g hg => (h.lt g hg).2)
  have hbw : ∀ g, (Value.slice sa L.length cap).ownBlock = some g → g < w.heap.size := fun g hg => (h.lt g hg).2
  have HG := Lib.hid hbw
  clear hbw
  have HA1 := Lib.hid (h1.at mc_len)
  clear b1 h
  have x0 := cell_at hb1 0
  simp only [List.getElem?_toArray, List.getElem?_cons_zero] at x0
  have HH1 := Lib.hid h1
  have HBB := Lib.hid B1
  have HB1 := Lib.hid hb1
  clear h1 B1 hb1 hv
  go_wp2_with fail
  refine (find_any L _ id w1 HA1.out).mono ?_
  rw [HF]
  rintro e w2 ⟨rfl, nd, rfl⟩
  obtain ⟨wq, hwq⟩ : ∃ wq, wq = w1.drewN nd := ⟨_, rfl⟩
  rw [← hwq]
  have hh : wq.heap = w1.heap := by rw [hwq]; rfl
  have HBQ : Hid (Below w.heap.size w wq) := by
    refine Lib.hid ?_
    rw [hwq]
    exact ⟨HBB.out.os, HBB.out.tape, HBB.out.output, HBB.out.size, HBB.out.block⟩
  have hb1 : wq.heap[w.heap.size]? = some (.cells #[.int .i64 id, .bool false, .int .i64 left, .string data] 30 (0, 0)) := by rw [hh]; exact HB1.out
  have HHQ : Hid (Sl wq base 68 3 mc (.slice sa L.length cap) L) := Lib.hid (HH1.out.same (by rw [hh]; exact Nat.le_refl _) (fun g _ => by rw [hh]))
  have HAQ := Lib.hid (HHQ.out.at mc_len)
  have hzq : w.heap.size < wq.heap.size := (Array.getElem?_eq_some_iff.1 hb1).1
  clear hwq hh HBB HH1 HA1 HB1 x0
  have x0 := cell_at hb1 0
  have x1 := cell_at hb1 1
  have x2 := cell_at hb1 2
  have x3 := cell_at hb1 3
  simp only [List.getElem?_toArray, List.getElem?_cons_zero, List.getElem?_cons_succ] at x0 x1 x2 x3
  clear hb1
  obtain ⟨b0, o0, rfl, q0, cL⟩ := HAQ.out.get (by omega)
  have k0 := cL j 0 hj (by omega)
  have k1 := cL j 1 hj (by omega)
  have k2 := cL j 2 hj (by omega)
  rw [hLj] at k0 k1 k2
  simp only [mc, List.getElem?_cons_zero, List.getElem?_cons_succ, Nat.add_zero] at k0 k1 k2
  clear cL
  have y0 : (0 : Int) ≤ (j : Int) := by omega
  have y1 : (left != left) = false := by simp
  have y2 : ¬ (262144 : Int) < (d.size : Int) + (data.size : Int) := by omega
  go_wp2_with fail
  go_loopw [10, 11] (fun s i wr => ∃ k : Nat, k ≤ L.length ∧ i = .int .i64 k ∧ Sl wr (wq.heap.size + 1) 68 3 mc s (copyK L j k) ∧ Below wq.heap.size wq wr ∧ wr.heap[wq.heap.size]? = some (.cells #[.int .i64 id, .string (d ++ data), .int .i64 (left - 1)] 68 (0, 0))) (fun _ i _ => L.length - (intOf i).toNat)
  case atStart => exact ⟨0, Nat.zero_le _, rfl, by rw [copy_zero]; exact Sl.nil _ _ _ _ _, (Below.refl _ wq).alloc (Nat.le_refl _) _, World.alloc_heap_new wq _⟩
  case round =>
    obtain ⟨k, hk, rfl, s1, bl, hb9⟩ := hrel
    obtain ⟨_, sb, cb, rfl⟩ := (s1.at mc_len).len
    have hcl := copy_len L j k
    have hz9 := box68 hb9
    by_cases hlt : k < L.length
    · skip
      by_cases hkn : k = j
      · subst hkn
        have y7 : ((k : Int) != (k : Int)) = false := by simp
        have HC : Hid (Sl wr (wq.heap.size + 1) 68 3 mc (.slice sb (copyK L k k).length cb) (copyK L k (k + 1))) := by refine Lib.hid ?_; rw [copy_skip L k hlt]; exact s1
        have HBL := Lib.hid bl
        have HB9 := Lib.hid hb9
        clear s1 bl hb9
        go_wp2_with fail
        go_roundw
        case rel => exact ⟨k + 1, by omega, by go_num, HC.out, HBL.out, HB9.out⟩
        case measure => simp [intOf]; omega
      · have y7 : ((k : Int) != (j : Int)) = true := by simp; omega
        obtain ⟨b0', o0', he0, q0', cL⟩ := HAQ.out.get (by omega)
        cases he0
        have k0 := (bl.cell (p := ⟨b0, o0 + k * 3 + 0, none⟩) q0).trans (cL k 0 hlt (by omega))
        have k1 := (bl.cell (p := ⟨b0, o0 + k * 3 + 1, none⟩) q0).trans (cL k 1 hlt (by omega))
        have k2 := (bl.cell (p := ⟨b0, o0 + k * 3 + 2, none⟩) q0).trans (cL k 2 hlt (by omega))
        simp only [mc, List.getElem?_cons_zero, List.getElem?_cons_succ, Nat.add_zero] at k0 k1 k2
        clear cL
        obtain ⟨g, cg, W2, hrun, s2, hgrow, hwhere⟩ := Sl.push (P := Try.prog) (t := 47) (ty := 47) (s1.only (Only.alloc [] wr (.cells (mc L[k]).toArray 68)) (fun g _ => by simp)) u47 info68 rfl (by omega) mc_len mc_one L[k] (World.alloc_heap_new wr _) (by omega) (by omega) (by simp; omega) 1
        have HC : Hid (Sl W2 (wq.heap.size + 1) 68 3 mc (.slice (some ⟨g, 0, none⟩) ((copyK L j k).length + 1) cg) (copyK L j (k + 1))) := by refine Lib.hid ?_; rw [copy_next L j k hlt (by omega)]; exact s2
        have HBL : Hid (Below wq.heap.size wq W2) := by
          refine Lib.hid (bl.trans ((((Below.refl _ wr).alloc bl.size _).grown hgrow (by simp; omega) (fun r hr => by have := (s1.lt r hr).1; omega))))
        have HB9 : Hid (W2.heap[wq.heap.size]? = some (.cells #[.int .i64 id, .string (d ++ data), .int .i64 (left - 1)] 68 (0, 0))) := by
          refine Lib.hid (Eq.trans ?_ hb9)
          exact ((((Below.refl (wq.heap.size + 1) wr).alloc (by omega) _).grown hgrow (by simp; omega) (fun r hr => (s1.lt r hr).1))).block _ (by omega)
        simp only [mc] at hrun
        have HRN := Lib.hid hrun
        clear hrun s2 hgrow hwhere s1 bl hb9
        go_wp2_with (at_builtin; refine wpList_append_run rfl _ _ 47 47 rfl rfl rfl HRN.out ?_)
        go_roundw
        case rel => exact ⟨k + 1, by omega, by go_num, HC.out, HBL.out, HB9.out⟩
        case measure => simp [intOf]; omega
    · obtain rfl : k = L.length := by omega
      have x2' := (bl.cell (p := ⟨w.heap.size, 2, none⟩) hzq).trans x2
      have z0 := cell_at hb9 0
      have z1 := cell_at hb9 1
      have z2 := cell_at hb9 2
      simp only [List.getElem?_toArray, List.getElem?_cons_zero, List.getElem?_cons_succ] at z0 z1 z2
      have hres : copyK L j L.length = Mp.del L id := by rw [copy_all, HD.out]
      by_cases hl : 1 < left
      · have y8 : (left == 1) = false := by simp; omega
        obtain ⟨g, cg, W2, hrun, s2, hgrow, hwhere⟩ := Sl.push (P := Try.prog) (t := 47) (ty := 47) (s1.only (Only.alloc [] wr (.cells (mc (id, d ++ data, left - 1)).toArray 68)) (fun g _ => by simp)) u47 info68 rfl (by omega) mc_len mc_one (id, d ++ data, left - 1) (World.alloc_heap_new wr _) (by omega) (by omega) (by simp; omega) 1
        rw [hres] at hrun s2
        have HC : Hid (Sl W2 base 68 3 mc (.slice (some ⟨g, 0, none⟩) ((Mp.del L id).length + 1) cg) (Mp.del L id ++ [(id, d ++ data, left - 1)])) := Lib.hid (s2.mono (by omega))
        have HBL : Hid (Below w.heap.size w W2) := Lib.hid (HBQ.out.trans ((bl.trans ((((Below.refl _ wr).alloc bl.size _).grown hgrow (by simp; omega) (fun r hr => by have := (s1.lt r hr).1; omega)))).mono (by omega)))
        simp only [mc] at hrun
        have HRN := Lib.hid hrun
        rw [hres]
        clear hrun s2 hgrow hwhere s1 bl hb9
        go_wp2_with (at_builtin; refine wpList_append_run rfl _ _ 47 47 rfl rfl rfl HRN.out ?_)
        ((try simp only [Exit.inBlock, Exit.then]); refine bodyPost_ret (results_tmp4 rfl _ _ _) rfl ?_)
        exact ⟨_, rfl, HC.out, HBL.out⟩
      · have y8 : (left == 1) = true := by simp; omega
        have HC := Lib.hid s1
        have HBL : Hid (Below w.heap.size w wr) := Lib.hid (HBQ.out.trans (bl.mono (by omega)))
        clear s1 bl hb9
        go_wp2_with fail
        go_quiet (fail)
        go_wp2_with fail
        ((try simp only [Exit.inBlock, Exit.then]); refine bodyPost_ret (results_tmp4 rfl _ _ _) rfl ?_)
        have hfin := HC.out.mono (base' := base) (by omega)
        rw [hres] at hfin
        refine ⟨.slice sb (Mp.del L id).length cb, by rw [← hres]; rfl, hfin.same (Nat.le_refl _) (fun _ _ => rfl), ?_⟩
        exact ⟨HBL.out.os, HBL.out.tape, HBL.out.output, HBL.out.size, HBL.out.block⟩

set_option maxRecDepth 100000 in
set_option maxHeartbeats 4000000 in
theorem rfeed_first {base : Nat} {L : List MsgD} {v : Value} (w : World) (h : Sl w base 68 3 mc v L) (hL : L.length ≤ 1000000) (id left : Int) (data : ByteArray) (hbase : base ≤ w.heap.size) (hv : validB id left data = true) (hg : Mp.get L id = none) (hl0 : 1 < left) (hn : L.length < 64) :
    Calls Try.prog 20 #[v, .agg #[.int .i64 id, .bool true, .int .i64 left, .string data]] w fun e w' => ∃ v', e = .returned (.tuple #[v', .string (if 1 < left then ByteArray.empty else ByteArray.empty ++ data), .bool (if 1 < left then false else true), .int .i64 0]) ∧ Sl w' base 68 3 mc v' (if 1 < left then L ++ [(id, ByteArray.empty ++ data, left - 1)] else L) ∧ Below w.heap.size w w' := by
  obtain ⟨_, sa, cap, rfl⟩ := (h.at mc_len).len
  have HF := find_none L id 0 hg
  obtain ⟨hv1, hv2, hv3, hv4, hv5⟩ := valid_of hv
  go_enter Try.func20, Try.ntmps20
  go_wp2_with fail
  refine (rvalid_yes id left true data _ hv).mono ?_
  rintro e w1 ⟨rfl, b1⟩
  have hz1 := b1.size
  simp only [World.size_alloc] at hz1
  have hb1 : w1.heap[w.heap.size]? = some (.cells #[.int .i64 id, .bool true, .int .i64 left, .string data] 30 (0, 0)) :=
    (b1.block w.heap.size (by simp)).trans (World.alloc_heap_new w _)
  have B1 : Below w.heap.size w w1 := ((Below.refl _ w).alloc (Nat.le_refl _) _).trans (b1.mono (by simp))
  have h1 : Sl w1 base 68 3 mc (.slice sa L.length cap) L := h.below B1 (fun g hg => (h.lt g hg).2)
  have hbw : ∀ g, (Value.slice sa L.length cap).ownBlock = some g → g < w.heap.size := fun g hg => (h.lt g hg).2
  have HG := Lib.hid hbw
  clear hbw
  have HA1 := Lib.hid (h1.at mc_len)
  clear b1 h
  have x0 := cell_at hb1 0
  simp only [List.getElem?_toArray, List.getElem?_cons_zero] at x0
  have HH1 := Lib.hid h1
  have HBB := Lib.hid B1
  have HB1 := Lib.hid hb1
  clear h1 B1 hb1 hv
  go_wp2_with fail
  refine (find_any L _ id w1 HA1.out).mono ?_
  rw [HF]
  rintro e w2 ⟨rfl, nd, rfl⟩
  obtain ⟨wq, hwq⟩ : ∃ wq, wq = w1.drewN nd := ⟨_, rfl⟩
  rw [← hwq]
  have hh : wq.heap = w1.heap := by rw [hwq]; rfl
  have HBQ : Hid (Below w.heap.size w wq) := by
    refine Lib.hid ?_
    rw [hwq]
    exact ⟨HBB.out.os, HBB.out.tape, HBB.out.output, HBB.out.size, HBB.out.block⟩
  have hb1 : wq.heap[w.heap.size]? = some (.cells #[.int .i64 id, .bool true, .int .i64 left, .string data] 30 (0, 0)) := by rw [hh]; exact HB1.out
  have HHQ : Hid (Sl wq base 68 3 mc (.slice sa L.length cap) L) := Lib.hid (HH1.out.same (by rw [hh]; exact Nat.le_refl _) (fun g _ => by rw [hh]))
  have HAQ := Lib.hid (HHQ.out.at mc_len)
  have hzq : w.heap.size < wq.heap.size := (Array.getElem?_eq_some_iff.1 hb1).1
  clear hwq hh HBB HH1 HA1 HB1 x0
  have x0 := cell_at hb1 0
  have x1 := cell_at hb1 1
  have x2 := cell_at hb1 2
  have x3 := cell_at hb1 3
  simp only [List.getElem?_toArray, List.getElem?_cons_zero, List.getElem?_cons_succ] at x0 x1 x2 x3
  clear hb1
  have y9 : ¬ (64 : Int) ≤ (L.length : Int) := by omega
  have hd0 : ByteArray.empty.size = 0 := rfl
  go_wp2_with fail
  go_loopw [10, 11] (fun s i wr => ∃ k : Nat, k ≤ L.length ∧ i = .int .i64 k ∧ Sl wr (wq.heap.size + 1) 68 3 mc s (copyK L L.length k) ∧ Below wq.heap.size wq wr ∧ wr.heap[wq.heap.size]? = some (.cells #[.int .i64 id, .string (ByteArray.empty ++ data), .int .i64 (left - 1)] 68 (0, 0))) (fun _ i _ => L.length - (intOf i).toNat)
  case atStart => exact ⟨0, Nat.zero_le _, rfl, by rw [copy_zero]; exact Sl.nil _ _ _ _ _, (Below.refl _ wq).alloc (Nat.le_refl _) _, World.alloc_heap_new wq _⟩
  case round =>
    obtain ⟨k, hk, rfl, s1, bl, hb9⟩ := hrel
    obtain ⟨_, sb, cb, rfl⟩ := (s1.at mc_len).len
    have hcl := copy_len L L.length k
    have hz9 := box68 hb9
    by_cases hlt : k < L.length
    · skip
      have y7 : ((k : Int) != (-1 : Int)) = true := by rw [bne_iff_ne]; omega
      have hkn : k ≠ L.length := by omega
      obtain ⟨b0, o0, rfl, q0, cL⟩ := HAQ.out.get (by omega)
      have k0 := (bl.cell (p := ⟨b0, o0 + k * 3 + 0, none⟩) q0).trans (cL k 0 hlt (by omega))
      have k1 := (bl.cell (p := ⟨b0, o0 + k * 3 + 1, none⟩) q0).trans (cL k 1 hlt (by omega))
      have k2 := (bl.cell (p := ⟨b0, o0 + k * 3 + 2, none⟩) q0).trans (cL k 2 hlt (by omega))
      simp only [mc, List.getElem?_cons_zero, List.getElem?_cons_succ, Nat.add_zero] at k0 k1 k2
      clear cL
      obtain ⟨g, cg, W2, hrun, s2, hgrow, hwhere⟩ := Sl.push (P := Try.prog) (t := 47) (ty := 47) (s1.only (Only.alloc [] wr (.cells (mc L[k]).toArray 68)) (fun g _ => by simp)) u47 info68 rfl (by omega) mc_len mc_one L[k] (World.alloc_heap_new wr _) (by omega) (by omega) (by simp; omega) 1
      have HC : Hid (Sl W2 (wq.heap.size + 1) 68 3 mc (.slice (some ⟨g, 0, none⟩) ((copyK L L.length k).length + 1) cg) (copyK L L.length (k + 1))) := by refine Lib.hid ?_; rw [copy_next L L.length k hlt (by omega)]; exact s2
      have HBL : Hid (Below wq.heap.size wq W2) := by
        refine Lib.hid (bl.trans ((((Below.refl _ wr).alloc bl.size _).grown hgrow (by simp; omega) (fun r hr => by have := (s1.lt r hr).1; omega))))
      have HB9 : Hid (W2.heap[wq.heap.size]? = some (.cells #[.int .i64 id, .string (ByteArray.empty ++ data), .int .i64 (left - 1)] 68 (0, 0))) := by
        refine Lib.hid (Eq.trans ?_ hb9)
        exact ((((Below.refl (wq.heap.size + 1) wr).alloc (by omega) _).grown hgrow (by simp; omega) (fun r hr => (s1.lt r hr).1))).block _ (by omega)
      simp only [mc] at hrun
      have HRN := Lib.hid hrun
      clear hrun s2 hgrow hwhere s1 bl hb9
      go_wp2_with (at_builtin; refine wpList_append_run rfl _ _ 47 47 rfl rfl rfl HRN.out ?_)
      go_roundw
      case rel => exact ⟨k + 1, by omega, by go_num, HC.out, HBL.out, HB9.out⟩
      case measure => simp [intOf]; omega
    · obtain rfl : k = L.length := by omega
      have x2' := (bl.cell (p := ⟨w.heap.size, 2, none⟩) hzq).trans x2
      have z0 := cell_at hb9 0
      have z1 := cell_at hb9 1
      have z2 := cell_at hb9 2
      simp only [List.getElem?_toArray, List.getElem?_cons_zero, List.getElem?_cons_succ] at z0 z1 z2
      have hres : copyK L L.length L.length = L := by rw [copy_all, List.eraseIdx_of_length_le (Nat.le_refl _)]
      by_cases hl : 1 < left
      · have y8 : (left == 1) = false := by simp; omega
        obtain ⟨g, cg, W2, hrun, s2, hgrow, hwhere⟩ := Sl.push (P := Try.prog) (t := 47) (ty := 47) (s1.only (Only.alloc [] wr (.cells (mc (id, ByteArray.empty ++ data, left - 1)).toArray 68)) (fun g _ => by simp)) u47 info68 rfl (by omega) mc_len mc_one (id, ByteArray.empty ++ data, left - 1) (World.alloc_heap_new wr _) (by omega) (by omega) (by simp; omega) 1
        rw [hres] at hrun s2
        have HC : Hid (Sl W2 base 68 3 mc (.slice (some ⟨g, 0, none⟩) ((L).length + 1) cg) (L ++ [(id, ByteArray.empty ++ data, left - 1)])) := Lib.hid (s2.mono (by omega))
        have HBL : Hid (Below w.heap.size w W2) := Lib.hid (HBQ.out.trans ((bl.trans ((((Below.refl _ wr).alloc bl.size _).grown hgrow (by simp; omega) (fun r hr => by have := (s1.lt r hr).1; omega)))).mono (by omega)))
        simp only [mc] at hrun
        have HRN := Lib.hid hrun
        rw [hres]
        clear hrun s2 hgrow hwhere s1 bl hb9
        go_wp2_with (at_builtin; refine wpList_append_run rfl _ _ 47 47 rfl rfl rfl HRN.out ?_)
        ((try simp only [Exit.inBlock, Exit.then]); refine bodyPost_ret (results_tmp4 rfl _ _ _) rfl ?_)
        exact ⟨_, rfl, HC.out, HBL.out⟩
      · exact absurd hl0 (by omega)

set_option maxRecDepth 100000 in
set_option maxHeartbeats 4000000 in
theorem rfeed_only {base : Nat} {L : List MsgD} {v : Value} (w : World) (h : Sl w base 68 3 mc v L) (hL : L.length ≤ 1000000) (id left : Int) (data : ByteArray) (hbase : base ≤ w.heap.size) (hv : validB id left data = true) (hg : Mp.get L id = none) (hl0 : ¬ 1 < left) :
    Calls Try.prog 20 #[v, .agg #[.int .i64 id, .bool true, .int .i64 left, .string data]] w fun e w' => ∃ v', e = .returned (.tuple #[v', .string (if 1 < left then ByteArray.empty else ByteArray.empty ++ data), .bool (if 1 < left then false else true), .int .i64 0]) ∧ Sl w' base 68 3 mc v' (if 1 < left then L ++ [(id, ByteArray.empty ++ data, left - 1)] else L) ∧ Below w.heap.size w w' := by
  obtain ⟨_, sa, cap, rfl⟩ := (h.at mc_len).len
  have HF := find_none L id 0 hg
  obtain ⟨hv1, hv2, hv3, hv4, hv5⟩ := valid_of hv
  go_enter Try.func20, Try.ntmps20
  go_wp2_with fail
  refine (rvalid_yes id left true data _ hv).mono ?_
  rintro e w1 ⟨rfl, b1⟩
  have hz1 := b1.size
  simp only [World.size_alloc] at hz1
  have hb1 : w1.heap[w.heap.size]? = some (.cells #[.int .i64 id, .bool true, .int .i64 left, .string data] 30 (0, 0)) :=
    (b1.block w.heap.size (by simp)).trans (World.alloc_heap_new w _)
  have B1 : Below w.heap.size w w1 := ((Below.refl _ w).alloc (Nat.le_refl _) _).trans (b1.mono (by simp))
  have h1 : Sl w1 base 68 3 mc (.slice sa L.length cap) L := h.below B1 (fun g hg => (h.lt g hg).2)
  have hbw : ∀ g, (Value.slice sa L.length cap).ownBlock = some g → g < w.heap.size := fun g hg => (h.lt g hg).2
  have HG := Lib.hid hbw
  clear hbw
  have HA1 := Lib.hid (h1.at mc_len)
  clear b1 h
  have x0 := cell_at hb1 0
  simp only [List.getElem?_toArray, List.getElem?_cons_zero] at x0
  have HH1 := Lib.hid h1
  have HBB := Lib.hid B1
  have HB1 := Lib.hid hb1
  clear h1 B1 hb1 hv
  go_wp2_with fail
  refine (find_any L _ id w1 HA1.out).mono ?_
  rw [HF]
  rintro e w2 ⟨rfl, nd, rfl⟩
  obtain ⟨wq, hwq⟩ : ∃ wq, wq = w1.drewN nd := ⟨_, rfl⟩
  rw [← hwq]
  have hh : wq.heap = w1.heap := by rw [hwq]; rfl
  have HBQ : Hid (Below w.heap.size w wq) := by
    refine Lib.hid ?_
    rw [hwq]
    exact ⟨HBB.out.os, HBB.out.tape, HBB.out.output, HBB.out.size, HBB.out.block⟩
  have hb1 : wq.heap[w.heap.size]? = some (.cells #[.int .i64 id, .bool true, .int .i64 left, .string data] 30 (0, 0)) := by rw [hh]; exact HB1.out
  have HHQ : Hid (Sl wq base 68 3 mc (.slice sa L.length cap) L) := Lib.hid (HH1.out.same (by rw [hh]; exact Nat.le_refl _) (fun g _ => by rw [hh]))
  have HAQ := Lib.hid (HHQ.out.at mc_len)
  have hzq : w.heap.size < wq.heap.size := (Array.getElem?_eq_some_iff.1 hb1).1
  clear hwq hh HBB HH1 HA1 HB1 x0
  have x0 := cell_at hb1 0
  have x1 := cell_at hb1 1
  have x2 := cell_at hb1 2
  have x3 := cell_at hb1 3
  simp only [List.getElem?_toArray, List.getElem?_cons_zero, List.getElem?_cons_succ] at x0 x1 x2 x3
  clear hb1
  have hd0 : ByteArray.empty.size = 0 := rfl
  go_wp2_with fail
  go_loopw [10, 11] (fun s i wr => ∃ k : Nat, k ≤ L.length ∧ i = .int .i64 k ∧ Sl wr (wq.heap.size + 1) 68 3 mc s (copyK L L.length k) ∧ Below wq.heap.size wq wr ∧ wr.heap[wq.heap.size]? = some (.cells #[.int .i64 id, .string (ByteArray.empty ++ data), .int .i64 (left - 1)] 68 (0, 0))) (fun _ i _ => L.length - (intOf i).toNat)
  case atStart => exact ⟨0, Nat.zero_le _, rfl, by rw [copy_zero]; exact Sl.nil _ _ _ _ _, (Below.refl _ wq).alloc (Nat.le_refl _) _, World.alloc_heap_new wq _⟩
  case round =>
    obtain ⟨k, hk, rfl, s1, bl, hb9⟩ := hrel
    obtain ⟨_, sb, cb, rfl⟩ := (s1.at mc_len).len
    have hcl := copy_len L L.length k
    have hz9 := box68 hb9
    by_cases hlt : k < L.length
    · skip
      have y7 : ((k : Int) != (-1 : Int)) = true := by rw [bne_iff_ne]; omega
      have hkn : k ≠ L.length := by omega
      obtain ⟨b0, o0, rfl, q0, cL⟩ := HAQ.out.get (by omega)
      have k0 := (bl.cell (p := ⟨b0, o0 + k * 3 + 0, none⟩) q0).trans (cL k 0 hlt (by omega))
      have k1 := (bl.cell (p := ⟨b0, o0 + k * 3 + 1, none⟩) q0).trans (cL k 1 hlt (by omega))
      have k2 := (bl.cell (p := ⟨b0, o0 + k * 3 + 2, none⟩) q0).trans (cL k 2 hlt (by omega))
      simp only [mc, List.getElem?_cons_zero, List.getElem?_cons_succ, Nat.add_zero] at k0 k1 k2
      clear cL
      obtain ⟨g, cg, W2, hrun, s2, hgrow, hwhere⟩ := Sl.push (P := Try.prog) (t := 47) (ty := 47) (s1.only (Only.alloc [] wr (.cells (mc L[k]).toArray 68)) (fun g _ => by simp)) u47 info68 rfl (by omega) mc_len mc_one L[k] (World.alloc_heap_new wr _) (by omega) (by omega) (by simp; omega) 1
      have HC : Hid (Sl W2 (wq.heap.size + 1) 68 3 mc (.slice (some ⟨g, 0, none⟩) ((copyK L L.length k).length + 1) cg) (copyK L L.length (k + 1))) := by refine Lib.hid ?_; rw [copy_next L L.length k hlt (by omega)]; exact s2
      have HBL : Hid (Below wq.heap.size wq W2) := by
        refine Lib.hid (bl.trans ((((Below.refl _ wr).alloc bl.size _).grown hgrow (by simp; omega) (fun r hr => by have := (s1.lt r hr).1; omega))))
      have HB9 : Hid (W2.heap[wq.heap.size]? = some (.cells #[.int .i64 id, .string (ByteArray.empty ++ data), .int .i64 (left - 1)] 68 (0, 0))) := by
        refine Lib.hid (Eq.trans ?_ hb9)
        exact ((((Below.refl (wq.heap.size + 1) wr).alloc (by omega) _).grown hgrow (by simp; omega) (fun r hr => (s1.lt r hr).1))).block _ (by omega)
      simp only [mc] at hrun
      have HRN := Lib.hid hrun
      clear hrun s2 hgrow hwhere s1 bl hb9
      go_wp2_with (at_builtin; refine wpList_append_run rfl _ _ 47 47 rfl rfl rfl HRN.out ?_)
      go_roundw
      case rel => exact ⟨k + 1, by omega, by go_num, HC.out, HBL.out, HB9.out⟩
      case measure => simp [intOf]; omega
    · obtain rfl : k = L.length := by omega
      have x2' := (bl.cell (p := ⟨w.heap.size, 2, none⟩) hzq).trans x2
      have z0 := cell_at hb9 0
      have z1 := cell_at hb9 1
      have z2 := cell_at hb9 2
      simp only [List.getElem?_toArray, List.getElem?_cons_zero, List.getElem?_cons_succ] at z0 z1 z2
      have hres : copyK L L.length L.length = L := by rw [copy_all, List.eraseIdx_of_length_le (Nat.le_refl _)]
      by_cases hl : 1 < left
      · exact absurd hl (by omega)
      · have y8 : (left == 1) = true := by simp; omega
        have HC := Lib.hid s1
        have HBL : Hid (Below w.heap.size w wr) := Lib.hid (HBQ.out.trans (bl.mono (by omega)))
        clear s1 bl hb9
        go_wp2_with fail
        go_quiet (fail)
        go_wp2_with fail
        ((try simp only [Exit.inBlock, Exit.then]); refine bodyPost_ret (results_tmp4 rfl _ _ _) rfl ?_)
        have hfin := HC.out.mono (base' := base) (by omega)
        rw [hres] at hfin
        refine ⟨.slice sb (L).length cb, by rw [← hres]; rfl, hfin.same (Nat.le_refl _) (fun _ _ => rfl), ?_⟩
        exact ⟨HBL.out.os, HBL.out.tape, HBL.out.output, HBL.out.size, HBL.out.block⟩
end Go.Proofs.Ytbddggdbhfmlnaa