/- What the reference store's Keep and Drop do. -/
import Derived.Test.YtfgnagnnmibmaaaRef
namespace Go.Proofs.Ytfgnagnnmibmaaa
open Go.RowKit Go.Mp

theorem wpList_append_run {P : Program} {ops : Array Oper} {rest : List Oper} {o : Oper} {a : Act} {w w' : World} {Q : Exit → Act → World → Prop} {v src v' : Value}
    (hgd : o.guard = none) (s x : Operand) (t : TypeId) (hop : o.op = Op.call { callee := Callee.builtin Builtin.append, args := #[s, x], argTypes := #[t, t] })
    (hs : a.eval s = v) (hx : a.eval x = src) (hrun : (Builtin.append_ #[t, t] o.type #[v, src]).run P w = .ok v' w') (hK : wpList P ops Q rest (a.put o.dst v') w') :
    wpList P ops Q (o :: rest) a w :=
  wpList_plain hgd fun _ hK' => by
    unfold Oper.wp execOp
    simp only [hop, resolve, invoke, builtin, Sem.run_bind, Sem.run_pure, Result.andThen_ok, List.map_toArray, List.map_cons, List.map_nil, hs, hx, hrun]
    exact hK' _ _ hK

theorem rkeep_none {base R : Nat} {v : Value} {L : List Blob} {g : Int} (w : World) (h : RA w base R v L g) (id : Int) (hf : findI L id = -1) :
    Calls Try.prog 26 #[.pointer (some ⟨R, 0, none⟩), .int .i64 id] w fun e w' => e = .returned (.int .i64 4) ∧ w = w' := by
  have H := find_any w h id
  rw [hf] at H
  have HH := Lib.hid H
  clear H h hf
  go_enter Try.func26, Try.ntmps26
  go_wp2_with (go_at_call 32; refine HH.out.mono ?_; rintro e w' ⟨rfl, rfl⟩)
  go_ret
  exact ⟨rfl, rfl⟩

theorem rdrop_none {base R : Nat} {v : Value} {L : List Blob} {g : Int} (w : World) (h : RA w base R v L g) (id : Int) (hf : findI L id = -1) :
    Calls Try.prog 27 #[.pointer (some ⟨R, 0, none⟩), .int .i64 id] w fun e w' => e = .returned (.int .i64 4) ∧ w = w' := by
  have H := find_any w h id
  rw [hf] at H
  have HH := Lib.hid H
  clear H h hf
  go_enter Try.func27, Try.ntmps27
  go_wp2_with (go_at_call 32; refine HH.out.mono ?_; rintro e w' ⟨rfl, rfl⟩)
  go_ret
  exact ⟨rfl, rfl⟩

theorem rkeep_some {base R : Nat} {v : Value} {L : List Blob} {g : Int} (w : World) (h : RA w base R v L g) (id : Int) (m : Nat) (hm : m < L.length) (hf : findI L id = m) (c : Int) (hc : L[m].2.2 = c) (hc0 : 0 ≤ c) (hc1 : c ≤ 1000000000000) :
    Calls Try.prog 26 #[.pointer (some ⟨R, 0, none⟩), .int .i64 id] w fun e w' => e = .returned (.int .i64 0) ∧ RA w' base R v (L.set m (L[m].1, L[m].2.1, c + 1)) g ∧ Only (R :: v.ownBlock.toList) w w' := by
  have H := find_any w h id
  rw [hf] at H
  have HH := Lib.hid H
  have c0 := h.c0
  rcases h.val with ⟨rfl, rfl⟩ | ⟨b, cap, rfl, hlc, hcm, hbb, hbl, hbR⟩
  · simp at hm
  · unfold maxLen at hcm
    have HS := Lib.hid (h.set hbR m hm (c + 1))
    have cm2 := h.at m 2 hm (by omega)
    have fm2 := h.row.frozenAt (m * 3 + 2)
    simp only [bc, List.getElem?_cons_zero, List.getElem?_cons_succ, hc] at cm2
    clear H h hf hc
    go_enter Try.func26, Try.ntmps26
    go_wp2_with (go_at_call 32; refine HH.out.mono ?_; rintro e w' ⟨rfl, rfl⟩)
    go_ret
    exact ⟨rfl, HS.out.1, HS.out.2⟩

theorem rdrop_some {base R : Nat} {v : Value} {L : List Blob} {g : Int} (w : World) (h : RA w base R v L g) (id : Int) (m : Nat) (hm : m < L.length) (hf : findI L id = m) (c : Int) (hc : L[m].2.2 = c) (hc0 : 2 ≤ c) (hc1 : c ≤ 1000000000000) :
    Calls Try.prog 27 #[.pointer (some ⟨R, 0, none⟩), .int .i64 id] w fun e w' => e = .returned (.int .i64 0) ∧ RA w' base R v (L.set m (L[m].1, L[m].2.1, c - 1)) g ∧ Only (R :: v.ownBlock.toList) w w' := by
  have H := find_any w h id
  rw [hf] at H
  have HH := Lib.hid H
  have c0 := h.c0
  rcases h.val with ⟨rfl, rfl⟩ | ⟨b, cap, rfl, hlc, hcm, hbb, hbl, hbR⟩
  · simp at hm
  · unfold maxLen at hcm
    have HS := Lib.hid (h.set hbR m hm (c - 1))
    have cm2 := h.at m 2 hm (by omega)
    have fm2 := h.row.frozenAt (m * 3 + 2)
    simp only [bc, List.getElem?_cons_zero, List.getElem?_cons_succ, hc] at cm2
    have hne : (c - 1 == 0) = false := by simp; omega
    clear H h hf hc
    go_enter Try.func27, Try.ntmps27
    go_wp2_with (go_at_call 32; refine HH.out.mono ?_; rintro e w' ⟨rfl, rfl⟩)
    go_ret
    exact ⟨rfl, HS.out.1, HS.out.2⟩

theorem ownsRow_mono {w : World} {b1 b2 : Nat} {e : TypeId} {size : Nat} {v : Value} {n : Nat} {xs : List Value} (h : w.ownsRow b2 e size v n xs) (hb : b1 ≤ b2) : w.ownsRow b1 e size v n xs := by
  refine ⟨h.1, ?_⟩
  rcases h.2 with h2 | ⟨g, cap, cur, h1, h2, h3⟩
  · exact .inl h2
  · exact .inr ⟨g, cap, cur, h1, by omega, h3⟩
theorem bc_one (L : List Blob) : ∀ u ∈ rowOf L, u.oneCell' = true := by
  intro u hu
  simp only [rowOf, List.mem_flatMap] at hu
  obtain ⟨b, _, hb⟩ := hu
  simp only [bc, List.mem_cons, List.not_mem_nil, or_false] at hb
  rcases hb with rfl | rfl | rfl <;> rfl
theorem rowOf_append (A B : List Blob) : rowOf (A ++ B) = rowOf A ++ rowOf B := by simp [rowOf]
theorem rowOf_take (L : List Blob) (m : Nat) (hm : m ≤ L.length) : (rowOf L).take (m * 3) = rowOf (L.take m) := by
  conv => lhs; rw [← List.take_append_drop m L, rowOf_append]
  rw [List.take_append_of_le_length (by rw [rowOf_length]; simp; omega), List.take_of_length_le (by rw [rowOf_length]; simp; omega)]
theorem rowOf_drop (L : List Blob) (m : Nat) (hm : m ≤ L.length) : (rowOf L).drop (m * 3) = rowOf (L.drop m) := by
  conv => lhs; rw [← List.take_append_drop m L, rowOf_append]
  rw [List.drop_append_of_le_length (by rw [rowOf_length]; simp; omega), List.drop_of_length_le (by rw [rowOf_length]; simp; omega)]
  rfl
theorem addr_add (b o j : Nat) : (⟨b, o, none⟩ : Addr).add j = ⟨b, o + j, none⟩ := by
  unfold Addr.add
  split <;> simp_all

/-- The two appends that take element m out of a row. -/
theorem remove_runs {base R b cap : Nat} {L : List Blob} {g : Int} {W : World} (h : RA W base R (.slice (some ⟨b, 0, none⟩) L.length cap) L g) (hbase : base ≤ W.heap.size) (_hbl : b < W.heap.size) (m : Nat) (hm : m < L.length) (hL : L.length ≤ 1000000) (ad2 : Addr) (c2 : Nat) (had : ad2 = ⟨b, (m + 1) * 3, none⟩ ∨ L.length = m + 1) :
    ∃ v1 W1 v2 W2, (Builtin.append_ #[30, 30] 30 #[.slice none 0 0, .slice (some ⟨b, 0, none⟩) m cap]).run Try.prog W = .ok v1 W1 ∧
      W1.cell? ⟨R, 0, none⟩ = some (.slice (some ⟨b, 0, none⟩) L.length cap) ∧
      (Builtin.append_ #[30, 30] 30 #[v1, .slice (some ad2) (L.length - (m + 1)) c2]).run Try.prog W1 = .ok v2 W2 ∧
      W2.heap[R]? = some (.cells #[.slice (some ⟨b, 0, none⟩) L.length cap, .int .i64 g] 32 (0, 0)) ∧
      W2.ownsRow base 37 3 v2 (L.eraseIdx m).length (rowOf (L.eraseIdx m)) ∧ Only [] W W2 ∧ (∃ sb sn sc, v2 = .slice sb sn sc) ∧ (∃ sb sn sc, v1 = .slice sb sn sc) := by
  obtain ⟨i0, hi, hz0, hz1, hz2⟩ := info_parts info37
  have hrl : (rowOf L).length = L.length * 3 := rowOf_length L
  obtain ⟨v1, W1, r1, o1, g1, -⟩ := run_append_own (P := Try.prog) W W.heap.size 30 30 37 i0 _ 3 32 u30 hi hz0 hz1 hz2 rfl (by decide) (.slice none 0 0) 0 [] (World.ownsRow_nil W W.heap.size 37 3)
    ⟨b, 0, none⟩ m cap (rowOf (L.take m)) (by rw [rowOf_length]; simp; omega)
    (fun j u hj => by
      have hjl := (List.getElem?_eq_some_iff.1 hj).1
      rw [rowOf_length] at hjl
      simp at hjl
      rw [addr_add, Nat.zero_add, h.row.cellAt j (by omega), ← hj, ← rowOf_take L m (by omega), List.getElem?_take, if_pos (by omega)])
    (bc_one _) (by unfold maxLen; omega) (by omega) (Nat.le_refl _)
  have hb1 : W1.heap[R]? = some (.cells #[.slice (some ⟨b, 0, none⟩) L.length cap, .int .i64 g] 32 (0, 0)) := (g1.block R h.lt (by simp [Value.ownBlock])).trans h.blk
  have row1 : W1.ownsRow base 37 3 (.slice (some ⟨b, 0, none⟩) L.length cap) L.length (rowOf L) := h.row.kept g1 (.inr (by simp [Value.ownBlock]))
  have hz := g1.size
  obtain ⟨v2, W2, r2, o2, g2, -⟩ := run_append_own (P := Try.prog) W1 W.heap.size 30 30 37 i0 _ 3 32 u30 hi hz0 hz1 hz2 rfl (by decide) v1 (0 + m) ([] ++ rowOf (L.take m)) o1
    ad2 (L.length - (m + 1)) c2 (rowOf (L.drop (m + 1))) (by rw [rowOf_length]; simp)
    (fun j u hj => by
      have hjl := (List.getElem?_eq_some_iff.1 hj).1
      rw [rowOf_length] at hjl
      simp at hjl
      rcases had with rfl | hadl
      · rw [addr_add, row1.cellAt _ (by omega), ← hj, ← rowOf_drop L (m + 1) (by omega), List.getElem?_drop]
      · omega)
    (bc_one _) (by unfold maxLen; omega) (by omega) hz
  have hne : ∀ k, v1.ownBlock = some k → W.heap.size ≤ k := fun k hk => (o1.lt k hk).1
  have herase : L.eraseIdx m = L.take m ++ L.drop (m + 1) := by rw [List.eraseIdx_eq_take_drop_succ]
  refine ⟨v1, W1, v2, W2, r1, by simp [World.cell?, hb1], r2, ?_, ?_, ⟨g2.os.trans g1.os, g2.tape.trans g1.tape, g2.output.trans g1.output, Nat.le_trans g1.size g2.size, fun k hk _ => (g2.block k (by omega) (fun e => by have := hne k e.symm; omega)).trans (g1.block k hk (by simp [Value.ownBlock]))⟩, ?_, ?_⟩
  · exact (g2.block R (by have := h.lt; omega) (fun e => by have := hne R e.symm; have := h.lt; omega)).trans hb1
  · rw [herase, rowOf_append]
    have := ownsRow_mono o2 hbase
    rw [List.nil_append, Nat.zero_add] at this
    have hl2 : (L.take m ++ L.drop (m + 1)).length = m + (L.length - (m + 1)) := by simp; omega
    rw [hl2]
    exact this
  · rcases o2.2 with ⟨rfl, _⟩ | ⟨g', cap', _, rfl, _⟩
    · exact ⟨_, _, _, rfl⟩
    · exact ⟨_, _, _, rfl⟩
  · rcases o1.2 with ⟨rfl, _⟩ | ⟨g', cap', _, rfl, _⟩
    · exact ⟨_, _, _, rfl⟩
    · exact ⟨_, _, _, rfl⟩

set_option maxHeartbeats 400000 in
theorem rdrop_gone {base R : Nat} {v : Value} {L : List Blob} {g : Int} (w : World) (h : RA w base R v L g) (hbase : base ≤ w.heap.size) (id : Int) (m : Nat) (hm : m < L.length) (hf : findI L id = m) (hc : L[m].2.2 = 1) (hL : L.length ≤ 1000000) :
    Calls Try.prog 27 #[.pointer (some ⟨R, 0, none⟩), .int .i64 id] w fun e w' => e = .returned (.int .i64 0) ∧ (∃ v', RA w' base R v' (L.eraseIdx m) g) ∧ Only (R :: v.ownBlock.toList) w w' := by
  have H := find_any w h id
  rw [hf] at H
  have HH := Lib.hid H
  have c0 := h.c0
  rcases h.val with ⟨rfl, rfl⟩ | ⟨b, cap, rfl, hlc, hcm, hbb, hbl, hbR⟩
  · simp at hm
  · unfold maxLen at hcm
    obtain ⟨hs, os⟩ := h.set hbR m hm 0
    have cm2 := h.at m 2 hm (by omega)
    have fm2 := h.row.frozenAt (m * 3 + 2)
    simp only [bc, List.getElem?_cons_zero, List.getElem?_cons_succ, hc] at cm2
    have hll : (L.set m (L[m].1, L[m].2.1, 0)).length = L.length := by simp
    have hle : (L.set m (L[m].1, L[m].2.1, 0)).eraseIdx m = L.eraseIdx m := by
      rw [List.eraseIdx_eq_take_drop_succ, List.eraseIdx_eq_take_drop_succ, List.take_set_of_le (Nat.le_refl _), List.drop_set_of_lt (by omega)]
    have hs' : RA (w.setCell ⟨b, m * 3 + 2, none⟩ (.int .i64 0)) base R (.slice (some ⟨b, 0, none⟩) (L.set m (L[m].1, L[m].2.1, 0)).length cap) (L.set m (L[m].1, L[m].2.1, 0)) g := by rw [hll]; exact hs
    by_cases hcap : m + 1 = cap
    · obtain ⟨v1, W1, v2, W2, r1, k0, r2, kb, ko, O, ⟨sb, sn, sc, hv2⟩, ⟨tb, tn, tc, hv1⟩⟩ := remove_runs hs' (by simpa using hbase) (by simpa using hbl) m (by omega) (by omega) ⟨b, 0, none⟩ 0 (.inr (by omega))
      rw [hll] at r2 k0 kb
      rw [hle] at ko
      have hlm : L.length = m + 1 := by omega
      rw [show L.length - (m + 1) = 0 by omega] at r2
      subst hv2
      subst hv1
      have kf : W2.frozen? ⟨R, 0, none⟩ = false := by simp [World.frozen?, kb]
      have kc : W2.cell? ⟨R, 0, none⟩ = some (.slice (some ⟨b, 0, none⟩) L.length cap) := by simp [World.cell?, kb]
      have HA := Lib.hid (RA.store0 kb h.le ko)
      have HO := Lib.hid ((os.trans ⟨O.os, O.tape, O.output, O.size, fun k hk _ => O.block k hk (by simp)⟩).trans (Only.setCell W2 ⟨R, 0, none⟩ (.slice sb sn sc) (by simp)))
      have R1 := Lib.hid r1
      have R2 := Lib.hid r2
      subst hcap
      clear H h hf hc r1 r2 kb ko O hs hs' os hle hll
      go_enter Try.func27, Try.ntmps27
      go_wp2_with (first | (go_at_call 32; refine HH.out.mono ?_; rintro e w' ⟨rfl, rfl⟩) | (at_builtin; refine wpList_append_run (o := ⟨some 39, _, _, _, _, _⟩) rfl (.tmp 32) (.tmp 38) 30 rfl rfl rfl R1.out ?_) | (at_builtin; refine wpList_append_run (o := ⟨some 49, _, _, _, _, _⟩) rfl (.tmp 41) (.tmp 48) 30 rfl rfl rfl R2.out ?_))
      go_ret
      exact ⟨rfl, ⟨_, HA.out⟩, HO.out⟩
    · have hcap' : m + 1 < cap := by omega
      obtain ⟨v1, W1, v2, W2, r1, k0, r2, kb, ko, O, ⟨sb, sn, sc, hv2⟩, ⟨tb, tn, tc, hv1⟩⟩ := remove_runs hs' (by simpa using hbase) (by simpa using hbl) m (by omega) (by omega) ⟨b, (m + 1) * 3, none⟩ (cap - (m + 1)) (.inl rfl)
      rw [hll] at r2 k0 kb
      rw [hle] at ko
      subst hv2
      subst hv1
      have kf : W2.frozen? ⟨R, 0, none⟩ = false := by simp [World.frozen?, kb]
      have kc : W2.cell? ⟨R, 0, none⟩ = some (.slice (some ⟨b, 0, none⟩) L.length cap) := by simp [World.cell?, kb]
      have HA := Lib.hid (RA.store0 kb h.le ko)
      have HO := Lib.hid ((os.trans ⟨O.os, O.tape, O.output, O.size, fun k hk _ => O.block k hk (by simp)⟩).trans (Only.setCell W2 ⟨R, 0, none⟩ (.slice sb sn sc) (by simp)))
      have R1 := Lib.hid r1
      have R2 := Lib.hid r2
      clear H h hf hc r1 r2 kb ko O hs hs' os hle hll
      go_enter Try.func27, Try.ntmps27
      go_wp2_with (first | (go_at_call 32; refine HH.out.mono ?_; rintro e w' ⟨rfl, rfl⟩) | (at_builtin; refine wpList_append_run (o := ⟨some 39, _, _, _, _, _⟩) rfl (.tmp 32) (.tmp 38) 30 rfl rfl rfl R1.out ?_) | (at_builtin; refine wpList_append_run (o := ⟨some 49, _, _, _, _, _⟩) rfl (.tmp 41) (.tmp 48) 30 rfl rfl rfl R2.out ?_))
      go_ret
      exact ⟨rfl, ⟨_, HA.out⟩, HO.out⟩

end Go.Proofs.Ytfgnagnnmibmaaa
