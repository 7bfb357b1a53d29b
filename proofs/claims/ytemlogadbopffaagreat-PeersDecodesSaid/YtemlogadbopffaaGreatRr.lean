/- The reference's reader: its plain form; take, number, name. -/
import Derived.Test.YtemlogadbopffaaGreatRefP
namespace Go.Proofs.YtemlogadbopffaaGreat
open Go.RowKit Go.Rt Go.Rw

/-- What is left to read, how many parts may come, whether it is no encoding. -/
structure Sr where
 r : List UInt8
 left : Int
 bad : Bool
def takeS (st : Sr) (n : Nat) : List UInt8 × Sr := if st.bad = true ∨ st.r.length < n then ([], ⟨st.r, st.left, true⟩) else (st.r.take n, ⟨st.r.drop n, st.left, st.bad⟩)
def numS (st : Sr) (k : Nat) : Nat × Sr := (beN (takeS st k).1, (takeS st k).2)
def badS (c : Bool) (st : Sr) : Sr := if c then ⟨st.r, st.left, true⟩ else st
def nameS (st : Sr) : List UInt8 × Sr := takeS (numS (badS (decide ((numS st 1).1 ≠ 119)) (numS st 1).2) 1).2 (numS (badS (decide ((numS st 1).1 ≠ 119)) (numS st 1).2) 1).1
/-- A reader in block rb. -/
def RS (s : ByteArray) (rb : Nat) (st : Sr) (w : World) : Prop :=
 ∃ at' : Nat, at' + st.r.length = s.size ∧ s.data.toList.drop at' = st.r ∧ Blk w rb 154 #[.string s, .int .i64 at', .int .i64 st.left, .bool st.bad]
theorem RS.lt {s : ByteArray} {rb : Nat} {st : Sr} {w : World} (h : RS s rb st w) : rb < w.heap.size := by
 obtain ⟨_, _, _, h⟩ := h
 exact h.lt
theorem RS.le {s : ByteArray} {rb : Nat} {st : Sr} {w : World} (h : RS s rb st w) : st.r.length ≤ s.size := by
 obtain ⟨_, h, _, _⟩ := h
 omega
theorem RS.same {s : ByteArray} {rb : Nat} {st : Sr} {w w' : World} (h : RS s rb st w) (hb : w'.heap[rb]? = w.heap[rb]?) : RS s rb st w' := by
 obtain ⟨at', h1, h2, h3⟩ := h
 exact ⟨at', h1, h2, by unfold Blk at h3 ⊢; rw [hb]; exact h3⟩
theorem RS.below {s : ByteArray} {rb : Nat} {st : Sr} {w w' : World} (h : RS s rb st w) (hb : Below w.heap.size w w') : RS s rb st w' := h.same (hb.block rb h.lt)
theorem RS.only' {s : ByteArray} {rb g : Nat} {st : Sr} {w w' : World} (h : RS s rb st w) (o : Only [g] w w') (hg : rb ≠ g) : RS s rb st w' := h.same (o.block rb h.lt (by simpa using hg))
/-- The reader says that it is no encoding. -/
theorem RS.setBad {s : ByteArray} {rb : Nat} {st : Sr} {w : World} (h : RS s rb st w) : RS s rb ⟨st.r, st.left, true⟩ (w.setCell ⟨rb, 3, none⟩ (.bool true)) := by
 obtain ⟨at', h1, h2, h3⟩ := h
 exact ⟨at', h1, h2, h3.set_ 3 _⟩
/-- What a reading function answers. -/
def SR {α : Type} (s : ByteArray) (rb : Nat) (P : α × Sr) (val : α → Value) (w : World) (e : Ending) (w' : World) : Prop := Only [rb] w w' ∧ e = .returned (val P.1) ∧ RS s rb P.2 w'
set_option maxRecDepth 100000 in
set_option maxHeartbeats 2000000 in
theorem rtake_any {s : ByteArray} {rb : Nat} {st : Sr} {w : World} (h : RS s rb st w) (n : Nat) (hn : n ≤ 8589934592) (hs : s.size ≤ 200000) :
  Calls Tryz.prog 113 #[.pointer (some ⟨rb, 0, none⟩), .int .i64 n] w (SR s rb (takeS st n) (fun a => .string ⟨a.toArray⟩) w) := by
 obtain ⟨r, left, bad⟩ := st
 obtain ⟨P, hP⟩ : ∃ P, P = takeS ⟨r, left, bad⟩ n := ⟨_, rfl⟩
 rw [← hP]
 unfold takeS at hP
 dsimp only at hP
 have HR := Lib.hid h
 obtain ⟨at', h1, h2, h3⟩ := h
 dsimp only at h1 h2 h3
 have H1 := Lib.hid h1
 have H2 := Lib.hid h2
 have HB := Lib.hid h3
 have c0 : w.cell? ⟨rb, 0, none⟩ = some (.string s) := h3.cell 0
 have c1 : w.cell? ⟨rb, 1, none⟩ = some (.int .i64 at') := h3.cell 1
 have c3 : w.cell? ⟨rb, 3, none⟩ = some (.bool bad) := h3.cell 3
 have w1 : IntKind.i64.wrap ((s.size : Int) - (at' : Int)) = (r.length : Int) := by rw [IntKind.wrap_i64]; omega
 have HP := Lib.hid hP
 clear h1 h2 h3 hP
 cases bad with
 | true =>
  obtain rfl : P = ([], ⟨r, left, true⟩) := by rw [HP.out, if_pos (.inl rfl)]
  clear HP
  go_enter Tryz.func113, Tryz.ntmps113
  go_wp2_with fail
  go_quiet (fail)
  have O2 := Lib.hid (Only.drewN [rb] w nq)
  have R2 := Lib.hid (HR.out.same (w' := w.drewN nq) rfl)
  have B2 := Lib.hid (HB.out.drewN nq)
  generalize w.drewN nq = w2 at O2 R2 B2 ⊢
  clear c0 c1 c3 w1 HR HB
  go_wp2_with (refine wpList_store_fld rfl 4 _ _ rfl rfl rb 3 _ 154 (.bool true) rfl rfl B2.out (Nat.le_of_ble_eq_true rfl) (by kernel_rfl) rfl ?_)
  intro v ev
  have R3 := Lib.hid (show RS s rb ⟨r, left, true⟩ v by rw [ev]; exact R2.out.setBad)
  have O3 := Lib.hid (show Only [rb] w v by rw [ev]; exact O2.out.trans (Only.setCell w2 ⟨rb, 3, none⟩ _ (by simp)))
  clear ev R2 B2 O2
  go_wp2_with fail
  go_ret
  exact ⟨O3.out, rfl, R3.out⟩
 | false =>
  by_cases hle : n ≤ r.length
  ·
   have d : decide ((r.length : Int) < (n : Int)) = false := decide_eq_false (by omega)
   have d2 : decide (r.length < n) = false := decide_eq_false (by omega)
   obtain rfl : P = (r.take n, ⟨r.drop n, left, false⟩) := by rw [HP.out, if_neg (by simp; omega)]
   clear HP
   go_enter Tryz.func113, Tryz.ntmps113
   go_wp2_with fail
   go_quiet (fail)
   have O2 := Lib.hid (Only.drewN [rb] w nq)
   have B2 := Lib.hid (HB.out.drewN nq)
   generalize w.drewN nq = w2 at O2 B2 ⊢
   clear c0 c1 c3 w1 HR HB d d2
   obtain ⟨q, hq⟩ : ∃ q, q = at' + n := ⟨_, rfl⟩
   have HQ := Lib.hid hq
   have w3 : IntKind.i64.wrap ((at' : Int) + (n : Int)) = (q : Int) := by rw [IntKind.wrap_i64]; have := H1.out; omega
   have hsl : ∀ W, (Instr.slice 9 (.string s) (some (.int .i64 (at' : Int))) (some (.int .i64 (q : Int))) none).run Tryz.prog W = .ok (.string ⟨(r.take n).toArray⟩) W := fun W => by
    have h1 := H1.out
    have h2 := H2.out
    have hq := HQ.out
    rw [run_slice_string W 9 s .i64 .i64 (at' : Int) (q : Int) Tryz.underlying9 (by omega) (by omega) (by omega)]
    have : s.extract at' (at' + n) = ⟨(r.take n).toArray⟩ := by rw [extract_take, h2]
    simp only [Int.toNat_natCast, hq, this]
   clear hq
   have c0 : w2.cell? ⟨rb, 0, none⟩ = some (.string s) := B2.out.cell 0
   have c1 : w2.cell? ⟨rb, 1, none⟩ = some (.int .i64 at') := B2.out.cell 1
   go_wp2_with fail
   go_quiet (fail)
   have O4 := Lib.hid (O2.out.trans (Only.drewN [rb] w2 nq))
   have B4 := Lib.hid (B2.out.drewN nq)
   generalize w2.drewN nq = w4 at O4 B4 ⊢
   clear c0 c1 hsl B2 O2
   have c1 : w4.cell? ⟨rb, 1, none⟩ = some (.int .i64 at') := B4.out.cell 1
   go_wp2_with (refine wpList_store_fld rfl 3 _ _ rfl rfl rb 1 _ 154 (.int .i64 (q : Int)) rfl rfl B4.out (Nat.le_of_ble_eq_true rfl) (by kernel_rfl) rfl ?_)
   intro v ev
   have B5 := Lib.hid (show Blk v rb 154 #[.string s, .int .i64 (q : Int), .int .i64 left, .bool false] by rw [ev]; exact B4.out.set_ 1 _)
   have O5 := Lib.hid (show Only [rb] w v by rw [ev]; exact O4.out.trans (Only.setCell w4 ⟨rb, 1, none⟩ _ (by simp)))
   clear ev c1 w3 B4 O4
   go_wp2_with fail
   go_ret
   exact ⟨O5.out, rfl, q, by have := H1.out; have := HQ.out; simp; omega, by rw [HQ.out, ← List.drop_drop, H2.out], B5.out⟩
  ·
   have d : decide ((r.length : Int) < (n : Int)) = true := decide_eq_true (by omega)
   have d2 : decide (r.length < n) = true := decide_eq_true (by omega)
   obtain rfl : P = ([], ⟨r, left, true⟩) := by rw [HP.out, if_pos (.inr (by omega))]
   clear HP
   go_enter Tryz.func113, Tryz.ntmps113
   go_wp2_with fail
   go_quiet (fail)
   have O2 := Lib.hid (Only.drewN [rb] w nq)
   have R2 := Lib.hid (HR.out.same (w' := w.drewN nq) rfl)
   have B2 := Lib.hid (HB.out.drewN nq)
   generalize w.drewN nq = w2 at O2 R2 B2 ⊢
   clear c0 c1 c3 w1 HR HB d d2
   go_wp2_with (refine wpList_store_fld rfl 4 _ _ rfl rfl rb 3 _ 154 (.bool true) rfl rfl B2.out (Nat.le_of_ble_eq_true rfl) (by kernel_rfl) rfl ?_)
   intro v ev
   have R3 := Lib.hid (show RS s rb ⟨r, left, true⟩ v by rw [ev]; exact R2.out.setBad)
   have O3 := Lib.hid (show Only [rb] w v by rw [ev]; exact O2.out.trans (Only.setCell w2 ⟨rb, 3, none⟩ _ (by simp)))
   clear ev R2 B2 O2
   go_wp2_with fail
   go_ret
   exact ⟨O3.out, rfl, R3.out⟩
theorem takeS_len (st : Sr) (n : Nat) : (takeS st n).1.length ≤ n ∧ (takeS st n).1.length ≤ st.r.length := by
 unfold takeS
 split
 ·
  simp
 ·
  simp; omega
theorem numS_lt (st : Sr) (k : Nat) : (numS st k).1 < 256 ^ k := by
 have h1 := beN_lt (takeS st k).1
 have h2 := (takeS_len st k).1
 exact Nat.lt_of_lt_of_le h1 (Nat.pow_le_pow_right (by omega) h2)
set_option maxRecDepth 100000 in
set_option maxHeartbeats 2000000 in
theorem rnumber_any {s : ByteArray} {rb : Nat} {st : Sr} {w : World} (h : RS s rb st w) (k : Nat) (hk : k ≤ 4) (hs : s.size ≤ 200000) :
  Calls Tryz.prog 109 #[.pointer (some ⟨rb, 0, none⟩), .int .i64 k] w (SR s rb (numS st k) (fun a => .int .i64 (a : Nat)) w) := by
 have C1 := Lib.hid (rtake_any h k (by omega) hs)
 have hlen := (takeS_len st k).1
 clear h
 unfold numS
 obtain ⟨q, hq⟩ : ∃ q, q = takeS st k := ⟨_, rfl⟩
 rw [← hq] at C1 hlen ⊢
 clear hq
 obtain ⟨a, st'⟩ := q
 dsimp only at hlen ⊢
 go_enter Tryz.func109, Tryz.ntmps109
 go_wp2_with fail
 refine C1.out.mono ?_
 rintro e w1 ⟨o1, rfl, r1⟩
 have O1 := Lib.hid o1
 have R1 := Lib.hid r1
 dsimp only
 obtain ⟨m, hm⟩ : ∃ m, m = a.length := ⟨_, rfl⟩
 have hz : (⟨a.toArray⟩ : ByteArray).size = m := by rw [hm]; show a.toArray.size = _; simp
 have HM := Lib.hid hm
 rw [← hm] at hlen
 have hlz : ((⟨a.toArray⟩ : ByteArray).size : Int) = (m : Int) := by rw [hz]
 have hla : (a.length : Int) = (m : Int) := by rw [hm]
 clear o1 r1 C1 hm hz
 go_wp2_with fail
 go_loopw [6, 7] (fun n i wr => ∃ c : Nat, c ≤ m ∧ i = .int .i64 c ∧ n = .int .i64 (beN (a.take c) : Nat) ∧ w1 = wr) (fun _ i _ => m - (intOf i).toNat)
 case atStart => exact ⟨0, Nat.zero_le _, rfl, rfl, rfl⟩
 case round =>
  obtain ⟨c, hc, rfl, rfl, rfl⟩ := hrel
  by_cases hcl : c < m
  ·
   have hca : c < a.length := by rw [← HM.out]; exact hcl
   have hx := fun W => index_byte a c hca W
   have hbl := beN_lt (a.take c)
   have hbs : beN (a.take (c + 1)) = beN (a.take c) * 256 + (a[c]'hca).toNat := by
    rw [List.take_succ_eq_append_getElem hca, beN_snoc]
   have hcc : (a.take c).length ≤ 3 := by rw [List.length_take]; omega
   have hm3 : beN (a.take c) < 16777216 := Nat.lt_of_lt_of_le hbl (Nat.pow_le_pow_right (by omega) hcc)
   have hd3 := UInt8.toNat_lt (a[c]'hca)
   generalize beN (a.take c) = p at hbs hm3 ⊢
   generalize (a[c]'hca).toNat = d at hx hbs hd3
   have HBS := Lib.hid hbs
   clear hbs hbl hcc hca
   go_wp2_with fail
   go_roundw
   case rel => exact ⟨c + 1, by omega, by go_num, by rw [HBS.out]; exact congrArg _ (by omega), trivial⟩
   case measure => simp [intOf]; omega
  ·
   have hck : c = a.length := by have := HM.out; omega
   rw [hck, List.take_length]
   rw [← HM.out]
   go_wp2_with fail
   go_ret
   exact ⟨O1.out, rfl, R1.out⟩
set_option maxRecDepth 100000 in
set_option maxHeartbeats 2000000 in
theorem rrname_any {s : ByteArray} {rb : Nat} {st : Sr} {w : World} (h : RS s rb st w) (hs : s.size ≤ 200000) :
  Calls Tryz.prog 111 #[.pointer (some ⟨rb, 0, none⟩)] w (SR s rb (nameS st) (fun a => .string ⟨a.toArray⟩) w) := by
 have C1 := Lib.hid (rnumber_any h 1 (by omega) hs)
 have hl := numS_lt st 1
 clear h
 obtain ⟨P, hP⟩ : ∃ P, P = nameS st := ⟨_, rfl⟩
 rw [← hP]
 unfold nameS at hP
 obtain ⟨q, hq⟩ : ∃ q, q = numS st 1 := ⟨_, rfl⟩
 rw [← hq] at C1 hP hl
 clear hq
 obtain ⟨t, st1⟩ := q
 dsimp only at hP hl
 have HP := Lib.hid hP
 clear hP
 go_enter Tryz.func111, Tryz.ntmps111
 go_wp2_with fail
 refine C1.out.mono ?_
 rintro e w1 ⟨o1, rfl, r1⟩
 have O1 := Lib.hid o1
 have R1 := Lib.hid r1
 dsimp only at R1 ⊢
 clear o1 r1 C1
 by_cases ht : t = 119
 ·
  have d1 : ((t : Int) != 119) = false := by rw [bne_eq_false_iff_eq]; omega
  have HP2 := HP.out
  rw [show decide (t ≠ 119) = false by simp [ht]] at HP2
  unfold badS at HP2
  rw [if_neg (by decide)] at HP2
  have hl2 := numS_lt st1 1
  have C2 := rnumber_any R1.out 1 (by omega) hs
  obtain ⟨q, hq⟩ : ∃ q, q = numS st1 1 := ⟨_, rfl⟩
  rw [← hq] at C2 HP2 hl2
  obtain ⟨n, st2⟩ := q
  have HC2 := Lib.hid C2
  have HP := Lib.hid HP2
  dsimp only at HP hl2
  have hn9 : n ≤ 8589934592 := by omega
  clear C2 HP2 hq ht
  go_wp2_with fail
  refine HC2.out.mono ?_
  rintro e w2 ⟨o2, rfl, r2⟩
  dsimp only at r2 ⊢
  have O2 := Lib.hid (O1.out.trans o2)
  have C3 := rtake_any r2 n hn9 hs
  rw [← HP.out] at C3
  have HC3 := Lib.hid C3
  clear o2 r2 C3 HC2 HP
  go_wp2_with fail
  refine HC3.out.mono ?_
  rintro e w3 ⟨o3, rfl, r3⟩
  have O3 := Lib.hid (O2.out.trans o3)
  have R3 := Lib.hid r3
  clear o3 r3 HC3
  go_wp2_with fail
  go_ret
  exact ⟨O3.out, rfl, R3.out⟩
 ·
  have d1 : ((t : Int) != 119) = true := by rw [bne_iff_ne]; omega
  have HP2 := HP.out
  rw [show decide (t ≠ 119) = true by simp [ht]] at HP2
  unfold badS at HP2
  rw [if_pos rfl] at HP2
  have HP3 := Lib.hid HP2
  obtain ⟨a1, _, _, hb1⟩ := R1.out
  have HB1 := Lib.hid hb1
  clear hb1 HP HP2 ht
  go_wp2_with (refine wpList_store_fld rfl 4 _ _ rfl rfl rb 3 _ 154 (.bool true) rfl rfl HB1.out (Nat.le_of_ble_eq_true rfl) (by kernel_rfl) rfl ?_)
  intro v ev
  have R2 := Lib.hid (show RS s rb ⟨st1.r, st1.left, true⟩ v by rw [ev]; exact R1.out.setBad)
  have O2 := Lib.hid (show Only [rb] w v by rw [ev]; exact O1.out.trans (Only.setCell w1 ⟨rb, 3, none⟩ _ (by simp)))
  clear ev HB1 R1 O1
  have HP2 := HP3.out
  have hl2 := numS_lt ⟨st1.r, st1.left, true⟩ 1
  have C2 := rnumber_any R2.out 1 (by omega) hs
  obtain ⟨q, hq⟩ : ∃ q, q = numS ⟨st1.r, st1.left, true⟩ 1 := ⟨_, rfl⟩
  rw [← hq] at C2 HP2 hl2
  obtain ⟨n, st2⟩ := q
  have HC2 := Lib.hid C2
  have HP := Lib.hid HP2
  dsimp only at HP hl2
  have hn9 : n ≤ 8589934592 := by omega
  clear C2 HP2 HP3 hq
  go_wp2_with fail
  refine HC2.out.mono ?_
  rintro e w2 ⟨o2, rfl, r2⟩
  dsimp only at r2 ⊢
  have O3 := Lib.hid (O2.out.trans o2)
  have C3 := rtake_any r2 n hn9 hs
  rw [← HP.out] at C3
  have HC3 := Lib.hid C3
  clear o2 r2 C3 HC2 HP
  go_wp2_with fail
  refine HC3.out.mono ?_
  rintro e w3 ⟨o3, rfl, r3⟩
  have O4 := Lib.hid (O3.out.trans o3)
  have R3 := Lib.hid r3
  clear o3 r3 HC3
  go_wp2_with fail
  go_ret
  exact ⟨O4.out, rfl, R3.out⟩
end Go.Proofs.YtemlogadbopffaaGreat
