/- wire.reader: demand, take, number, byte, name. -/
import Derived.Test.YtoaimoemaoinhaaGreatDoorPut
namespace Go.Proofs.YtoaimoemaoinhaaGreatDoor
open Go.RowKit Go.Rt Go.Rw

/-- The panic by which a reader gives up. -/
def refusal : List PanicEntry := [{ v := .iface 192 (.agg #[]), recovered := false }]
set_option maxRecDepth 100000 in
theorem demand_any (p : Value) (c : Bool) (w : World) :
    Calls Tryz.prog 124 #[p, .bool c] w fun e w' => (if c then e = .returned (.tuple #[]) else e = .panicked refusal) ∧ w = w' := by
  cases c with
  | false =>
    go_enter Tryz.func124, Tryz.ntmps124
    go_wp2_with fail
    exact ⟨rfl, rfl, rfl⟩
  | true =>
    go_enter Tryz.func124, Tryz.ntmps124
    go_wp2_with fail
    go_end0
    exact ⟨rfl, rfl⟩
/-- A reader in block rb: what is left to read, and how many parts are read. -/
def Rd (s : ByteArray) (rb : Nat) (r : List UInt8) (p : Nat) (w : World) : Prop :=
  ∃ at' : Nat, at' + r.length = s.size ∧ s.data.toList.drop at' = r ∧ Blk w rb 196 #[.string s, .int .i64 at', .int .i64 p]
theorem Rd.lt {s : ByteArray} {rb : Nat} {r : List UInt8} {p : Nat} {w : World} (h : Rd s rb r p w) : rb < w.heap.size := by
  obtain ⟨_, _, _, h⟩ := h
  exact h.lt
theorem Rd.below {s : ByteArray} {rb : Nat} {r : List UInt8} {p : Nat} {w w' : World} (h : Rd s rb r p w) (hb : Below w.heap.size w w') : Rd s rb r p w' := by
  obtain ⟨at', h1, h2, h3⟩ := h
  exact ⟨at', h1, h2, h3.below hb h3.lt⟩
/-- The first n bytes. -/
def takeL (r : List UInt8) (n : Nat) : Option (List UInt8 × List UInt8) := if n ≤ r.length then some (r.take n, r.drop n) else none
def beN (l : List UInt8) : Nat := l.foldl (fun n c => n * 256 + c.toNat) 0
def numP (r : List UInt8) (k : Nat) : Option (Nat × List UInt8) := (takeL r k).map (fun a => (beN a.1, a.2))
/-- What a reading function answers. -/
def RdR {α : Type} (s : ByteArray) (rb p : Nat) (P : Option (α × List UInt8)) (val : α → Value) (w : World) (e : Ending) (w' : World) : Prop :=
  Only [rb] w w' ∧ match P with
  | none => e = .panicked refusal
  | some a => e = .returned (val a.1) ∧ Rd s rb a.2 p w'
theorem extract_take (s : ByteArray) (a n : Nat) : s.extract a (a + n) = ⟨((s.data.toList.drop a).take n).toArray⟩ := by
  apply ByteArray.ext
  rw [ByteArray.data_extract]
  apply Array.toList_inj.1
  rw [Array.toList_extract]
  simp [List.extract]
set_option maxRecDepth 100000 in
set_option maxHeartbeats 2000000 in
theorem take_any {s : ByteArray} {rb p : Nat} {r : List UInt8} {w : World} (h : Rd s rb r p w) (n : Nat) (hn : n ≤ 8589934592) (hs : s.size ≤ 200000) :
    Calls Tryz.prog 158 #[.pointer (some ⟨rb, 0, none⟩), .int .i64 n] w (RdR s rb p (takeL r n) (fun a => .string ⟨a.toArray⟩) w) := by
  obtain ⟨at', h1, h2, h3⟩ := h
  have HB := Lib.hid h3
  have H1 := Lib.hid h1
  have H2 := Lib.hid h2
  have c0 : w.cell? ⟨rb, 0, none⟩ = some (.string s) := h3.cell 0
  have c1 : w.cell? ⟨rb, 1, none⟩ = some (.int .i64 at') := h3.cell 1
  unfold takeL
  have w1 : IntKind.i64.wrap ((s.size : Int) - (at' : Int)) = (r.length : Int) := by rw [IntKind.wrap_i64]; omega
  by_cases hle : n ≤ r.length
  · have d : decide ((n : Int) ≤ (r.length : Int)) = true := decide_eq_true (by omega)
    have d2 : decide (n ≤ r.length) = true := decide_eq_true hle
    rw [if_pos hle]
    clear h1 h2 h3
    go_enter Tryz.func158, Tryz.ntmps158
    go_wp2_with fail
    go_still_tail 13, (by kernel_rfl)
    change wpList _ _ _ _ _ w.drew
    have HB2 := Lib.hid (HB.out.drew)
    have O2 := Lib.hid (Only.drew [rb] w)
    generalize w.drew = w2 at HB2 O2 ⊢
    clear c0 c1 HB
    go_wp2_with fail
    refine (demand_any _ true _).mono ?_
    rintro e w3 ⟨rfl, rfl⟩
    have c1 : w2.cell? ⟨rb, 1, none⟩ = some (.int .i64 at') := HB2.out.cell 1
    obtain ⟨q, hq⟩ : ∃ q, q = at' + n := ⟨_, rfl⟩
    have HQ := Lib.hid hq
    have w3 : IntKind.i64.wrap ((at' : Int) + (n : Int)) = (q : Int) := by rw [IntKind.wrap_i64]; have := H1.out; omega
    clear hq
    go_wp2_with (refine wpList_store_fld rfl 3 _ _ rfl rfl rb 1 _ 196 (.int .i64 (q : Int)) rfl rfl HB2.out (Nat.le_of_ble_eq_true rfl) (by kernel_rfl) rfl ?_)
    intro v ev
    have B3 := Lib.hid (show Blk v rb 196 #[.string s, .int .i64 (q : Int), .int .i64 p] by rw [ev]; exact HB2.out.set_ 1 _)
    have O3 := Lib.hid (show Only [rb] w v by rw [ev]; exact O2.out.trans (Only.setCell w2 ⟨rb, 1, none⟩ _ (by simp)))
    clear ev c1 HB2 O2 w3
    have hsl : ∀ W, (Instr.slice 9 (.string s) (some (.int .i64 (at' : Int))) (some (.int .i64 (q : Int))) none).run Tryz.prog W = .ok (.string ⟨(r.take n).toArray⟩) W := fun W => by
      have h1 := H1.out
      have h2 := H2.out
      have hq := HQ.out
      rw [run_slice_string W 9 s .i64 .i64 (at' : Int) (q : Int) Tryz.underlying9 (by omega) (by omega) (by omega)]
      have : s.extract at' (at' + n) = ⟨(r.take n).toArray⟩ := by rw [extract_take, h2]
      simp only [Int.toNat_natCast, hq, this]
    have c0 : v.cell? ⟨rb, 0, none⟩ = some (.string s) := B3.out.cell 0
    have c1 : v.cell? ⟨rb, 1, none⟩ = some (.int .i64 (q : Int)) := B3.out.cell 1
    have w4 : IntKind.i64.wrap ((q : Int) - (n : Int)) = (at' : Int) := by rw [IntKind.wrap_i64]; have := H1.out; have := HQ.out; omega
    go_wp2_with fail
    go_quiet (fail)
    have O4 := Lib.hid (O3.out.trans (Only.drewN [rb] v nq))
    have B4 := Lib.hid (B3.out.drewN nq)
    generalize v.drewN nq = v4 at O4 B4 ⊢
    clear c0 c1 hsl w4 B3 O3
    go_wp2_with fail
    go_ret
    exact ⟨O4.out, rfl, q, by have := H1.out; have := HQ.out; simp; omega, by rw [HQ.out, ← List.drop_drop, H2.out], B4.out⟩
  · have d : decide ((n : Int) ≤ (r.length : Int)) = false := decide_eq_false (by omega)
    have d2 : decide (n ≤ r.length) = false := decide_eq_false hle
    rw [if_neg hle]
    clear h1 h2 h3
    go_enter Tryz.func158, Tryz.ntmps158
    go_wp2_with fail
    go_still_tail 13, (by kernel_rfl)
    change wpList _ _ _ _ _ w.drew
    have O2 := Lib.hid (Only.drew [rb] w)
    generalize w.drew = w2 at O2 ⊢
    clear c0 c1 HB
    go_wp2_with fail
    refine (demand_any _ false _).mono ?_
    rintro e w3 ⟨rfl, rfl⟩
    go_wp2_with fail
    exact ⟨rfl, O2.out, rfl⟩
theorem conv_string (a : List UInt8) (w : World) : ∃ cap W2, (convert 9 124 (.string ⟨a.toArray⟩)).run Tryz.prog w = .ok (.slice (some ⟨w.heap.size, 0, none⟩) a.length cap) W2 ∧ Below w.heap.size w W2 ∧ w.heap.size < W2.heap.size ∧
    ∀ j (h : j < a.length), W2.cell? ⟨w.heap.size, j, none⟩ = some (.int .u8 (a[j].toNat : Int)) := by
  have h := run_bytes_of_string (P := Tryz.prog) w 9 124 5 ⟨a.toArray⟩ Tryz.underlying9 Tryz.underlying124 Tryz.underlying5
  refine ⟨_, _, h, ?_, ?_, ?_⟩
  · exact ((Below.refl _ _).drew).alloc (Nat.le_refl _) _
  · simp
  · intro j hj
    have hb := World.alloc_heap_new w.drew (.cells (bytesRow ⟨a.toArray⟩ (grownCap w (ByteArray.mk a.toArray).size 0 5)) 5 ((bytesRow ⟨a.toArray⟩ (grownCap w (ByteArray.mk a.toArray).size 0 5)).size, (bytesRow ⟨a.toArray⟩ (grownCap w (ByteArray.mk a.toArray).size 0 5)).size + 1))
    refine (cell_at (b := w.heap.size) hb j).trans ?_
    unfold bytesRow
    rw [Array.getElem?_append_left (by simpa using hj)]
    simp [hj]
theorem wpList_conv_run {P : Program} {w w' : World} {ops : Array Oper} {rest : List Oper} {o : Oper} {a : Act} {Q : Exit → Act → World → Prop} {v v' : Value}
    (hgd : o.guard = none) (src dst : TypeId) (x : Operand) (ho : o.op = .convert src dst x) (hx : a.eval x = v) (hrun : (convert src dst v).run P w = .ok v' w') (h : wpList P ops Q rest (a.put o.dst v') w') : wpList P ops Q (o :: rest) a w := by
  refine wpList_plain hgd fun K hK => ?_
  unfold Oper.wp execOp
  simp only [ho, hx, Sem.run_bind, Sem.run_pure, Result.andThen_ok, hrun]
  exact hK _ _ h
theorem or_i64 (m d : Nat) (hm : m < 16777216) (hd : d < 256) : bits .or .i64 ((m : Int) * 256) (d : Int) = ((m * 256 + d : Nat) : Int) := by
  rw [bits_join .i64 63 (by decide) (fun n h0 h1 => by rw [IntKind.wrap_i64]; omega) 8 _ _ (by omega) (by omega) (by omega) (by omega) (by omega) (by omega)]
  omega
theorem beN_snoc (l : List UInt8) (c : UInt8) : beN (l ++ [c]) = beN l * 256 + c.toNat := by unfold beN; rw [List.foldl_append]; rfl
theorem beN_lt (l : List UInt8) : beN l < 256 ^ l.length := by
  rw [← List.reverse_reverse l]
  generalize l.reverse = m
  induction m with
  | nil => simp [beN]
  | cons c m ih =>
    rw [List.reverse_cons, beN_snoc, List.length_append, List.length_cons, List.length_nil, Nat.zero_add, Nat.pow_succ]
    have := UInt8.toNat_lt c
    omega
set_option maxRecDepth 100000 in
set_option maxHeartbeats 2000000 in
theorem number_any {s : ByteArray} {rb p : Nat} {r : List UInt8} {w : World} (h : Rd s rb r p w) (k : Nat) (hk0 : 1 ≤ k) (hk : k ≤ 4) (hs : s.size ≤ 200000) :
    Calls Tryz.prog 156 #[.pointer (some ⟨rb, 0, none⟩), .int .i64 k] w (RdR s rb p (numP r k) (fun a => .int .i64 (a : Nat)) w) := by
  have C1 := Lib.hid (take_any h k (by omega) hs)
  have HRB := Lib.hid h.lt
  clear h
  unfold numP
  obtain ⟨tk, htk⟩ : ∃ tk, tk = takeL r k := ⟨_, rfl⟩
  rw [← htk] at C1 ⊢
  unfold takeL at htk
  cases tk with
  | none =>
    clear htk
    go_enter Tryz.func156, Tryz.ntmps156
    go_wp2_with fail
    refine C1.out.mono ?_
    rintro e w1 ⟨o1, rfl⟩
    have O1 := Lib.hid o1
    clear o1
    go_wp2_with fail
    exact ⟨rfl, O1.out, rfl⟩
  | some q =>
    obtain ⟨a, r1⟩ := q
    have hal : a.length = k := by
      split at htk
      · cases htk
        simp
        omega
      · cases htk
    clear htk
    go_enter Tryz.func156, Tryz.ntmps156
    go_wp2_with fail
    refine C1.out.mono ?_
    rintro e w1 ⟨o1, rfl, r1'⟩
    have O1 := Lib.hid o1
    have R1 := Lib.hid r1'
    dsimp only
    obtain ⟨cap, W2, hrun, hb, hlt, hcell⟩ := conv_string a w1
    have HRUN := Lib.hid hrun
    have HC := Lib.hid hcell
    have O2 := Lib.hid (o1.trans (Only.of_below hb))
    have R2 := Lib.hid (r1'.below hb)
    have HG : Hid (rb ≠ w1.heap.size) := Lib.hid (by have := r1'.lt; omega)
    clear o1 r1' hrun hb hlt hcell
    rw [hal] at HRUN
    go_wp2_with (refine wpList_conv_run rfl 9 124 _ rfl rfl HRUN.out ?_)
    generalize w1.heap.size = g at HC HG ⊢
    go_loopw [5, 13] (fun n i wr => ∃ c : Nat, c ≤ k ∧ i = .int .i64 c ∧ n = .int .i64 (beN (a.take c) : Nat) ∧ W2 = wr) (fun _ i _ => k - (intOf i).toNat)
    case atStart => exact ⟨0, Nat.zero_le _, rfl, rfl, rfl⟩
    case round =>
      obtain ⟨c, hc, rfl, rfl, rfl⟩ := hrel
      by_cases hcl : c < k
      · have x0 := HC.out c (by omega)
        have hbl := beN_lt (a.take c)
        have hbs : beN (a.take (c + 1)) = beN (a.take c) * 256 + (a[c]'(by omega)).toNat := by
          rw [List.take_succ_eq_append_getElem (by omega), beN_snoc]
        have hcc : (a.take c).length ≤ 3 := by rw [List.length_take]; omega
        have hm3 : beN (a.take c) < 16777216 := Nat.lt_of_lt_of_le hbl (Nat.pow_le_pow_right (by omega) hcc)
        have hd3 := UInt8.toNat_lt (a[c]'(by omega))
        generalize beN (a.take c) = m at hbs hm3 ⊢
        generalize (a[c]'(by omega)).toNat = d at x0 hbs hd3
        have HBS := Lib.hid hbs
        have hor := or_i64 m d hm3 hd3
        clear hbs hbl hcc
        go_wp2_with fail
        go_roundw
        case rel => exact ⟨c + 1, by omega, by go_num, by rw [HBS.out]; rfl, trivial⟩
        case measure => simp [intOf]; omega
      · have hck : c = a.length := by omega
        rw [hck, List.take_length]
        obtain rfl : k = a.length := hal.symm
        go_wp2_with fail
        go_ret
        exact ⟨O2.out, rfl, R2.out⟩
set_option maxRecDepth 100000 in
set_option maxHeartbeats 2000000 in
theorem byte_any {s : ByteArray} {rb p : Nat} {r : List UInt8} {w : World} (h : Rd s rb r p w) (hs : s.size ≤ 200000) :
    Calls Tryz.prog 155 #[.pointer (some ⟨rb, 0, none⟩)] w (RdR s rb p (numP r 1) (fun a => .int .i64 (a : Nat)) w) := by
  have C := Lib.hid (number_any h 1 (by omega) (by omega) hs)
  clear h
  obtain ⟨q, hq⟩ : ∃ q, q = numP r 1 := ⟨_, rfl⟩
  rw [← hq] at C ⊢
  clear hq
  cases q with
  | none =>
    go_enter Tryz.func155, Tryz.ntmps155
    go_wp2_with fail
    refine C.out.mono ?_
    rintro e w1 ⟨o1, rfl⟩
    have O1 := Lib.hid o1
    clear o1
    go_wp2_with fail
    exact ⟨rfl, O1.out, rfl⟩
  | some q =>
    go_enter Tryz.func155, Tryz.ntmps155
    go_wp2_with fail
    refine C.out.mono ?_
    rintro e w1 ⟨o1, rfl, r1⟩
    have O1 := Lib.hid o1
    have R1 := Lib.hid r1
    clear o1 r1
    go_wp2_with fail
    go_ret
    exact ⟨O1.out, rfl, R1.out⟩
/-- The name of an atom. -/
def nameP (r : List UInt8) : Option (List UInt8 × List UInt8) :=
  match numP r 1 with
  | none => none
  | some (t, r1) => if t = 119 then (match numP r1 1 with
    | none => none
    | some (n, r2) => takeL r2 n) else none
theorem numP_lt {r r1 : List UInt8} {k n : Nat} (h : numP r k = some (n, r1)) : n < 256 ^ k := by
  unfold numP takeL at h
  split at h
  · rw [Option.map_some, Option.some.injEq, Prod.mk.injEq] at h
    rw [← h.1]
    have := beN_lt (r.take k)
    rw [List.length_take] at this
    exact Nat.lt_of_lt_of_le this (Nat.pow_le_pow_right (by omega) (by omega))
  · cases h
set_option maxRecDepth 100000 in
set_option maxHeartbeats 2000000 in
theorem rname_any {s : ByteArray} {rb p : Nat} {r : List UInt8} {w : World} (h : Rd s rb r p w) (hs : s.size ≤ 200000) :
    Calls Tryz.prog 161 #[.pointer (some ⟨rb, 0, none⟩)] w (RdR s rb p (nameP r) (fun a => .string ⟨a.toArray⟩) w) := by
  have C := Lib.hid (byte_any h hs)
  clear h
  unfold nameP
  cases hq : numP r 1 with
  | none =>
    rw [hq] at C
    dsimp only
    clear hq
    go_enter Tryz.func161, Tryz.ntmps161
    go_wp2_with fail
    refine C.out.mono ?_
    rintro e w1 ⟨o1, rfl⟩
    have O1 := Lib.hid o1
    clear o1
    go_wp2_with fail
    exact ⟨rfl, O1.out, rfl⟩
  | some q =>
    obtain ⟨t, r1⟩ := q
    rw [hq] at C
    dsimp only
    clear hq
    by_cases ht : t = 119
    · subst ht
      rw [if_pos rfl]
      cases hq2 : numP r1 1 with
      | none =>
        dsimp only
        go_enter Tryz.func161, Tryz.ntmps161
        go_wp2_with fail
        refine C.out.mono ?_
        rintro e w1 ⟨o1, rfl, rr⟩
        have O1 := Lib.hid o1
        have C2 := byte_any rr hs
        rw [hq2] at C2
        have HC2 := Lib.hid C2
        clear o1 rr C2 C hq2
        go_wp2_with fail
        refine (demand_any _ true _).mono ?_
        rintro e w2 ⟨rfl, rfl⟩
        go_wp2_with fail
        refine HC2.out.mono ?_
        rintro e w3 ⟨o3, rfl⟩
        have O3 := Lib.hid (O1.out.trans o3)
        clear o3
        go_wp2_with fail
        exact ⟨rfl, O3.out, rfl⟩
      | some q2 =>
        obtain ⟨n, r2⟩ := q2
        dsimp only
        have hn : n < 256 := by have := numP_lt hq2; simpa using this
        obtain ⟨tk, htk⟩ : ∃ tk, tk = takeL r2 n := ⟨_, rfl⟩
        rw [← htk]
        have HTK := Lib.hid htk
        clear htk
        go_enter Tryz.func161, Tryz.ntmps161
        go_wp2_with fail
        refine C.out.mono ?_
        rintro e w1 ⟨o1, rfl, rr⟩
        have O1 := Lib.hid o1
        have C2 := byte_any rr hs
        rw [hq2] at C2
        have HC2 := Lib.hid C2
        clear o1 rr C2 C hq2
        go_wp2_with fail
        refine (demand_any _ true _).mono ?_
        rintro e w2 ⟨rfl, rfl⟩
        go_wp2_with fail
        refine HC2.out.mono ?_
        rintro e w3 ⟨o3, rfl, rr3⟩
        have O3 := Lib.hid (O1.out.trans o3)
        have C3 := take_any rr3 n (by omega) hs
        rw [← HTK.out] at C3
        have HC3 := Lib.hid C3
        clear o3 rr3 C3 HC2 O1
        cases tk with
        | none =>
          go_wp2_with fail
          refine HC3.out.mono ?_
          rintro e w4 ⟨o4, rfl⟩
          have O4 := Lib.hid (O3.out.trans o4)
          clear o4
          go_wp2_with fail
          exact ⟨rfl, O4.out, rfl⟩
        | some a =>
          go_wp2_with fail
          refine HC3.out.mono ?_
          rintro e w4 ⟨o4, rfl, rr4⟩
          have O4 := Lib.hid (O3.out.trans o4)
          have R4 := Lib.hid rr4
          clear o4 rr4
          go_wp2_with fail
          go_ret
          exact ⟨O4.out, rfl, R4.out⟩
    · rw [if_neg ht]
      have d : ((t : Int) == 119) = false := by rw [beq_eq_false_iff_ne]; omega
      clear ht
      go_enter Tryz.func161, Tryz.ntmps161
      go_wp2_with fail
      refine C.out.mono ?_
      rintro e w1 ⟨o1, rfl, _⟩
      have O1 := Lib.hid o1
      clear o1 C
      go_wp2_with fail
      refine (demand_any _ false _).mono ?_
      rintro e w2 ⟨rfl, rfl⟩
      go_wp2_with fail
      exact ⟨rfl, O1.out, rfl⟩
end Go.Proofs.YtoaimoemaoinhaaGreatDoor
