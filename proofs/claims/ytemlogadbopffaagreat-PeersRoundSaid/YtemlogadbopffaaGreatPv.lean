/- peers.valid. -/
import Derived.Test.YtemlogadbopffaaGreatPval
namespace Go.Proofs.YtemlogadbopffaaGreat
open Go.RowKit Go.Rt Go.Rw

def zerT : Tm := .mk zeroFl []
def zerX : Ft := ⟨zeroFl, .slice none 0 0⟩
def fldB : Nat → Int
  | 0 => 1 | 1 => 2 | 2 => 4 | 3 => 8 | 4 => 16 | 5 => 32 | _ => 64
def fldK : Nat → Int
  | 0 => 6 | 1 => 6 | 2 => 2 | 3 => 2 | 4 => 3 | 5 => 1 | _ => 0
/-- Has a kind a field? -/
def hasU (u : Int) (i : Nat) : Bool := !(bits BinOp.and IntKind.i64 u (fldB i) == 0)
def fldT (s : Sg) : Nat → Tm
  | 0 => s.fr | 1 => s.tt | 2 => atmT s.node | 3 => atmT s.name | 4 => s.ref | 5 => nmbT s.num | _ => s.val
def okFld (s : Sg) (i : Nat) : Bool := validB (fldT s i) && ((decide (fldK i = 0) || decide ((fldT s i).f.k = fldK i)) && (decide (i ≠ 5) || decide (1 ≤ s.num)))
def allFld (u : Int) (s : Sg) : Nat → Bool
  | 0 => true
  | i + 1 => allFld u s i && (!hasU u i || okFld s i)
/-- A signal with the fields of a kind alone, the first i. -/
def onlyS (u : Int) (s : Sg) (i : Nat) : Sg :=
  ⟨0, if hasU u 0 && decide (0 < i) then s.fr else zerT, if hasU u 1 && decide (1 < i) then s.tt else zerT, if hasU u 2 && decide (2 < i) then s.node else noB, if hasU u 3 && decide (3 < i) then s.name else noB,
    if hasU u 4 && decide (4 < i) then s.ref else zerT, if hasU u 5 && decide (5 < i) then s.num else 0, if hasU u 6 && decide (6 < i) then s.val else zerT⟩
def onlyX (u : Int) (x : Sf) (i : Nat) : Sf :=
  ⟨if hasU u 0 && decide (0 < i) then x.a else zerX, if hasU u 1 && decide (1 < i) then x.b else zerX, if hasU u 4 && decide (4 < i) then x.c else zerX, if hasU u 6 && decide (6 < i) then x.d else zerX⟩
/-- A signal is valid. -/
def validS (s : Sg) : Bool := decide (usesF s.k ≠ 0) && (allFld (usesF s.k) s 7 && sameS (onlyS (usesF s.k) s 7) s)
/-- What the walk asks of a signal's sizes. -/
structure FitS (s : Sg) : Prop where
  fr : fitW s.fr ∧ bulk s.fr ≤ 4611686018427387904
  tt : fitW s.tt ∧ bulk s.tt ≤ 4611686018427387904
  ref : fitW s.ref ∧ bulk s.ref ≤ 4611686018427387904
  val : fitW s.val ∧ bulk s.val ≤ 4611686018427387904
  num : -9223372036854775808 ≤ s.num ∧ s.num ≤ 9223372036854775807
theorem fit_atom (s : ByteArray) : fitW (atmT s) ∧ bulk (atmT s) ≤ 4611686018427387904 := by
  unfold atmT
  rw [fitW, bulk]
  exact ⟨⟨Nat.zero_le _, trivial⟩, by simp [bulkL]⟩
theorem fit_int (n : Int) : fitW (nmbT n) ∧ bulk (nmbT n) ≤ 4611686018427387904 := by
  unfold nmbT
  rw [fitW, bulk]
  exact ⟨⟨Nat.zero_le _, trivial⟩, by simp [bulkL]⟩
theorem fitT_atom {s : ByteArray} (h : s.size ≤ 200000) : fitT (atmT s) := by
  unfold atmT
  rw [fitT]
  refine ⟨⟨⟨h, Nat.zero_le _, Nat.zero_le _⟩, ?_, ?_, ?_, ?_, ?_⟩, trivial⟩
  all_goals
    dsimp only
    omega
theorem fitT_int {n : Int} (h : -9223372036854775808 ≤ n ∧ n ≤ 9223372036854775807) : fitT (nmbT n) := by
  unfold nmbT
  rw [fitT]
  refine ⟨⟨⟨Nat.zero_le _, Nat.zero_le _, Nat.zero_le _⟩, ?_, h, ?_, ?_, ?_⟩, trivial⟩
  all_goals
    dsimp only
    omega
theorem i64n (a b : Int) (h : a ≠ b) : (a != b) = true := by rw [bne_iff_ne]; exact h
theorem zer_at (S : Nat → Prop) (w : World) : TmAt S w zerT zerX := TmAt.of rfl (ItsAt.nil none 0)
theorem only_at {S : Nat → Prop} {w : World} {s : Sg} {x : Sf} (h : SgAt S w s x) (u : Int) (i : Nat) : SgAt S w (onlyS u s i) (onlyX u x i) := by
  refine ⟨?_, ?_, ?_, ?_⟩
  all_goals
    unfold onlyS onlyX
    dsimp only
    split
    · first | exact h.fr | exact h.tt | exact h.ref | exact h.val
    · exact zer_at S w
theorem allFld_no {u : Int} {s : Sg} {i : Nat} (hi : i < 7) (h1 : hasU u i = true) (h2 : okFld s i = false) : allFld u s 7 = false := by
  have hall : ∀ n, i < n → allFld u s n = false := fun n hn => by
    induction n with
    | zero => omega
    | succ n ih =>
      rw [allFld]
      by_cases e : i = n
      · subst e
        rw [h1, h2]
        simp
      · rw [ih (by omega)]
        rfl
  exact hall 7 hi
theorem allFld_yes {u : Int} {s : Sg} {i : Nat} (h : allFld u s i = true) (h1 : hasU u i = false ∨ okFld s i = true) : allFld u s (i + 1) = true := by
  rw [allFld, h]
  rcases h1 with e | e <;> rw [e] <;> simp
theorem wpList_load_blkG {P : Program} {ops : Array Oper} {rest : List Oper} {op : Oper} {a : Act} {w : World} {Q : Exit → Act → World → Prop} (hw : Region.wanted op (yielded ops a.tmps) = true) (ty : TypeId) (x : Operand) (ho : op.op = .load ty x)
    (b : Nat) (hx : a.eval x = .pointer (some ⟨b, 0, none⟩)) (cs : Array Value) (t : TypeId) (d : TypeDesc) (hc : Blk w b t cs)
    (hu : P.underlying ty = some d) (hd : d.isRow = true) (hi : (P.info? ty).map (·.size) = some cs.size)
    (h : wpList P ops Q rest (a.put op.dst (.agg cs)) w) : wpList P ops Q (op :: rest) a w :=
  wpList_step fun K hK => by
    rw [if_pos hw]
    exact wp_load_mid ty x ho b 0 hx cs.toList d hc.range hu hd (by simpa using hi) (hK _ _ (by simpa using h))
theorem info54 : (Tryz.prog.info? 54).map (·.size) = some 4 := by kernel_rfl
theorem info26 : (Tryz.prog.info? 26).map (·.size) = some 40 := by kernel_rfl
theorem only_no0 {u : Int} (s : Sg) (x : Sf) (h : hasU u 0 = false) : sgC (onlyS u s 0) (onlyX u x 0) = sgC (onlyS u s 1) (onlyX u x 1) := by
  simp [sgC, onlyS, onlyX, h]
theorem only_yes0 {u : Int} (s : Sg) (x : Sf) (h : hasU u 0 = true) : sgC (onlyS u s 0) { onlyX u x 0 with a := x.a } = sgC (onlyS u s 1) (onlyX u x 1) := by
  simp [sgC, onlyS, onlyX, h]
theorem only_no1 {u : Int} (s : Sg) (x : Sf) (h : hasU u 1 = false) : sgC (onlyS u s 1) (onlyX u x 1) = sgC (onlyS u s 2) (onlyX u x 2) := by
  simp [sgC, onlyS, onlyX, h]
theorem only_yes1 {u : Int} (s : Sg) (x : Sf) (h : hasU u 1 = true) : sgC (onlyS u s 1) { onlyX u x 1 with b := x.b } = sgC (onlyS u s 2) (onlyX u x 2) := by
  simp [sgC, onlyS, onlyX, h]
theorem only_no2 {u : Int} (s : Sg) (x : Sf) (h : hasU u 2 = false) : sgC (onlyS u s 2) (onlyX u x 2) = sgC (onlyS u s 3) (onlyX u x 3) := by
  simp [sgC, onlyS, onlyX, h]
theorem only_yes2 {u : Int} (s : Sg) (x : Sf) (h : hasU u 2 = true) : sgC { onlyS u s 2 with node := (atmX s.node).f.nm } (onlyX u x 2) = sgC (onlyS u s 3) (onlyX u x 3) := by
  simp [sgC, onlyS, onlyX, h, atmX]
theorem only_no3 {u : Int} (s : Sg) (x : Sf) (h : hasU u 3 = false) : sgC (onlyS u s 3) (onlyX u x 3) = sgC (onlyS u s 4) (onlyX u x 4) := by
  simp [sgC, onlyS, onlyX, h]
theorem only_yes3 {u : Int} (s : Sg) (x : Sf) (h : hasU u 3 = true) : sgC { onlyS u s 3 with name := (atmX s.name).f.nm } (onlyX u x 3) = sgC (onlyS u s 4) (onlyX u x 4) := by
  simp [sgC, onlyS, onlyX, h, atmX]
theorem only_no4 {u : Int} (s : Sg) (x : Sf) (h : hasU u 4 = false) : sgC (onlyS u s 4) (onlyX u x 4) = sgC (onlyS u s 5) (onlyX u x 5) := by
  simp [sgC, onlyS, onlyX, h]
theorem only_yes4 {u : Int} (s : Sg) (x : Sf) (h : hasU u 4 = true) : sgC (onlyS u s 4) { onlyX u x 4 with c := x.c } = sgC (onlyS u s 5) (onlyX u x 5) := by
  simp [sgC, onlyS, onlyX, h]
theorem only_no5 {u : Int} (s : Sg) (x : Sf) (h : hasU u 5 = false) : sgC (onlyS u s 5) (onlyX u x 5) = sgC (onlyS u s 6) (onlyX u x 6) := by
  simp [sgC, onlyS, onlyX, h]
theorem only_yes5 {u : Int} (s : Sg) (x : Sf) (h : hasU u 5 = true) : sgC { onlyS u s 5 with num := (nmbX s.num).f.n } (onlyX u x 5) = sgC (onlyS u s 6) (onlyX u x 6) := by
  simp [sgC, onlyS, onlyX, h, nmbX]
theorem only_no6 {u : Int} (s : Sg) (x : Sf) (h : hasU u 6 = false) : sgC (onlyS u s 6) (onlyX u x 6) = sgC (onlyS u s 7) (onlyX u x 7) := by
  simp [sgC, onlyS, onlyX, h]
theorem only_yes6 {u : Int} (s : Sg) (x : Sf) (h : hasU u 6 = true) : sgC (onlyS u s 6) { onlyX u x 6 with d := x.d } = sgC (onlyS u s 7) (onlyX u x 7) := by
  simp [sgC, onlyS, onlyX, h]
set_option maxRecDepth 100000 in
set_option maxHeartbeats 8000000 in
theorem pvalid19 (S : Nat → Prop) (s : Sg) (x : Sf) (w : World) (h : SgAt S w s x) (hfit : FitS s) : Calls Tryz.prog 19 #[sgV s x] w fun e w' => e = .returned (.bool (validS s)) ∧ Below w.heap.size w w' := by
  obtain ⟨u, hu⟩ : ∃ u, u = usesF s.k := ⟨_, rfl⟩
  obtain ⟨V, hV⟩ : ∃ V, V = validS s := ⟨_, rfl⟩
  rw [← hV]
  unfold validS at hV
  rw [← hu] at hV
  have HV := Lib.hid hV
  have CU := Lib.hid (fun (W : World) => uses21 s.k W)
  rw [← hu] at CU
  obtain ⟨_, sa, ca, ea⟩ := h.fr.its.2.form
  obtain ⟨_, sb, cb, eb⟩ := h.tt.its.2.form
  obtain ⟨_, sc, cc, ec⟩ := h.ref.its.2.form
  obtain ⟨_, sd, cd, ed⟩ := h.val.its.2.form
  have EA := Lib.hid ea
  have EB := Lib.hid eb
  have EC := Lib.hid ec
  have ED := Lib.hid ed
  have HS := Lib.hid h
  have HF := Lib.hid hfit
  obtain ⟨CS, hCS⟩ : ∃ q, q = (sgC s x).toArray := ⟨_, rfl⟩
  have HSV : Hid (sgV s x = .agg CS) := Lib.hid (by rw [hCS]; rfl)
  have HSZ : Hid (CS.size = 40) := Lib.hid (by rw [hCS]; rfl)
  have HC0 : Hid (CS[0]? = some (.int .i64 s.k)) := Lib.hid (by rw [hCS]; rfl)
  rw [HSV.out]
  clear hV hu h hfit ea eb ec ed hCS
  obtain ⟨m, hm⟩ : ∃ q, q = w.heap.size := ⟨_, rfl⟩
  have HM := Lib.hid hm
  have X := Lib.hid (Blk.new w 26 CS)
  have B := Lib.hid ((Below.refl w.heap.size w).alloc (Nat.le_refl _) (.cells CS 26))
  rw [← hm] at X B
  have hsz := HSZ.out
  go_enter Tryz.func19, Tryz.ntmps19
  go_upto_region 1 with fail
  rw [← hm]
  generalize w.alloc (.cells CS 26) = w1 at X B ⊢
  clear hm hsz
  have q0 : w1.cell? ⟨m, 0, none⟩ = some (.int .i64 s.k) := (X.out.cell 0).trans HC0.out
  go_wp2_with fail
  refine (CU.out _).mono ?_
  rintro e w2 ⟨rfl, b2⟩
  replace X := Lib.hid (X.out.below b2 X.out.lt)
  have HTR : Hid (∀ W W', Below m w W → Below W.heap.size W W' → Below m w W') := Lib.hid (fun W W' h1 h2 => h1.trans (h2.mono (by have := h1.size; have := HM.out; omega)))
  replace B := Lib.hid (HTR.out _ _ B.out b2)
  clear b2 q0
  obtain ⟨mo, hmo⟩ : ∃ q, q = w2.heap.size := ⟨_, rfl⟩
  have HMO := Lib.hid hmo
  have hmm : m < mo := by rw [hmo]; exact X.out.lt
  replace X := Lib.hid (X.out.alloc (.cells #[.int .i64 0, .int .i64 0, .int .i64 0, .int .i64 0, .string ⟨#[]⟩, .string ⟨#[]⟩, .int .i64 0, .slice none 0 0, .string ⟨#[]⟩, .int .i64 0, .int .i64 0, .int .i64 0, .int .i64 0, .string ⟨#[]⟩, .string ⟨#[]⟩, .int .i64 0, .slice none 0 0, .string ⟨#[]⟩, .int .i64 0, .string ⟨#[]⟩, .string ⟨#[]⟩, .int .i64 0, .int .i64 0, .int .i64 0, .string ⟨#[]⟩, .string ⟨#[]⟩, .int .i64 0, .slice none 0 0, .string ⟨#[]⟩, .int .i64 0, .int .i64 0, .int .i64 0, .int .i64 0, .int .i64 0, .string ⟨#[]⟩, .string ⟨#[]⟩, .int .i64 0, .slice none 0 0, .string ⟨#[]⟩, .int .i64 0] 26))
  have Y : Hid (Blk (w2.alloc (.cells #[.int .i64 0, .int .i64 0, .int .i64 0, .int .i64 0, .string ⟨#[]⟩, .string ⟨#[]⟩, .int .i64 0, .slice none 0 0, .string ⟨#[]⟩, .int .i64 0, .int .i64 0, .int .i64 0, .int .i64 0, .string ⟨#[]⟩, .string ⟨#[]⟩, .int .i64 0, .slice none 0 0, .string ⟨#[]⟩, .int .i64 0, .string ⟨#[]⟩, .string ⟨#[]⟩, .int .i64 0, .int .i64 0, .int .i64 0, .string ⟨#[]⟩, .string ⟨#[]⟩, .int .i64 0, .slice none 0 0, .string ⟨#[]⟩, .int .i64 0, .int .i64 0, .int .i64 0, .int .i64 0, .int .i64 0, .string ⟨#[]⟩, .string ⟨#[]⟩, .int .i64 0, .slice none 0 0, .string ⟨#[]⟩, .int .i64 0] 26)) mo 26 (sgC (onlyS u s 0) (onlyX u x 0)).toArray) := Lib.hid (by
    have := Blk.new w2 26 #[.int .i64 0, .int .i64 0, .int .i64 0, .int .i64 0, .string ⟨#[]⟩, .string ⟨#[]⟩, .int .i64 0, .slice none 0 0, .string ⟨#[]⟩, .int .i64 0, .int .i64 0, .int .i64 0, .int .i64 0, .string ⟨#[]⟩, .string ⟨#[]⟩, .int .i64 0, .slice none 0 0, .string ⟨#[]⟩, .int .i64 0, .string ⟨#[]⟩, .string ⟨#[]⟩, .int .i64 0, .int .i64 0, .int .i64 0, .string ⟨#[]⟩, .string ⟨#[]⟩, .int .i64 0, .slice none 0 0, .string ⟨#[]⟩, .int .i64 0, .int .i64 0, .int .i64 0, .int .i64 0, .int .i64 0, .string ⟨#[]⟩, .string ⟨#[]⟩, .int .i64 0, .slice none 0 0, .string ⟨#[]⟩, .int .i64 0]
    rw [← hmo] at this
    simpa [sgC, onlyS, onlyX, ftC, zerX, zeroFl, noB] using this)
  replace B := Lib.hid (HTR.out _ _ B.out ((Below.refl w2.heap.size w2).alloc (Nat.le_refl _) (.cells #[.int .i64 0, .int .i64 0, .int .i64 0, .int .i64 0, .string ⟨#[]⟩, .string ⟨#[]⟩, .int .i64 0, .slice none 0 0, .string ⟨#[]⟩, .int .i64 0, .int .i64 0, .int .i64 0, .int .i64 0, .string ⟨#[]⟩, .string ⟨#[]⟩, .int .i64 0, .slice none 0 0, .string ⟨#[]⟩, .int .i64 0, .string ⟨#[]⟩, .string ⟨#[]⟩, .int .i64 0, .int .i64 0, .int .i64 0, .string ⟨#[]⟩, .string ⟨#[]⟩, .int .i64 0, .slice none 0 0, .string ⟨#[]⟩, .int .i64 0, .int .i64 0, .int .i64 0, .int .i64 0, .int .i64 0, .string ⟨#[]⟩, .string ⟨#[]⟩, .int .i64 0, .slice none 0 0, .string ⟨#[]⟩, .int .i64 0] 26)))
  go_upto_region 3 with fail
  rw [← hmo]
  generalize w2.alloc (.cells #[.int .i64 0, .int .i64 0, .int .i64 0, .int .i64 0, .string ⟨#[]⟩, .string ⟨#[]⟩, .int .i64 0, .slice none 0 0, .string ⟨#[]⟩, .int .i64 0, .int .i64 0, .int .i64 0, .int .i64 0, .string ⟨#[]⟩, .string ⟨#[]⟩, .int .i64 0, .slice none 0 0, .string ⟨#[]⟩, .int .i64 0, .string ⟨#[]⟩, .string ⟨#[]⟩, .int .i64 0, .int .i64 0, .int .i64 0, .string ⟨#[]⟩, .string ⟨#[]⟩, .int .i64 0, .slice none 0 0, .string ⟨#[]⟩, .int .i64 0, .int .i64 0, .int .i64 0, .int .i64 0, .int .i64 0, .string ⟨#[]⟩, .string ⟨#[]⟩, .int .i64 0, .slice none 0 0, .string ⟨#[]⟩, .int .i64 0] 26) = w3 at X Y B ⊢
  clear hmo HMO
  have CF := Lib.hid (fields20 w3)
  go_wp2_with fail
  refine CF.out.mono ?_
  rintro e w4 ⟨rfl, hw4⟩
  obtain ⟨mf, hmf⟩ : ∃ q, q = w3.heap.size := ⟨_, rfl⟩
  have hmf2 : mo < mf := by rw [hmf]; exact Y.out.lt
  have Fk := Lib.hid (Blk.new w3 54 fldC)
  replace X := Lib.hid (X.out.alloc (.cells fldC 54))
  replace Y := Lib.hid (Y.out.alloc (.cells fldC 54))
  replace B := Lib.hid (HTR.out _ _ B.out ((Below.refl w3.heap.size w3).alloc (Nat.le_refl _) (.cells fldC 54)))
  rw [← hw4] at X Y B Fk
  rw [← hmf] at Fk ⊢
  have HA0 : Hid (allFld u s 0 = true) := Lib.hid rfl
  clear hw4 hmf CF
  go_wp2_with fail
  go_loopw [13] (fun z wr => ∃ (i : Nat), i ≤ 7 ∧ z = .int .i64 (i : Int) ∧ Hid (Blk wr m 26 CS) ∧ Hid (Blk wr mo 26 (sgC (onlyS u s i) (onlyX u x i)).toArray) ∧ Hid (Blk wr mf 54 fldC) ∧ Hid (Below m w wr) ∧ Hid (allFld u s i = true)) (fun z _ => 7 - (intOf z).toNat)
  case atStart => exact ⟨0, by omega, rfl, X, Y, Fk, B, HA0⟩
  case round =>
    obtain ⟨i, hi, rfl, X1, Y1, F1, B1, HA⟩ := hrel
    clear X Y Fk B HA0
    by_cases h7 : i = 7
    · subst h7
      have HSW := Lib.hid (HS.out.below (show Below w.heap.size w wr by rw [← HM.out]; exact B1.out) (fun b _ h => h))
      have HON := Lib.hid (only_at HSW.out u 7)
      have CSM := Lib.hid (same44 S S (onlyS u s 7) s (onlyX u x 7) x wr HON.out HSW.out)
      rw [HSV.out] at CSM
      unfold sgV at CSM
      by_cases hu0 : u = 0
      · have eu : (u != 0) = false := by rw [hu0]; rfl
        obtain rfl : V = false := by rw [HV.out, hu0]; simp
        clear hu0 CSM
        go_wp2_with fail
        go_ret
        exact ⟨rfl, by rw [← HM.out]; exact B1.out⟩
      · have eu : (u != 0) = true := i64n u 0 hu0
        obtain ⟨r, hr⟩ : ∃ q, q = sameS (onlyS u s 7) s := ⟨_, rfl⟩
        rw [← hr] at CSM
        obtain rfl : V = r := by rw [HV.out, HA.out, ← hr, decide_eq_true hu0]; rfl
        clear hu0 hr
        go_wp2_with (first | refine wpList_load_blkG rfl 26 _ rfl mo rfl _ 26 _ Y1.out Tryz.underlying26 rfl info26 ?_ | refine wpList_load_blkG rfl 26 _ rfl m rfl _ 26 _ X1.out Tryz.underlying26 rfl (by rw [HSZ.out]; exact info26) ?_)
        refine CSM.out.mono ?_
        rintro e w5 ⟨rfl, b5⟩
        have B5 := Lib.hid (HTR.out _ _ B1.out b5)
        clear b5
        go_wp2_with fail
        go_ret
        exact ⟨rfl, by rw [← HM.out]; exact B5.out⟩
    · have hlt7 : i < 7 := by omega
      rcases (show i = 0 ∨ i = 1 ∨ i = 2 ∨ i = 3 ∨ i = 4 ∨ i = 5 ∨ i = 6 by omega) with rfl | rfl | rfl | rfl | rfl | rfl | rfl
      · as_aux_lemma =>
        have f0 := F1.out.cell 0
        have f1 := F1.out.cell 1
        have f2 := F1.out.cell 2
        have f3 := F1.out.cell 3
        unfold fldC at f0 f1 f2 f3
        simp only [List.getElem?_toArray, List.getElem?_cons_zero, List.getElem?_cons_succ] at f0 f1 f2 f3
        obtain ⟨z, hz⟩ : ∃ q, q = wr.heap.size := ⟨_, rfl⟩
        have HZ := Lib.hid hz
        have hzx : mo < z := by rw [hz]; exact Y1.out.lt
        have hzf : mf < z := by rw [hz]; exact F1.out.lt
        have X0 := Lib.hid (Blk.new wr 54 #[.int .i64 0, .int .i64 0, .nilFunc, .nilFunc])
        have O0 := Lib.hid (Only.alloc [z] wr (.cells #[.int .i64 0, .int .i64 0, .nilFunc, .nilFunc] 54))
        rw [← hz] at X0
        go_upto_region 6 with (rw [← hz]; refine wpList_store_blk rfl 54 _ _ rfl rfl z #[.int .i64 1, .int .i64 6, .func (.func 45) #[] #[], .func (.func 46) #[] #[]] _ 54 rfl rfl X0.out rfl info54 (by simp [Value.oneCell']) ?_; intro v1 b1 o1)
        have BV := Lib.hid (show Below z wr v1 from (O0.out.trans o1).below (by simp) (by rw [HZ.out]; exact Nat.le_refl _))
        have X2 := Lib.hid (X1.out.below BV.out (by omega))
        have Y2 := Lib.hid (Y1.out.below BV.out hzx)
        have F2 := Lib.hid (F1.out.below BV.out hzf)
        have B2 := Lib.hid (HTR.out _ _ B1.out (by rw [← HZ.out]; exact BV.out))
        have T2 := Lib.hid b1
        have c0 := b1.cell 0
        have c1 := b1.cell 1
        have c2 := b1.cell 2
        have c3 := b1.cell 3
        simp only [List.getElem?_toArray, List.getElem?_cons_zero, List.getElem?_cons_succ] at c0 c1 c2 c3
        clear f0 f1 f2 f3 X0 O0 b1 o1 X1 Y1 F1 B1 BV hz
        obtain ⟨hb, hhb⟩ : ∃ q, q = (bits BinOp.and IntKind.i64 u 1 == 0) := ⟨_, rfl⟩
        have hbe := hhb.symm
        have HU : Hid (hasU u 0 = !hb) := Lib.hid (by rw [hhb]; rfl)
        clear hhb
        cases hb with
        | true =>
          replace Y2 := Lib.hid Y2.out
          rw [only_no0 s x HU.out] at Y2
          have HA2 := Lib.hid (allFld_yes HA.out (.inl HU.out))
          clear HA
          go_wp2_with fail
          go_roundw
          case rel => exact ⟨1, by omega, by go_num, X2, Y2, F2, B2, HA2⟩
          case measure => simp [intOf]
        | false =>
          have HSv := Lib.hid (HS.out.below (show Below w.heap.size w v1 by rw [← HM.out]; exact B2.out) (fun b _ h => h))
          have CG := Lib.hid (get45 S s x v1 HSv.out)
          rw [HSV.out] at CG
          unfold ftV at CG
          try dsimp only at CG
          rw [EA.out] at CG
          clear HSv
          go_wp2_with (refine wpList_load_blk rfl 26 _ rfl m rfl _ 26 _ X2.out Tryz.underlying26 rfl (by rw [HSZ.out]; exact info26) ?_)
          refine CG.out.mono ?_
          rintro e v2 ⟨rfl, b2⟩
          obtain ⟨z2, hz2⟩ : ∃ q, q = v2.heap.size := ⟨_, rfl⟩
          have HZ2 := Lib.hid hz2
          have hzz : z < z2 := by rw [hz2]; exact Nat.lt_of_lt_of_le T2.out.lt b2.size
          have hzm : mo < z2 := by omega
          have hzf2 : mf < z2 := by omega
          have hm2 : m < z2 := by omega
          have P0 := Lib.hid (Blk.new v2 24 #[.int .i64 0, .int .i64 0, .int .i64 0, .string ⟨#[]⟩, .string ⟨#[]⟩, .int .i64 0, .slice none 0 0, .string ⟨#[]⟩, .int .i64 0])
          have O0 := Lib.hid (Only.alloc [z2] v2 (.cells #[.int .i64 0, .int .i64 0, .int .i64 0, .string ⟨#[]⟩, .string ⟨#[]⟩, .int .i64 0, .slice none 0 0, .string ⟨#[]⟩, .int .i64 0] 24))
          rw [← hz2] at P0
          replace X2 := Lib.hid (X2.out.below b2 X2.out.lt)
          replace Y2 := Lib.hid (Y2.out.below b2 Y2.out.lt)
          replace F2 := Lib.hid (F2.out.below b2 F2.out.lt)
          replace T2 := Lib.hid (T2.out.below b2 T2.out.lt)
          replace B2 := Lib.hid (HTR.out _ _ B2.out b2)
          clear b2 CG c0 c1 c2 c3
          go_upto_region 8 with (rw [← hz2]; refine wpList_store_blk rfl 24 _ _ rfl rfl z2 #[.int .i64 x.a.f.k, .int .i64 x.a.f.n, .int .i64 x.a.f.g, .string x.a.f.nm, .string x.a.f.fn, .int .i64 x.a.f.ar, .slice sa s.fr.l.length ca, .string x.a.f.bs, .int .i64 x.a.f.bt] _ 24 rfl rfl P0.out rfl info25 (by simp [Value.oneCell']) ?_; intro v3 b3 o3)
          have BV := Lib.hid (show Below z2 v2 v3 from (O0.out.trans o3).below (by simp) (by rw [HZ2.out]; exact Nat.le_refl _))
          replace X2 := Lib.hid (X2.out.below BV.out hm2)
          replace Y2 := Lib.hid (Y2.out.below BV.out hzm)
          replace F2 := Lib.hid (F2.out.below BV.out hzf2)
          replace T2 := Lib.hid (T2.out.below BV.out hzz)
          replace B2 := Lib.hid (HTR.out _ _ B2.out (by rw [← HZ2.out]; exact BV.out))
          have P2 := Lib.hid b3
          clear BV b3 o3 O0 P0 hz2
          have HSV3 := Lib.hid (HS.out.below (show Below w.heap.size w v3 by rw [← HM.out]; exact B2.out) (fun b _ h => h))
          have CV := Lib.hid (valid_anyW S s.fr x.a v3 (HSV3.out.fr) HF.out.fr.1 HF.out.fr.2)
          unfold ftV at CV
          try dsimp only at CV
          rw [EA.out] at CV
          obtain ⟨vb, hvb⟩ : ∃ q, q = validB s.fr := ⟨_, rfl⟩
          rw [← hvb] at CV
          have HVB := Lib.hid hvb
          clear hvb HSV3
          go_wp2_with (refine wpList_load_blk rfl 24 _ rfl z2 rfl _ 24 _ P2.out Tryz.underlying24 rfl info25 ?_)
          refine CV.out.mono ?_
          rintro e v4 ⟨rfl, b4⟩
          replace X2 := Lib.hid (X2.out.below b4 X2.out.lt)
          replace Y2 := Lib.hid (Y2.out.below b4 Y2.out.lt)
          replace F2 := Lib.hid (F2.out.below b4 F2.out.lt)
          replace T2 := Lib.hid (T2.out.below b4 T2.out.lt)
          replace P2 := Lib.hid (P2.out.below b4 P2.out.lt)
          replace B2 := Lib.hid (HTR.out _ _ B2.out b4)
          clear b4 CV
          have c0 := T2.out.cell 0
          have c1 := T2.out.cell 1
          have c3 := T2.out.cell 3
          have d0 := P2.out.cell 0
          have d1 := P2.out.cell 1
          simp only [List.getElem?_toArray, List.getElem?_cons_zero, List.getElem?_cons_succ] at c0 c1 c3 d0 d1
          cases vb with
          | false =>
            obtain rfl : V = false := by
              rw [HV.out, allFld_no (i := 0) (by omega) HU.out (by unfold okFld; show (validB s.fr && _) = false; rw [← HVB.out]; rfl)]
              simp
            clear HA X2 Y2 F2 T2 P2
            go_wp2_with fail
            go_ret
            exact ⟨rfl, by rw [← HM.out]; exact B2.out⟩
          | true =>
            have hkf : x.a.f.k = s.fr.f.k := by rw [HS.out.fr.its.1]
            have HKF := Lib.hid hkf
            clear hkf
            by_cases hk : x.a.f.k = 6
            · rw [hk] at d0 P2
              have HOK : Hid (okFld s 0 = true) := Lib.hid (by unfold okFld; show (validB s.fr && ((decide ((6 : Int) = 0) || decide ((s.fr).f.k = (6 : Int))) && (decide ((0 : Nat) ≠ 5) || decide (1 ≤ s.num)))) = true; rw [← HVB.out]; rw [← HKF.out, hk]; rfl)
              have HK := Lib.hid hk
              clear hk
              have CS1 := Lib.hid (set46 (onlyS u s 0) (onlyX u x 0) x.a mo v4 Y2.out ⟨_, _, _, EA.out⟩)
              unfold ftV at CS1
              try dsimp only at CS1
              rw [EA.out] at CS1
              try rw [HK.out] at CS1
              rw [only_yes0 s x HU.out] at CS1
              have HA2 := Lib.hid (allFld_yes HA.out (.inr HOK.out))
              clear HA
              go_wp2_with (refine wpList_load_blk rfl 24 _ rfl z2 rfl _ 24 _ P2.out Tryz.underlying24 rfl info25 ?_)
              refine CS1.out.mono ?_
              rintro e v5 ⟨rfl, y5, o5⟩
              have Y3 := Lib.hid y5
              have X3 := Lib.hid (X2.out.only o5 (by simp; omega))
              have F3 := Lib.hid (F2.out.only o5 (by simp; omega))
              have B3 := Lib.hid (B2.out.trans (o5.below (n := m) (by simp; omega) (by have := B2.out.size; have := HM.out; omega)))
              clear y5 o5 CS1 X2 Y2 F2 B2 c0 c1 c3 d0 d1
              go_wp2_with fail
              go_roundw
              case rel => exact ⟨1, by omega, by go_num, X3, Y3, F3, B3, HA2⟩
              case measure => simp [intOf]
            · have ek : (x.a.f.k != 6) = true := i64n _ _ hk
              obtain rfl : V = false := by
                rw [HV.out, allFld_no (i := 0) (by omega) HU.out (by unfold okFld; show (validB s.fr && ((decide ((6 : Int) = 0) || decide ((s.fr).f.k = (6 : Int))) && _)) = false; rw [← HKF.out]; simp [hk])]
                simp
              clear hk
              clear HA X2 Y2 F2 T2 P2
              go_wp2_with fail
              go_ret
              exact ⟨rfl, by rw [← HM.out]; exact B2.out⟩
      · as_aux_lemma =>
        have f0 := F1.out.cell 4
        have f1 := F1.out.cell 5
        have f2 := F1.out.cell 6
        have f3 := F1.out.cell 7
        unfold fldC at f0 f1 f2 f3
        simp only [List.getElem?_toArray, List.getElem?_cons_zero, List.getElem?_cons_succ] at f0 f1 f2 f3
        obtain ⟨z, hz⟩ : ∃ q, q = wr.heap.size := ⟨_, rfl⟩
        have HZ := Lib.hid hz
        have hzx : mo < z := by rw [hz]; exact Y1.out.lt
        have hzf : mf < z := by rw [hz]; exact F1.out.lt
        have X0 := Lib.hid (Blk.new wr 54 #[.int .i64 0, .int .i64 0, .nilFunc, .nilFunc])
        have O0 := Lib.hid (Only.alloc [z] wr (.cells #[.int .i64 0, .int .i64 0, .nilFunc, .nilFunc] 54))
        rw [← hz] at X0
        go_upto_region 6 with (rw [← hz]; refine wpList_store_blk rfl 54 _ _ rfl rfl z #[.int .i64 2, .int .i64 6, .func (.func 47) #[] #[], .func (.func 48) #[] #[]] _ 54 rfl rfl X0.out rfl info54 (by simp [Value.oneCell']) ?_; intro v1 b1 o1)
        have BV := Lib.hid (show Below z wr v1 from (O0.out.trans o1).below (by simp) (by rw [HZ.out]; exact Nat.le_refl _))
        have X2 := Lib.hid (X1.out.below BV.out (by omega))
        have Y2 := Lib.hid (Y1.out.below BV.out hzx)
        have F2 := Lib.hid (F1.out.below BV.out hzf)
        have B2 := Lib.hid (HTR.out _ _ B1.out (by rw [← HZ.out]; exact BV.out))
        have T2 := Lib.hid b1
        have c0 := b1.cell 0
        have c1 := b1.cell 1
        have c2 := b1.cell 2
        have c3 := b1.cell 3
        simp only [List.getElem?_toArray, List.getElem?_cons_zero, List.getElem?_cons_succ] at c0 c1 c2 c3
        clear f0 f1 f2 f3 X0 O0 b1 o1 X1 Y1 F1 B1 BV hz
        obtain ⟨hb, hhb⟩ : ∃ q, q = (bits BinOp.and IntKind.i64 u 2 == 0) := ⟨_, rfl⟩
        have hbe := hhb.symm
        have HU : Hid (hasU u 1 = !hb) := Lib.hid (by rw [hhb]; rfl)
        clear hhb
        cases hb with
        | true =>
          replace Y2 := Lib.hid Y2.out
          rw [only_no1 s x HU.out] at Y2
          have HA2 := Lib.hid (allFld_yes HA.out (.inl HU.out))
          clear HA
          go_wp2_with fail
          go_roundw
          case rel => exact ⟨2, by omega, by go_num, X2, Y2, F2, B2, HA2⟩
          case measure => simp [intOf]
        | false =>
          have HSv := Lib.hid (HS.out.below (show Below w.heap.size w v1 by rw [← HM.out]; exact B2.out) (fun b _ h => h))
          have CG := Lib.hid (get47 S s x v1 HSv.out)
          rw [HSV.out] at CG
          unfold ftV at CG
          try dsimp only at CG
          rw [EB.out] at CG
          clear HSv
          go_wp2_with (refine wpList_load_blk rfl 26 _ rfl m rfl _ 26 _ X2.out Tryz.underlying26 rfl (by rw [HSZ.out]; exact info26) ?_)
          refine CG.out.mono ?_
          rintro e v2 ⟨rfl, b2⟩
          obtain ⟨z2, hz2⟩ : ∃ q, q = v2.heap.size := ⟨_, rfl⟩
          have HZ2 := Lib.hid hz2
          have hzz : z < z2 := by rw [hz2]; exact Nat.lt_of_lt_of_le T2.out.lt b2.size
          have hzm : mo < z2 := by omega
          have hzf2 : mf < z2 := by omega
          have hm2 : m < z2 := by omega
          have P0 := Lib.hid (Blk.new v2 24 #[.int .i64 0, .int .i64 0, .int .i64 0, .string ⟨#[]⟩, .string ⟨#[]⟩, .int .i64 0, .slice none 0 0, .string ⟨#[]⟩, .int .i64 0])
          have O0 := Lib.hid (Only.alloc [z2] v2 (.cells #[.int .i64 0, .int .i64 0, .int .i64 0, .string ⟨#[]⟩, .string ⟨#[]⟩, .int .i64 0, .slice none 0 0, .string ⟨#[]⟩, .int .i64 0] 24))
          rw [← hz2] at P0
          replace X2 := Lib.hid (X2.out.below b2 X2.out.lt)
          replace Y2 := Lib.hid (Y2.out.below b2 Y2.out.lt)
          replace F2 := Lib.hid (F2.out.below b2 F2.out.lt)
          replace T2 := Lib.hid (T2.out.below b2 T2.out.lt)
          replace B2 := Lib.hid (HTR.out _ _ B2.out b2)
          clear b2 CG c0 c1 c2 c3
          go_upto_region 8 with (rw [← hz2]; refine wpList_store_blk rfl 24 _ _ rfl rfl z2 #[.int .i64 x.b.f.k, .int .i64 x.b.f.n, .int .i64 x.b.f.g, .string x.b.f.nm, .string x.b.f.fn, .int .i64 x.b.f.ar, .slice sb s.tt.l.length cb, .string x.b.f.bs, .int .i64 x.b.f.bt] _ 24 rfl rfl P0.out rfl info25 (by simp [Value.oneCell']) ?_; intro v3 b3 o3)
          have BV := Lib.hid (show Below z2 v2 v3 from (O0.out.trans o3).below (by simp) (by rw [HZ2.out]; exact Nat.le_refl _))
          replace X2 := Lib.hid (X2.out.below BV.out hm2)
          replace Y2 := Lib.hid (Y2.out.below BV.out hzm)
          replace F2 := Lib.hid (F2.out.below BV.out hzf2)
          replace T2 := Lib.hid (T2.out.below BV.out hzz)
          replace B2 := Lib.hid (HTR.out _ _ B2.out (by rw [← HZ2.out]; exact BV.out))
          have P2 := Lib.hid b3
          clear BV b3 o3 O0 P0 hz2
          have HSV3 := Lib.hid (HS.out.below (show Below w.heap.size w v3 by rw [← HM.out]; exact B2.out) (fun b _ h => h))
          have CV := Lib.hid (valid_anyW S s.tt x.b v3 (HSV3.out.tt) HF.out.tt.1 HF.out.tt.2)
          unfold ftV at CV
          try dsimp only at CV
          rw [EB.out] at CV
          obtain ⟨vb, hvb⟩ : ∃ q, q = validB s.tt := ⟨_, rfl⟩
          rw [← hvb] at CV
          have HVB := Lib.hid hvb
          clear hvb HSV3
          go_wp2_with (refine wpList_load_blk rfl 24 _ rfl z2 rfl _ 24 _ P2.out Tryz.underlying24 rfl info25 ?_)
          refine CV.out.mono ?_
          rintro e v4 ⟨rfl, b4⟩
          replace X2 := Lib.hid (X2.out.below b4 X2.out.lt)
          replace Y2 := Lib.hid (Y2.out.below b4 Y2.out.lt)
          replace F2 := Lib.hid (F2.out.below b4 F2.out.lt)
          replace T2 := Lib.hid (T2.out.below b4 T2.out.lt)
          replace P2 := Lib.hid (P2.out.below b4 P2.out.lt)
          replace B2 := Lib.hid (HTR.out _ _ B2.out b4)
          clear b4 CV
          have c0 := T2.out.cell 0
          have c1 := T2.out.cell 1
          have c3 := T2.out.cell 3
          have d0 := P2.out.cell 0
          have d1 := P2.out.cell 1
          simp only [List.getElem?_toArray, List.getElem?_cons_zero, List.getElem?_cons_succ] at c0 c1 c3 d0 d1
          cases vb with
          | false =>
            obtain rfl : V = false := by
              rw [HV.out, allFld_no (i := 1) (by omega) HU.out (by unfold okFld; show (validB s.tt && _) = false; rw [← HVB.out]; rfl)]
              simp
            clear HA X2 Y2 F2 T2 P2
            go_wp2_with fail
            go_ret
            exact ⟨rfl, by rw [← HM.out]; exact B2.out⟩
          | true =>
            have hkf : x.b.f.k = s.tt.f.k := by rw [HS.out.tt.its.1]
            have HKF := Lib.hid hkf
            clear hkf
            by_cases hk : x.b.f.k = 6
            · rw [hk] at d0 P2
              have HOK : Hid (okFld s 1 = true) := Lib.hid (by unfold okFld; show (validB s.tt && ((decide ((6 : Int) = 0) || decide ((s.tt).f.k = (6 : Int))) && (decide ((1 : Nat) ≠ 5) || decide (1 ≤ s.num)))) = true; rw [← HVB.out]; rw [← HKF.out, hk]; rfl)
              have HK := Lib.hid hk
              clear hk
              have CS1 := Lib.hid (set48 (onlyS u s 1) (onlyX u x 1) x.b mo v4 Y2.out ⟨_, _, _, EB.out⟩)
              unfold ftV at CS1
              try dsimp only at CS1
              rw [EB.out] at CS1
              try rw [HK.out] at CS1
              rw [only_yes1 s x HU.out] at CS1
              have HA2 := Lib.hid (allFld_yes HA.out (.inr HOK.out))
              clear HA
              go_wp2_with (refine wpList_load_blk rfl 24 _ rfl z2 rfl _ 24 _ P2.out Tryz.underlying24 rfl info25 ?_)
              refine CS1.out.mono ?_
              rintro e v5 ⟨rfl, y5, o5⟩
              have Y3 := Lib.hid y5
              have X3 := Lib.hid (X2.out.only o5 (by simp; omega))
              have F3 := Lib.hid (F2.out.only o5 (by simp; omega))
              have B3 := Lib.hid (B2.out.trans (o5.below (n := m) (by simp; omega) (by have := B2.out.size; have := HM.out; omega)))
              clear y5 o5 CS1 X2 Y2 F2 B2 c0 c1 c3 d0 d1
              go_wp2_with fail
              go_roundw
              case rel => exact ⟨2, by omega, by go_num, X3, Y3, F3, B3, HA2⟩
              case measure => simp [intOf]
            · have ek : (x.b.f.k != 6) = true := i64n _ _ hk
              obtain rfl : V = false := by
                rw [HV.out, allFld_no (i := 1) (by omega) HU.out (by unfold okFld; show (validB s.tt && ((decide ((6 : Int) = 0) || decide ((s.tt).f.k = (6 : Int))) && _)) = false; rw [← HKF.out]; simp [hk])]
                simp
              clear hk
              clear HA X2 Y2 F2 T2 P2
              go_wp2_with fail
              go_ret
              exact ⟨rfl, by rw [← HM.out]; exact B2.out⟩
      · as_aux_lemma =>
        have f0 := F1.out.cell 8
        have f1 := F1.out.cell 9
        have f2 := F1.out.cell 10
        have f3 := F1.out.cell 11
        unfold fldC at f0 f1 f2 f3
        simp only [List.getElem?_toArray, List.getElem?_cons_zero, List.getElem?_cons_succ] at f0 f1 f2 f3
        obtain ⟨z, hz⟩ : ∃ q, q = wr.heap.size := ⟨_, rfl⟩
        have HZ := Lib.hid hz
        have hzx : mo < z := by rw [hz]; exact Y1.out.lt
        have hzf : mf < z := by rw [hz]; exact F1.out.lt
        have X0 := Lib.hid (Blk.new wr 54 #[.int .i64 0, .int .i64 0, .nilFunc, .nilFunc])
        have O0 := Lib.hid (Only.alloc [z] wr (.cells #[.int .i64 0, .int .i64 0, .nilFunc, .nilFunc] 54))
        rw [← hz] at X0
        go_upto_region 6 with (rw [← hz]; refine wpList_store_blk rfl 54 _ _ rfl rfl z #[.int .i64 4, .int .i64 2, .func (.func 49) #[] #[], .func (.func 51) #[] #[]] _ 54 rfl rfl X0.out rfl info54 (by simp [Value.oneCell']) ?_; intro v1 b1 o1)
        have BV := Lib.hid (show Below z wr v1 from (O0.out.trans o1).below (by simp) (by rw [HZ.out]; exact Nat.le_refl _))
        have X2 := Lib.hid (X1.out.below BV.out (by omega))
        have Y2 := Lib.hid (Y1.out.below BV.out hzx)
        have F2 := Lib.hid (F1.out.below BV.out hzf)
        have B2 := Lib.hid (HTR.out _ _ B1.out (by rw [← HZ.out]; exact BV.out))
        have T2 := Lib.hid b1
        have c0 := b1.cell 0
        have c1 := b1.cell 1
        have c2 := b1.cell 2
        have c3 := b1.cell 3
        simp only [List.getElem?_toArray, List.getElem?_cons_zero, List.getElem?_cons_succ] at c0 c1 c2 c3
        clear f0 f1 f2 f3 X0 O0 b1 o1 X1 Y1 F1 B1 BV hz
        obtain ⟨hb, hhb⟩ : ∃ q, q = (bits BinOp.and IntKind.i64 u 4 == 0) := ⟨_, rfl⟩
        have hbe := hhb.symm
        have HU : Hid (hasU u 2 = !hb) := Lib.hid (by rw [hhb]; rfl)
        clear hhb
        cases hb with
        | true =>
          replace Y2 := Lib.hid Y2.out
          rw [only_no2 s x HU.out] at Y2
          have HA2 := Lib.hid (allFld_yes HA.out (.inl HU.out))
          clear HA
          go_wp2_with fail
          go_roundw
          case rel => exact ⟨3, by omega, by go_num, X2, Y2, F2, B2, HA2⟩
          case measure => simp [intOf]
        | false =>
          have HSv := Lib.hid (HS.out.below (show Below w.heap.size w v1 by rw [← HM.out]; exact B2.out) (fun b _ h => h))
          have CG := Lib.hid (get49 S s x v1 HSv.out)
          rw [HSV.out] at CG
          unfold ftV at CG
          dsimp only [atmX, nmbX] at CG
          clear HSv
          go_wp2_with (refine wpList_load_blk rfl 26 _ rfl m rfl _ 26 _ X2.out Tryz.underlying26 rfl (by rw [HSZ.out]; exact info26) ?_)
          refine CG.out.mono ?_
          rintro e v2 ⟨rfl, b2⟩
          obtain ⟨z2, hz2⟩ : ∃ q, q = v2.heap.size := ⟨_, rfl⟩
          have HZ2 := Lib.hid hz2
          have hzz : z < z2 := by rw [hz2]; exact Nat.lt_of_lt_of_le T2.out.lt b2.size
          have hzm : mo < z2 := by omega
          have hzf2 : mf < z2 := by omega
          have hm2 : m < z2 := by omega
          have P0 := Lib.hid (Blk.new v2 24 #[.int .i64 0, .int .i64 0, .int .i64 0, .string ⟨#[]⟩, .string ⟨#[]⟩, .int .i64 0, .slice none 0 0, .string ⟨#[]⟩, .int .i64 0])
          have O0 := Lib.hid (Only.alloc [z2] v2 (.cells #[.int .i64 0, .int .i64 0, .int .i64 0, .string ⟨#[]⟩, .string ⟨#[]⟩, .int .i64 0, .slice none 0 0, .string ⟨#[]⟩, .int .i64 0] 24))
          rw [← hz2] at P0
          replace X2 := Lib.hid (X2.out.below b2 X2.out.lt)
          replace Y2 := Lib.hid (Y2.out.below b2 Y2.out.lt)
          replace F2 := Lib.hid (F2.out.below b2 F2.out.lt)
          replace T2 := Lib.hid (T2.out.below b2 T2.out.lt)
          replace B2 := Lib.hid (HTR.out _ _ B2.out b2)
          clear b2 CG c0 c1 c2 c3
          go_upto_region 8 with (rw [← hz2]; refine wpList_store_blk rfl 24 _ _ rfl rfl z2 #[.int .i64 2, .int .i64 0, .int .i64 0, .string s.node, .string ⟨#[]⟩, .int .i64 0, .slice none 0 0, .string ⟨#[]⟩, .int .i64 0] _ 24 rfl rfl P0.out rfl info25 (by simp [Value.oneCell']) ?_; intro v3 b3 o3)
          have BV := Lib.hid (show Below z2 v2 v3 from (O0.out.trans o3).below (by simp) (by rw [HZ2.out]; exact Nat.le_refl _))
          replace X2 := Lib.hid (X2.out.below BV.out hm2)
          replace Y2 := Lib.hid (Y2.out.below BV.out hzm)
          replace F2 := Lib.hid (F2.out.below BV.out hzf2)
          replace T2 := Lib.hid (T2.out.below BV.out hzz)
          replace B2 := Lib.hid (HTR.out _ _ B2.out (by rw [← HZ2.out]; exact BV.out))
          have P2 := Lib.hid b3
          clear BV b3 o3 O0 P0 hz2
          have HSV3 := Lib.hid (HS.out.below (show Below w.heap.size w v3 by rw [← HM.out]; exact B2.out) (fun b _ h => h))
          have CV := Lib.hid (valid_anyW S (atmT s.node) (atmX s.node) v3 (atom_at S _ s.node) (fit_atom s.node).1 (fit_atom s.node).2)
          unfold ftV at CV
          dsimp only [atmX, nmbX] at CV
          obtain ⟨vb, hvb⟩ : ∃ q, q = validB (atmT s.node) := ⟨_, rfl⟩
          rw [← hvb] at CV
          have HVB := Lib.hid hvb
          clear hvb HSV3
          go_wp2_with (refine wpList_load_blk rfl 24 _ rfl z2 rfl _ 24 _ P2.out Tryz.underlying24 rfl info25 ?_)
          refine CV.out.mono ?_
          rintro e v4 ⟨rfl, b4⟩
          replace X2 := Lib.hid (X2.out.below b4 X2.out.lt)
          replace Y2 := Lib.hid (Y2.out.below b4 Y2.out.lt)
          replace F2 := Lib.hid (F2.out.below b4 F2.out.lt)
          replace T2 := Lib.hid (T2.out.below b4 T2.out.lt)
          replace P2 := Lib.hid (P2.out.below b4 P2.out.lt)
          replace B2 := Lib.hid (HTR.out _ _ B2.out b4)
          clear b4 CV
          have c0 := T2.out.cell 0
          have c1 := T2.out.cell 1
          have c3 := T2.out.cell 3
          have d0 := P2.out.cell 0
          have d1 := P2.out.cell 1
          simp only [List.getElem?_toArray, List.getElem?_cons_zero, List.getElem?_cons_succ] at c0 c1 c3 d0 d1
          cases vb with
          | false =>
            obtain rfl : V = false := by
              rw [HV.out, allFld_no (i := 2) (by omega) HU.out (by unfold okFld; show (validB (atmT s.node) && _) = false; rw [← HVB.out]; rfl)]
              simp
            clear HA X2 Y2 F2 T2 P2
            go_wp2_with fail
            go_ret
            exact ⟨rfl, by rw [← HM.out]; exact B2.out⟩
          | true =>
            have HOK : Hid (okFld s 2 = true) := Lib.hid (by unfold okFld; show (validB (atmT s.node) && ((decide ((2 : Int) = 0) || decide (((atmT s.node)).f.k = (2 : Int))) && (decide ((2 : Nat) ≠ 5) || decide (1 ≤ s.num)))) = true; rw [← HVB.out]; simp [atmT, Tm.f])
            have CS1 := Lib.hid (set51 (onlyS u s 2) (onlyX u x 2) (atmX s.node) mo v4 Y2.out ⟨_, _, _, rfl⟩)
            unfold ftV at CS1
            dsimp only [atmX, nmbX] at CS1
            have := only_yes2 s x HU.out
            dsimp only [atmX, nmbX] at this
            rw [this] at CS1
            clear this
            --2 s x HU.out] at CS1
            have HA2 := Lib.hid (allFld_yes HA.out (.inr HOK.out))
            clear HA
            go_wp2_with (refine wpList_load_blk rfl 24 _ rfl z2 rfl _ 24 _ P2.out Tryz.underlying24 rfl info25 ?_)
            refine CS1.out.mono ?_
            rintro e v5 ⟨rfl, y5, o5⟩
            have Y3 := Lib.hid y5
            have X3 := Lib.hid (X2.out.only o5 (by simp; omega))
            have F3 := Lib.hid (F2.out.only o5 (by simp; omega))
            have B3 := Lib.hid (B2.out.trans (o5.below (n := m) (by simp; omega) (by have := B2.out.size; have := HM.out; omega)))
            clear y5 o5 CS1 X2 Y2 F2 B2 c0 c1 c3 d0 d1
            go_wp2_with fail
            go_roundw
            case rel => exact ⟨3, by omega, by go_num, X3, Y3, F3, B3, HA2⟩
            case measure => simp [intOf]
      · as_aux_lemma =>
        have f0 := F1.out.cell 12
        have f1 := F1.out.cell 13
        have f2 := F1.out.cell 14
        have f3 := F1.out.cell 15
        unfold fldC at f0 f1 f2 f3
        simp only [List.getElem?_toArray, List.getElem?_cons_zero, List.getElem?_cons_succ] at f0 f1 f2 f3
        obtain ⟨z, hz⟩ : ∃ q, q = wr.heap.size := ⟨_, rfl⟩
        have HZ := Lib.hid hz
        have hzx : mo < z := by rw [hz]; exact Y1.out.lt
        have hzf : mf < z := by rw [hz]; exact F1.out.lt
        have X0 := Lib.hid (Blk.new wr 54 #[.int .i64 0, .int .i64 0, .nilFunc, .nilFunc])
        have O0 := Lib.hid (Only.alloc [z] wr (.cells #[.int .i64 0, .int .i64 0, .nilFunc, .nilFunc] 54))
        rw [← hz] at X0
        go_upto_region 6 with (rw [← hz]; refine wpList_store_blk rfl 54 _ _ rfl rfl z #[.int .i64 8, .int .i64 2, .func (.func 52) #[] #[], .func (.func 53) #[] #[]] _ 54 rfl rfl X0.out rfl info54 (by simp [Value.oneCell']) ?_; intro v1 b1 o1)
        have BV := Lib.hid (show Below z wr v1 from (O0.out.trans o1).below (by simp) (by rw [HZ.out]; exact Nat.le_refl _))
        have X2 := Lib.hid (X1.out.below BV.out (by omega))
        have Y2 := Lib.hid (Y1.out.below BV.out hzx)
        have F2 := Lib.hid (F1.out.below BV.out hzf)
        have B2 := Lib.hid (HTR.out _ _ B1.out (by rw [← HZ.out]; exact BV.out))
        have T2 := Lib.hid b1
        have c0 := b1.cell 0
        have c1 := b1.cell 1
        have c2 := b1.cell 2
        have c3 := b1.cell 3
        simp only [List.getElem?_toArray, List.getElem?_cons_zero, List.getElem?_cons_succ] at c0 c1 c2 c3
        clear f0 f1 f2 f3 X0 O0 b1 o1 X1 Y1 F1 B1 BV hz
        obtain ⟨hb, hhb⟩ : ∃ q, q = (bits BinOp.and IntKind.i64 u 8 == 0) := ⟨_, rfl⟩
        have hbe := hhb.symm
        have HU : Hid (hasU u 3 = !hb) := Lib.hid (by rw [hhb]; rfl)
        clear hhb
        cases hb with
        | true =>
          replace Y2 := Lib.hid Y2.out
          rw [only_no3 s x HU.out] at Y2
          have HA2 := Lib.hid (allFld_yes HA.out (.inl HU.out))
          clear HA
          go_wp2_with fail
          go_roundw
          case rel => exact ⟨4, by omega, by go_num, X2, Y2, F2, B2, HA2⟩
          case measure => simp [intOf]
        | false =>
          have HSv := Lib.hid (HS.out.below (show Below w.heap.size w v1 by rw [← HM.out]; exact B2.out) (fun b _ h => h))
          have CG := Lib.hid (get52 S s x v1 HSv.out)
          rw [HSV.out] at CG
          unfold ftV at CG
          dsimp only [atmX, nmbX] at CG
          clear HSv
          go_wp2_with (refine wpList_load_blk rfl 26 _ rfl m rfl _ 26 _ X2.out Tryz.underlying26 rfl (by rw [HSZ.out]; exact info26) ?_)
          refine CG.out.mono ?_
          rintro e v2 ⟨rfl, b2⟩
          obtain ⟨z2, hz2⟩ : ∃ q, q = v2.heap.size := ⟨_, rfl⟩
          have HZ2 := Lib.hid hz2
          have hzz : z < z2 := by rw [hz2]; exact Nat.lt_of_lt_of_le T2.out.lt b2.size
          have hzm : mo < z2 := by omega
          have hzf2 : mf < z2 := by omega
          have hm2 : m < z2 := by omega
          have P0 := Lib.hid (Blk.new v2 24 #[.int .i64 0, .int .i64 0, .int .i64 0, .string ⟨#[]⟩, .string ⟨#[]⟩, .int .i64 0, .slice none 0 0, .string ⟨#[]⟩, .int .i64 0])
          have O0 := Lib.hid (Only.alloc [z2] v2 (.cells #[.int .i64 0, .int .i64 0, .int .i64 0, .string ⟨#[]⟩, .string ⟨#[]⟩, .int .i64 0, .slice none 0 0, .string ⟨#[]⟩, .int .i64 0] 24))
          rw [← hz2] at P0
          replace X2 := Lib.hid (X2.out.below b2 X2.out.lt)
          replace Y2 := Lib.hid (Y2.out.below b2 Y2.out.lt)
          replace F2 := Lib.hid (F2.out.below b2 F2.out.lt)
          replace T2 := Lib.hid (T2.out.below b2 T2.out.lt)
          replace B2 := Lib.hid (HTR.out _ _ B2.out b2)
          clear b2 CG c0 c1 c2 c3
          go_upto_region 8 with (rw [← hz2]; refine wpList_store_blk rfl 24 _ _ rfl rfl z2 #[.int .i64 2, .int .i64 0, .int .i64 0, .string s.name, .string ⟨#[]⟩, .int .i64 0, .slice none 0 0, .string ⟨#[]⟩, .int .i64 0] _ 24 rfl rfl P0.out rfl info25 (by simp [Value.oneCell']) ?_; intro v3 b3 o3)
          have BV := Lib.hid (show Below z2 v2 v3 from (O0.out.trans o3).below (by simp) (by rw [HZ2.out]; exact Nat.le_refl _))
          replace X2 := Lib.hid (X2.out.below BV.out hm2)
          replace Y2 := Lib.hid (Y2.out.below BV.out hzm)
          replace F2 := Lib.hid (F2.out.below BV.out hzf2)
          replace T2 := Lib.hid (T2.out.below BV.out hzz)
          replace B2 := Lib.hid (HTR.out _ _ B2.out (by rw [← HZ2.out]; exact BV.out))
          have P2 := Lib.hid b3
          clear BV b3 o3 O0 P0 hz2
          have HSV3 := Lib.hid (HS.out.below (show Below w.heap.size w v3 by rw [← HM.out]; exact B2.out) (fun b _ h => h))
          have CV := Lib.hid (valid_anyW S (atmT s.name) (atmX s.name) v3 (atom_at S _ s.name) (fit_atom s.name).1 (fit_atom s.name).2)
          unfold ftV at CV
          dsimp only [atmX, nmbX] at CV
          obtain ⟨vb, hvb⟩ : ∃ q, q = validB (atmT s.name) := ⟨_, rfl⟩
          rw [← hvb] at CV
          have HVB := Lib.hid hvb
          clear hvb HSV3
          go_wp2_with (refine wpList_load_blk rfl 24 _ rfl z2 rfl _ 24 _ P2.out Tryz.underlying24 rfl info25 ?_)
          refine CV.out.mono ?_
          rintro e v4 ⟨rfl, b4⟩
          replace X2 := Lib.hid (X2.out.below b4 X2.out.lt)
          replace Y2 := Lib.hid (Y2.out.below b4 Y2.out.lt)
          replace F2 := Lib.hid (F2.out.below b4 F2.out.lt)
          replace T2 := Lib.hid (T2.out.below b4 T2.out.lt)
          replace P2 := Lib.hid (P2.out.below b4 P2.out.lt)
          replace B2 := Lib.hid (HTR.out _ _ B2.out b4)
          clear b4 CV
          have c0 := T2.out.cell 0
          have c1 := T2.out.cell 1
          have c3 := T2.out.cell 3
          have d0 := P2.out.cell 0
          have d1 := P2.out.cell 1
          simp only [List.getElem?_toArray, List.getElem?_cons_zero, List.getElem?_cons_succ] at c0 c1 c3 d0 d1
          cases vb with
          | false =>
            obtain rfl : V = false := by
              rw [HV.out, allFld_no (i := 3) (by omega) HU.out (by unfold okFld; show (validB (atmT s.name) && _) = false; rw [← HVB.out]; rfl)]
              simp
            clear HA X2 Y2 F2 T2 P2
            go_wp2_with fail
            go_ret
            exact ⟨rfl, by rw [← HM.out]; exact B2.out⟩
          | true =>
            have HOK : Hid (okFld s 3 = true) := Lib.hid (by unfold okFld; show (validB (atmT s.name) && ((decide ((2 : Int) = 0) || decide (((atmT s.name)).f.k = (2 : Int))) && (decide ((3 : Nat) ≠ 5) || decide (1 ≤ s.num)))) = true; rw [← HVB.out]; simp [atmT, Tm.f])
            have CS1 := Lib.hid (set53 (onlyS u s 3) (onlyX u x 3) (atmX s.name) mo v4 Y2.out ⟨_, _, _, rfl⟩)
            unfold ftV at CS1
            dsimp only [atmX, nmbX] at CS1
            have := only_yes3 s x HU.out
            dsimp only [atmX, nmbX] at this
            rw [this] at CS1
            clear this
            --3 s x HU.out] at CS1
            have HA2 := Lib.hid (allFld_yes HA.out (.inr HOK.out))
            clear HA
            go_wp2_with (refine wpList_load_blk rfl 24 _ rfl z2 rfl _ 24 _ P2.out Tryz.underlying24 rfl info25 ?_)
            refine CS1.out.mono ?_
            rintro e v5 ⟨rfl, y5, o5⟩
            have Y3 := Lib.hid y5
            have X3 := Lib.hid (X2.out.only o5 (by simp; omega))
            have F3 := Lib.hid (F2.out.only o5 (by simp; omega))
            have B3 := Lib.hid (B2.out.trans (o5.below (n := m) (by simp; omega) (by have := B2.out.size; have := HM.out; omega)))
            clear y5 o5 CS1 X2 Y2 F2 B2 c0 c1 c3 d0 d1
            go_wp2_with fail
            go_roundw
            case rel => exact ⟨4, by omega, by go_num, X3, Y3, F3, B3, HA2⟩
            case measure => simp [intOf]
      · as_aux_lemma =>
        have f0 := F1.out.cell 16
        have f1 := F1.out.cell 17
        have f2 := F1.out.cell 18
        have f3 := F1.out.cell 19
        unfold fldC at f0 f1 f2 f3
        simp only [List.getElem?_toArray, List.getElem?_cons_zero, List.getElem?_cons_succ] at f0 f1 f2 f3
        obtain ⟨z, hz⟩ : ∃ q, q = wr.heap.size := ⟨_, rfl⟩
        have HZ := Lib.hid hz
        have hzx : mo < z := by rw [hz]; exact Y1.out.lt
        have hzf : mf < z := by rw [hz]; exact F1.out.lt
        have X0 := Lib.hid (Blk.new wr 54 #[.int .i64 0, .int .i64 0, .nilFunc, .nilFunc])
        have O0 := Lib.hid (Only.alloc [z] wr (.cells #[.int .i64 0, .int .i64 0, .nilFunc, .nilFunc] 54))
        rw [← hz] at X0
        go_upto_region 6 with (rw [← hz]; refine wpList_store_blk rfl 54 _ _ rfl rfl z #[.int .i64 16, .int .i64 3, .func (.func 54) #[] #[], .func (.func 55) #[] #[]] _ 54 rfl rfl X0.out rfl info54 (by simp [Value.oneCell']) ?_; intro v1 b1 o1)
        have BV := Lib.hid (show Below z wr v1 from (O0.out.trans o1).below (by simp) (by rw [HZ.out]; exact Nat.le_refl _))
        have X2 := Lib.hid (X1.out.below BV.out (by omega))
        have Y2 := Lib.hid (Y1.out.below BV.out hzx)
        have F2 := Lib.hid (F1.out.below BV.out hzf)
        have B2 := Lib.hid (HTR.out _ _ B1.out (by rw [← HZ.out]; exact BV.out))
        have T2 := Lib.hid b1
        have c0 := b1.cell 0
        have c1 := b1.cell 1
        have c2 := b1.cell 2
        have c3 := b1.cell 3
        simp only [List.getElem?_toArray, List.getElem?_cons_zero, List.getElem?_cons_succ] at c0 c1 c2 c3
        clear f0 f1 f2 f3 X0 O0 b1 o1 X1 Y1 F1 B1 BV hz
        obtain ⟨hb, hhb⟩ : ∃ q, q = (bits BinOp.and IntKind.i64 u 16 == 0) := ⟨_, rfl⟩
        have hbe := hhb.symm
        have HU : Hid (hasU u 4 = !hb) := Lib.hid (by rw [hhb]; rfl)
        clear hhb
        cases hb with
        | true =>
          replace Y2 := Lib.hid Y2.out
          rw [only_no4 s x HU.out] at Y2
          have HA2 := Lib.hid (allFld_yes HA.out (.inl HU.out))
          clear HA
          go_wp2_with fail
          go_roundw
          case rel => exact ⟨5, by omega, by go_num, X2, Y2, F2, B2, HA2⟩
          case measure => simp [intOf]
        | false =>
          have HSv := Lib.hid (HS.out.below (show Below w.heap.size w v1 by rw [← HM.out]; exact B2.out) (fun b _ h => h))
          have CG := Lib.hid (get54 S s x v1 HSv.out)
          rw [HSV.out] at CG
          unfold ftV at CG
          try dsimp only at CG
          rw [EC.out] at CG
          clear HSv
          go_wp2_with (refine wpList_load_blk rfl 26 _ rfl m rfl _ 26 _ X2.out Tryz.underlying26 rfl (by rw [HSZ.out]; exact info26) ?_)
          refine CG.out.mono ?_
          rintro e v2 ⟨rfl, b2⟩
          obtain ⟨z2, hz2⟩ : ∃ q, q = v2.heap.size := ⟨_, rfl⟩
          have HZ2 := Lib.hid hz2
          have hzz : z < z2 := by rw [hz2]; exact Nat.lt_of_lt_of_le T2.out.lt b2.size
          have hzm : mo < z2 := by omega
          have hzf2 : mf < z2 := by omega
          have hm2 : m < z2 := by omega
          have P0 := Lib.hid (Blk.new v2 24 #[.int .i64 0, .int .i64 0, .int .i64 0, .string ⟨#[]⟩, .string ⟨#[]⟩, .int .i64 0, .slice none 0 0, .string ⟨#[]⟩, .int .i64 0])
          have O0 := Lib.hid (Only.alloc [z2] v2 (.cells #[.int .i64 0, .int .i64 0, .int .i64 0, .string ⟨#[]⟩, .string ⟨#[]⟩, .int .i64 0, .slice none 0 0, .string ⟨#[]⟩, .int .i64 0] 24))
          rw [← hz2] at P0
          replace X2 := Lib.hid (X2.out.below b2 X2.out.lt)
          replace Y2 := Lib.hid (Y2.out.below b2 Y2.out.lt)
          replace F2 := Lib.hid (F2.out.below b2 F2.out.lt)
          replace T2 := Lib.hid (T2.out.below b2 T2.out.lt)
          replace B2 := Lib.hid (HTR.out _ _ B2.out b2)
          clear b2 CG c0 c1 c2 c3
          go_upto_region 8 with (rw [← hz2]; refine wpList_store_blk rfl 24 _ _ rfl rfl z2 #[.int .i64 x.c.f.k, .int .i64 x.c.f.n, .int .i64 x.c.f.g, .string x.c.f.nm, .string x.c.f.fn, .int .i64 x.c.f.ar, .slice sc s.ref.l.length cc, .string x.c.f.bs, .int .i64 x.c.f.bt] _ 24 rfl rfl P0.out rfl info25 (by simp [Value.oneCell']) ?_; intro v3 b3 o3)
          have BV := Lib.hid (show Below z2 v2 v3 from (O0.out.trans o3).below (by simp) (by rw [HZ2.out]; exact Nat.le_refl _))
          replace X2 := Lib.hid (X2.out.below BV.out hm2)
          replace Y2 := Lib.hid (Y2.out.below BV.out hzm)
          replace F2 := Lib.hid (F2.out.below BV.out hzf2)
          replace T2 := Lib.hid (T2.out.below BV.out hzz)
          replace B2 := Lib.hid (HTR.out _ _ B2.out (by rw [← HZ2.out]; exact BV.out))
          have P2 := Lib.hid b3
          clear BV b3 o3 O0 P0 hz2
          have HSV3 := Lib.hid (HS.out.below (show Below w.heap.size w v3 by rw [← HM.out]; exact B2.out) (fun b _ h => h))
          have CV := Lib.hid (valid_anyW S s.ref x.c v3 (HSV3.out.ref) HF.out.ref.1 HF.out.ref.2)
          unfold ftV at CV
          try dsimp only at CV
          rw [EC.out] at CV
          obtain ⟨vb, hvb⟩ : ∃ q, q = validB s.ref := ⟨_, rfl⟩
          rw [← hvb] at CV
          have HVB := Lib.hid hvb
          clear hvb HSV3
          go_wp2_with (refine wpList_load_blk rfl 24 _ rfl z2 rfl _ 24 _ P2.out Tryz.underlying24 rfl info25 ?_)
          refine CV.out.mono ?_
          rintro e v4 ⟨rfl, b4⟩
          replace X2 := Lib.hid (X2.out.below b4 X2.out.lt)
          replace Y2 := Lib.hid (Y2.out.below b4 Y2.out.lt)
          replace F2 := Lib.hid (F2.out.below b4 F2.out.lt)
          replace T2 := Lib.hid (T2.out.below b4 T2.out.lt)
          replace P2 := Lib.hid (P2.out.below b4 P2.out.lt)
          replace B2 := Lib.hid (HTR.out _ _ B2.out b4)
          clear b4 CV
          have c0 := T2.out.cell 0
          have c1 := T2.out.cell 1
          have c3 := T2.out.cell 3
          have d0 := P2.out.cell 0
          have d1 := P2.out.cell 1
          simp only [List.getElem?_toArray, List.getElem?_cons_zero, List.getElem?_cons_succ] at c0 c1 c3 d0 d1
          cases vb with
          | false =>
            obtain rfl : V = false := by
              rw [HV.out, allFld_no (i := 4) (by omega) HU.out (by unfold okFld; show (validB s.ref && _) = false; rw [← HVB.out]; rfl)]
              simp
            clear HA X2 Y2 F2 T2 P2
            go_wp2_with fail
            go_ret
            exact ⟨rfl, by rw [← HM.out]; exact B2.out⟩
          | true =>
            have hkf : x.c.f.k = s.ref.f.k := by rw [HS.out.ref.its.1]
            have HKF := Lib.hid hkf
            clear hkf
            by_cases hk : x.c.f.k = 3
            · rw [hk] at d0 P2
              have HOK : Hid (okFld s 4 = true) := Lib.hid (by unfold okFld; show (validB s.ref && ((decide ((3 : Int) = 0) || decide ((s.ref).f.k = (3 : Int))) && (decide ((4 : Nat) ≠ 5) || decide (1 ≤ s.num)))) = true; rw [← HVB.out]; rw [← HKF.out, hk]; rfl)
              have HK := Lib.hid hk
              clear hk
              have CS1 := Lib.hid (set55 (onlyS u s 4) (onlyX u x 4) x.c mo v4 Y2.out ⟨_, _, _, EC.out⟩)
              unfold ftV at CS1
              try dsimp only at CS1
              rw [EC.out] at CS1
              try rw [HK.out] at CS1
              rw [only_yes4 s x HU.out] at CS1
              have HA2 := Lib.hid (allFld_yes HA.out (.inr HOK.out))
              clear HA
              go_wp2_with (refine wpList_load_blk rfl 24 _ rfl z2 rfl _ 24 _ P2.out Tryz.underlying24 rfl info25 ?_)
              refine CS1.out.mono ?_
              rintro e v5 ⟨rfl, y5, o5⟩
              have Y3 := Lib.hid y5
              have X3 := Lib.hid (X2.out.only o5 (by simp; omega))
              have F3 := Lib.hid (F2.out.only o5 (by simp; omega))
              have B3 := Lib.hid (B2.out.trans (o5.below (n := m) (by simp; omega) (by have := B2.out.size; have := HM.out; omega)))
              clear y5 o5 CS1 X2 Y2 F2 B2 c0 c1 c3 d0 d1
              go_wp2_with fail
              go_roundw
              case rel => exact ⟨5, by omega, by go_num, X3, Y3, F3, B3, HA2⟩
              case measure => simp [intOf]
            · have ek : (x.c.f.k != 3) = true := i64n _ _ hk
              obtain rfl : V = false := by
                rw [HV.out, allFld_no (i := 4) (by omega) HU.out (by unfold okFld; show (validB s.ref && ((decide ((3 : Int) = 0) || decide ((s.ref).f.k = (3 : Int))) && _)) = false; rw [← HKF.out]; simp [hk])]
                simp
              clear hk
              clear HA X2 Y2 F2 T2 P2
              go_wp2_with fail
              go_ret
              exact ⟨rfl, by rw [← HM.out]; exact B2.out⟩
      · as_aux_lemma =>
        have f0 := F1.out.cell 20
        have f1 := F1.out.cell 21
        have f2 := F1.out.cell 22
        have f3 := F1.out.cell 23
        unfold fldC at f0 f1 f2 f3
        simp only [List.getElem?_toArray, List.getElem?_cons_zero, List.getElem?_cons_succ] at f0 f1 f2 f3
        obtain ⟨z, hz⟩ : ∃ q, q = wr.heap.size := ⟨_, rfl⟩
        have HZ := Lib.hid hz
        have hzx : mo < z := by rw [hz]; exact Y1.out.lt
        have hzf : mf < z := by rw [hz]; exact F1.out.lt
        have X0 := Lib.hid (Blk.new wr 54 #[.int .i64 0, .int .i64 0, .nilFunc, .nilFunc])
        have O0 := Lib.hid (Only.alloc [z] wr (.cells #[.int .i64 0, .int .i64 0, .nilFunc, .nilFunc] 54))
        rw [← hz] at X0
        go_upto_region 6 with (rw [← hz]; refine wpList_store_blk rfl 54 _ _ rfl rfl z #[.int .i64 32, .int .i64 1, .func (.func 56) #[] #[], .func (.func 58) #[] #[]] _ 54 rfl rfl X0.out rfl info54 (by simp [Value.oneCell']) ?_; intro v1 b1 o1)
        have BV := Lib.hid (show Below z wr v1 from (O0.out.trans o1).below (by simp) (by rw [HZ.out]; exact Nat.le_refl _))
        have X2 := Lib.hid (X1.out.below BV.out (by omega))
        have Y2 := Lib.hid (Y1.out.below BV.out hzx)
        have F2 := Lib.hid (F1.out.below BV.out hzf)
        have B2 := Lib.hid (HTR.out _ _ B1.out (by rw [← HZ.out]; exact BV.out))
        have T2 := Lib.hid b1
        have c0 := b1.cell 0
        have c1 := b1.cell 1
        have c2 := b1.cell 2
        have c3 := b1.cell 3
        simp only [List.getElem?_toArray, List.getElem?_cons_zero, List.getElem?_cons_succ] at c0 c1 c2 c3
        clear f0 f1 f2 f3 X0 O0 b1 o1 X1 Y1 F1 B1 BV hz
        obtain ⟨hb, hhb⟩ : ∃ q, q = (bits BinOp.and IntKind.i64 u 32 == 0) := ⟨_, rfl⟩
        have hbe := hhb.symm
        have HU : Hid (hasU u 5 = !hb) := Lib.hid (by rw [hhb]; rfl)
        clear hhb
        cases hb with
        | true =>
          replace Y2 := Lib.hid Y2.out
          rw [only_no5 s x HU.out] at Y2
          have HA2 := Lib.hid (allFld_yes HA.out (.inl HU.out))
          clear HA
          go_wp2_with fail
          go_roundw
          case rel => exact ⟨6, by omega, by go_num, X2, Y2, F2, B2, HA2⟩
          case measure => simp [intOf]
        | false =>
          have HSv := Lib.hid (HS.out.below (show Below w.heap.size w v1 by rw [← HM.out]; exact B2.out) (fun b _ h => h))
          have CG := Lib.hid (get56 S s x v1 HSv.out)
          rw [HSV.out] at CG
          unfold ftV at CG
          dsimp only [atmX, nmbX] at CG
          clear HSv
          go_wp2_with (refine wpList_load_blk rfl 26 _ rfl m rfl _ 26 _ X2.out Tryz.underlying26 rfl (by rw [HSZ.out]; exact info26) ?_)
          refine CG.out.mono ?_
          rintro e v2 ⟨rfl, b2⟩
          obtain ⟨z2, hz2⟩ : ∃ q, q = v2.heap.size := ⟨_, rfl⟩
          have HZ2 := Lib.hid hz2
          have hzz : z < z2 := by rw [hz2]; exact Nat.lt_of_lt_of_le T2.out.lt b2.size
          have hzm : mo < z2 := by omega
          have hzf2 : mf < z2 := by omega
          have hm2 : m < z2 := by omega
          have P0 := Lib.hid (Blk.new v2 24 #[.int .i64 0, .int .i64 0, .int .i64 0, .string ⟨#[]⟩, .string ⟨#[]⟩, .int .i64 0, .slice none 0 0, .string ⟨#[]⟩, .int .i64 0])
          have O0 := Lib.hid (Only.alloc [z2] v2 (.cells #[.int .i64 0, .int .i64 0, .int .i64 0, .string ⟨#[]⟩, .string ⟨#[]⟩, .int .i64 0, .slice none 0 0, .string ⟨#[]⟩, .int .i64 0] 24))
          rw [← hz2] at P0
          replace X2 := Lib.hid (X2.out.below b2 X2.out.lt)
          replace Y2 := Lib.hid (Y2.out.below b2 Y2.out.lt)
          replace F2 := Lib.hid (F2.out.below b2 F2.out.lt)
          replace T2 := Lib.hid (T2.out.below b2 T2.out.lt)
          replace B2 := Lib.hid (HTR.out _ _ B2.out b2)
          clear b2 CG c0 c1 c2 c3
          go_upto_region 8 with (rw [← hz2]; refine wpList_store_blk rfl 24 _ _ rfl rfl z2 #[.int .i64 1, .int .i64 s.num, .int .i64 0, .string ⟨#[]⟩, .string ⟨#[]⟩, .int .i64 0, .slice none 0 0, .string ⟨#[]⟩, .int .i64 0] _ 24 rfl rfl P0.out rfl info25 (by simp [Value.oneCell']) ?_; intro v3 b3 o3)
          have BV := Lib.hid (show Below z2 v2 v3 from (O0.out.trans o3).below (by simp) (by rw [HZ2.out]; exact Nat.le_refl _))
          replace X2 := Lib.hid (X2.out.below BV.out hm2)
          replace Y2 := Lib.hid (Y2.out.below BV.out hzm)
          replace F2 := Lib.hid (F2.out.below BV.out hzf2)
          replace T2 := Lib.hid (T2.out.below BV.out hzz)
          replace B2 := Lib.hid (HTR.out _ _ B2.out (by rw [← HZ2.out]; exact BV.out))
          have P2 := Lib.hid b3
          clear BV b3 o3 O0 P0 hz2
          have HSV3 := Lib.hid (HS.out.below (show Below w.heap.size w v3 by rw [← HM.out]; exact B2.out) (fun b _ h => h))
          have CV := Lib.hid (valid_anyW S (nmbT s.num) (nmbX s.num) v3 (int_at S _ s.num) (fit_int s.num).1 (fit_int s.num).2)
          unfold ftV at CV
          dsimp only [atmX, nmbX] at CV
          obtain ⟨vb, hvb⟩ : ∃ q, q = validB (nmbT s.num) := ⟨_, rfl⟩
          rw [← hvb] at CV
          have HVB := Lib.hid hvb
          clear hvb HSV3
          go_wp2_with (refine wpList_load_blk rfl 24 _ rfl z2 rfl _ 24 _ P2.out Tryz.underlying24 rfl info25 ?_)
          refine CV.out.mono ?_
          rintro e v4 ⟨rfl, b4⟩
          replace X2 := Lib.hid (X2.out.below b4 X2.out.lt)
          replace Y2 := Lib.hid (Y2.out.below b4 Y2.out.lt)
          replace F2 := Lib.hid (F2.out.below b4 F2.out.lt)
          replace T2 := Lib.hid (T2.out.below b4 T2.out.lt)
          replace P2 := Lib.hid (P2.out.below b4 P2.out.lt)
          replace B2 := Lib.hid (HTR.out _ _ B2.out b4)
          clear b4 CV
          have c0 := T2.out.cell 0
          have c1 := T2.out.cell 1
          have c3 := T2.out.cell 3
          have d0 := P2.out.cell 0
          have d1 := P2.out.cell 1
          simp only [List.getElem?_toArray, List.getElem?_cons_zero, List.getElem?_cons_succ] at c0 c1 c3 d0 d1
          cases vb with
          | false =>
            obtain rfl : V = false := by
              rw [HV.out, allFld_no (i := 5) (by omega) HU.out (by unfold okFld; show (validB (nmbT s.num) && _) = false; rw [← HVB.out]; rfl)]
              simp
            clear HA X2 Y2 F2 T2 P2
            go_wp2_with fail
            go_ret
            exact ⟨rfl, by rw [← HM.out]; exact B2.out⟩
          | true =>
            by_cases hk : 1 ≤ s.num
            · have hk2 : ¬ s.num < 1 := by omega
              have HOK : Hid (okFld s 5 = true) := Lib.hid (by unfold okFld; show (validB (nmbT s.num) && ((decide ((1 : Int) = 0) || decide (((nmbT s.num)).f.k = (1 : Int))) && (decide ((5 : Nat) ≠ 5) || decide (1 ≤ s.num)))) = true; rw [← HVB.out]; simp [hk, nmbT, Tm.f])
              clear hk
              have CS1 := Lib.hid (set58 (onlyS u s 5) (onlyX u x 5) (nmbX s.num) mo v4 Y2.out ⟨_, _, _, rfl⟩)
              unfold ftV at CS1
              dsimp only [atmX, nmbX] at CS1
              have := only_yes5 s x HU.out
              dsimp only [atmX, nmbX] at this
              rw [this] at CS1
              clear this
              --5 s x HU.out] at CS1
              have HA2 := Lib.hid (allFld_yes HA.out (.inr HOK.out))
              clear HA
              go_wp2_with (refine wpList_load_blk rfl 24 _ rfl z2 rfl _ 24 _ P2.out Tryz.underlying24 rfl info25 ?_)
              refine CS1.out.mono ?_
              rintro e v5 ⟨rfl, y5, o5⟩
              have Y3 := Lib.hid y5
              have X3 := Lib.hid (X2.out.only o5 (by simp; omega))
              have F3 := Lib.hid (F2.out.only o5 (by simp; omega))
              have B3 := Lib.hid (B2.out.trans (o5.below (n := m) (by simp; omega) (by have := B2.out.size; have := HM.out; omega)))
              clear y5 o5 CS1 X2 Y2 F2 B2 c0 c1 c3 d0 d1
              go_wp2_with fail
              go_roundw
              case rel => exact ⟨6, by omega, by go_num, X3, Y3, F3, B3, HA2⟩
              case measure => simp [intOf]
            · have hk2 : s.num < 1 := by omega
              obtain rfl : V = false := by
                rw [HV.out, allFld_no (i := 5) (by omega) HU.out (by unfold okFld; simp [hk])]
                simp
              clear hk
              clear HA X2 Y2 F2 T2 P2
              go_wp2_with fail
              go_ret
              exact ⟨rfl, by rw [← HM.out]; exact B2.out⟩
      · as_aux_lemma =>
        have f0 := F1.out.cell 24
        have f1 := F1.out.cell 25
        have f2 := F1.out.cell 26
        have f3 := F1.out.cell 27
        unfold fldC at f0 f1 f2 f3
        simp only [List.getElem?_toArray, List.getElem?_cons_zero, List.getElem?_cons_succ] at f0 f1 f2 f3
        obtain ⟨z, hz⟩ : ∃ q, q = wr.heap.size := ⟨_, rfl⟩
        have HZ := Lib.hid hz
        have hzx : mo < z := by rw [hz]; exact Y1.out.lt
        have hzf : mf < z := by rw [hz]; exact F1.out.lt
        have X0 := Lib.hid (Blk.new wr 54 #[.int .i64 0, .int .i64 0, .nilFunc, .nilFunc])
        have O0 := Lib.hid (Only.alloc [z] wr (.cells #[.int .i64 0, .int .i64 0, .nilFunc, .nilFunc] 54))
        rw [← hz] at X0
        go_upto_region 6 with (rw [← hz]; refine wpList_store_blk rfl 54 _ _ rfl rfl z #[.int .i64 64, .int .i64 0, .func (.func 59) #[] #[], .func (.func 60) #[] #[]] _ 54 rfl rfl X0.out rfl info54 (by simp [Value.oneCell']) ?_; intro v1 b1 o1)
        have BV := Lib.hid (show Below z wr v1 from (O0.out.trans o1).below (by simp) (by rw [HZ.out]; exact Nat.le_refl _))
        have X2 := Lib.hid (X1.out.below BV.out (by omega))
        have Y2 := Lib.hid (Y1.out.below BV.out hzx)
        have F2 := Lib.hid (F1.out.below BV.out hzf)
        have B2 := Lib.hid (HTR.out _ _ B1.out (by rw [← HZ.out]; exact BV.out))
        have T2 := Lib.hid b1
        have c0 := b1.cell 0
        have c1 := b1.cell 1
        have c2 := b1.cell 2
        have c3 := b1.cell 3
        simp only [List.getElem?_toArray, List.getElem?_cons_zero, List.getElem?_cons_succ] at c0 c1 c2 c3
        clear f0 f1 f2 f3 X0 O0 b1 o1 X1 Y1 F1 B1 BV hz
        obtain ⟨hb, hhb⟩ : ∃ q, q = (bits BinOp.and IntKind.i64 u 64 == 0) := ⟨_, rfl⟩
        have hbe := hhb.symm
        have HU : Hid (hasU u 6 = !hb) := Lib.hid (by rw [hhb]; rfl)
        clear hhb
        cases hb with
        | true =>
          replace Y2 := Lib.hid Y2.out
          rw [only_no6 s x HU.out] at Y2
          have HA2 := Lib.hid (allFld_yes HA.out (.inl HU.out))
          clear HA
          go_wp2_with fail
          go_roundw
          case rel => exact ⟨7, by omega, by go_num, X2, Y2, F2, B2, HA2⟩
          case measure => simp [intOf]
        | false =>
          have HSv := Lib.hid (HS.out.below (show Below w.heap.size w v1 by rw [← HM.out]; exact B2.out) (fun b _ h => h))
          have CG := Lib.hid (get59 S s x v1 HSv.out)
          rw [HSV.out] at CG
          unfold ftV at CG
          try dsimp only at CG
          rw [ED.out] at CG
          clear HSv
          go_wp2_with (refine wpList_load_blk rfl 26 _ rfl m rfl _ 26 _ X2.out Tryz.underlying26 rfl (by rw [HSZ.out]; exact info26) ?_)
          refine CG.out.mono ?_
          rintro e v2 ⟨rfl, b2⟩
          obtain ⟨z2, hz2⟩ : ∃ q, q = v2.heap.size := ⟨_, rfl⟩
          have HZ2 := Lib.hid hz2
          have hzz : z < z2 := by rw [hz2]; exact Nat.lt_of_lt_of_le T2.out.lt b2.size
          have hzm : mo < z2 := by omega
          have hzf2 : mf < z2 := by omega
          have hm2 : m < z2 := by omega
          have P0 := Lib.hid (Blk.new v2 24 #[.int .i64 0, .int .i64 0, .int .i64 0, .string ⟨#[]⟩, .string ⟨#[]⟩, .int .i64 0, .slice none 0 0, .string ⟨#[]⟩, .int .i64 0])
          have O0 := Lib.hid (Only.alloc [z2] v2 (.cells #[.int .i64 0, .int .i64 0, .int .i64 0, .string ⟨#[]⟩, .string ⟨#[]⟩, .int .i64 0, .slice none 0 0, .string ⟨#[]⟩, .int .i64 0] 24))
          rw [← hz2] at P0
          replace X2 := Lib.hid (X2.out.below b2 X2.out.lt)
          replace Y2 := Lib.hid (Y2.out.below b2 Y2.out.lt)
          replace F2 := Lib.hid (F2.out.below b2 F2.out.lt)
          replace T2 := Lib.hid (T2.out.below b2 T2.out.lt)
          replace B2 := Lib.hid (HTR.out _ _ B2.out b2)
          clear b2 CG c0 c1 c2 c3
          go_upto_region 8 with (rw [← hz2]; refine wpList_store_blk rfl 24 _ _ rfl rfl z2 #[.int .i64 x.d.f.k, .int .i64 x.d.f.n, .int .i64 x.d.f.g, .string x.d.f.nm, .string x.d.f.fn, .int .i64 x.d.f.ar, .slice sd s.val.l.length cd, .string x.d.f.bs, .int .i64 x.d.f.bt] _ 24 rfl rfl P0.out rfl info25 (by simp [Value.oneCell']) ?_; intro v3 b3 o3)
          have BV := Lib.hid (show Below z2 v2 v3 from (O0.out.trans o3).below (by simp) (by rw [HZ2.out]; exact Nat.le_refl _))
          replace X2 := Lib.hid (X2.out.below BV.out hm2)
          replace Y2 := Lib.hid (Y2.out.below BV.out hzm)
          replace F2 := Lib.hid (F2.out.below BV.out hzf2)
          replace T2 := Lib.hid (T2.out.below BV.out hzz)
          replace B2 := Lib.hid (HTR.out _ _ B2.out (by rw [← HZ2.out]; exact BV.out))
          have P2 := Lib.hid b3
          clear BV b3 o3 O0 P0 hz2
          have HSV3 := Lib.hid (HS.out.below (show Below w.heap.size w v3 by rw [← HM.out]; exact B2.out) (fun b _ h => h))
          have CV := Lib.hid (valid_anyW S s.val x.d v3 (HSV3.out.val) HF.out.val.1 HF.out.val.2)
          unfold ftV at CV
          try dsimp only at CV
          rw [ED.out] at CV
          obtain ⟨vb, hvb⟩ : ∃ q, q = validB s.val := ⟨_, rfl⟩
          rw [← hvb] at CV
          have HVB := Lib.hid hvb
          clear hvb HSV3
          go_wp2_with (refine wpList_load_blk rfl 24 _ rfl z2 rfl _ 24 _ P2.out Tryz.underlying24 rfl info25 ?_)
          refine CV.out.mono ?_
          rintro e v4 ⟨rfl, b4⟩
          replace X2 := Lib.hid (X2.out.below b4 X2.out.lt)
          replace Y2 := Lib.hid (Y2.out.below b4 Y2.out.lt)
          replace F2 := Lib.hid (F2.out.below b4 F2.out.lt)
          replace T2 := Lib.hid (T2.out.below b4 T2.out.lt)
          replace P2 := Lib.hid (P2.out.below b4 P2.out.lt)
          replace B2 := Lib.hid (HTR.out _ _ B2.out b4)
          clear b4 CV
          have c0 := T2.out.cell 0
          have c1 := T2.out.cell 1
          have c3 := T2.out.cell 3
          have d0 := P2.out.cell 0
          have d1 := P2.out.cell 1
          simp only [List.getElem?_toArray, List.getElem?_cons_zero, List.getElem?_cons_succ] at c0 c1 c3 d0 d1
          cases vb with
          | false =>
            obtain rfl : V = false := by
              rw [HV.out, allFld_no (i := 6) (by omega) HU.out (by unfold okFld; show (validB s.val && _) = false; rw [← HVB.out]; rfl)]
              simp
            clear HA X2 Y2 F2 T2 P2
            go_wp2_with fail
            go_ret
            exact ⟨rfl, by rw [← HM.out]; exact B2.out⟩
          | true =>
            have HOK : Hid (okFld s 6 = true) := Lib.hid (by unfold okFld; show (validB s.val && ((decide ((0 : Int) = 0) || decide ((s.val).f.k = (0 : Int))) && (decide ((6 : Nat) ≠ 5) || decide (1 ≤ s.num)))) = true; rw [← HVB.out]; simp [Tm.f])
            have CS1 := Lib.hid (set60 (onlyS u s 6) (onlyX u x 6) x.d mo v4 Y2.out ⟨_, _, _, ED.out⟩)
            unfold ftV at CS1
            try dsimp only at CS1
            rw [ED.out] at CS1
            rw [only_yes6 s x HU.out] at CS1
            have HA2 := Lib.hid (allFld_yes HA.out (.inr HOK.out))
            clear HA
            go_wp2_with (refine wpList_load_blk rfl 24 _ rfl z2 rfl _ 24 _ P2.out Tryz.underlying24 rfl info25 ?_)
            refine CS1.out.mono ?_
            rintro e v5 ⟨rfl, y5, o5⟩
            have Y3 := Lib.hid y5
            have X3 := Lib.hid (X2.out.only o5 (by simp; omega))
            have F3 := Lib.hid (F2.out.only o5 (by simp; omega))
            have B3 := Lib.hid (B2.out.trans (o5.below (n := m) (by simp; omega) (by have := B2.out.size; have := HM.out; omega)))
            clear y5 o5 CS1 X2 Y2 F2 B2 c0 c1 c3 d0 d1
            go_wp2_with fail
            go_roundw
            case rel => exact ⟨7, by omega, by go_num, X3, Y3, F3, B3, HA2⟩
            case measure => simp [intOf]
end Go.Proofs.YtemlogadbopffaaGreat
