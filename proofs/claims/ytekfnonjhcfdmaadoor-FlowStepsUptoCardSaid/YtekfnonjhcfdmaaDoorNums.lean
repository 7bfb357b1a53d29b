/- flow.numbers: the set of the places of a kind. -/
import Derived.Test.YtekfnonjhcfdmaaDoorSList
import Derived.Test.YtekfnonjhcfdmaaDoorMaps
import Derived.Test.YtekfnonjhcfdmaaDoorPlace
namespace Go.Proofs.YtekfnonjhcfdmaaDoor
open Go.RowKit Go.Rt Go.Rw Go.Mp

def kyV (n : Int) : Value := .int .i64 n
def ixV (k : Nat) : Value := .int .i64 (k : Int)
theorem u57 : Tryd.prog.underlying 57 = some (.map 3 3) := by kernel_rfl
theorem emb3 : Emb Tryd.prog 3 kyV := int_emb (by kernel_rfl)
/-- The index of a number. -/
def ixF (idx : List (Int × Nat)) (n : Int) : Nat := (Mp.get idx n).getD 0
theorem look57 {w : World} {mb : Nat} {idx : List (Int × Nat)} (h : MapAt w mb kyV ixV idx) (n : Int) : (Instr.lookup 57 (.map (some mb)) (.int .i64 n) false).run Tryd.prog w = .ok (.int .i64 (ixF idx n : Nat)) w := by
  have hz : (zeroValue 3).run Tryd.prog w = .ok (.int .i64 0) w := Tryd.zeroValue3 w
  have := run_lookup1 emb3 u57 h hz n
  unfold kyV at this
  rw [this]
  unfold ixF
  cases Mp.get idx n <;> rfl
/-- The set of the places of a kind. -/
def numF (idx : List (Int × Nat)) (kind : Int) : List Ar → List Nat → List Nat
  | [], ws => ws
  | a :: r, ws => numF idx kind r (if a.k = kind then bitF ws (ixF idx a.n / 64) (ixF idx a.n % 64) else ws)
theorem numF_append (idx : List (Int × Nat)) (kind : Int) : ∀ (l m : List Ar) (ws : List Nat), numF idx kind (l ++ m) ws = numF idx kind m (numF idx kind l ws)
  | [], _, _ => rfl
  | a :: r, m, ws => by simp only [List.cons_append, numF]; exact numF_append idx kind r m _
theorem add58' (b base : Nat) (o : Option Nat) (ws : List Nat) (k : Nat) (w : World) (h : SetAt w base b o ws) (hk : k ≤ 60000000000) (hz : base ≤ w.heap.size) :
    Calls Tryd.prog 58 #[.pointer (some ⟨b, 0, none⟩), .int .i64 (k : Int)] w fun e w' => e = .returned (.tuple #[]) ∧ ∃ o', SetAt w' base b o' (bitF ws (k / 64) (k % 64)) ∧ Same w o o' ∧ Only (b :: o.toList) w w' := by
  have := add58 b base o ws (k / 64) (k % 64) w h (by omega) (by omega) hz
  rwa [Nat.div_add_mod] at this
theorem SetAt.lo {w : World} {base b : Nat} {o : Option Nat} {ws : List Nat} (h : SetAt w base b o ws) : ∀ r ∈ b :: o.toList, base ≤ r ∧ r < w.heap.size := by
  obtain ⟨h0, _, sa, co, hb, hs, hown⟩ := h
  intro r hr
  rcases List.mem_cons.1 hr with rfl | hr
  · exact ⟨h0, hb.lt⟩
  · rw [Option.mem_toList] at hr
    exact hs.lt r (by rw [hown]; exact hr)
theorem SetAt.below {w w' : World} {base b m : Nat} {o : Option Nat} {ws : List Nat} (h : SetAt w base b o ws) (hb : Below m w w') (hm : w.heap.size ≤ m) : SetAt w' base b o ws := by
  obtain ⟨h0, h1, sa, co, h2, h3, h4⟩ := h
  exact ⟨h0, h1, sa, co, h2.below hb (Nat.lt_of_lt_of_le h2.lt hm), h3.below hb (fun g hg => Nat.lt_of_lt_of_le (h3.lt g hg).2 hm), h4⟩
/-- A new set that is returned. -/
def SetR (ws : List Nat) (w : World) (e : Ending) (w' : World) : Prop := Below w.heap.size w w' ∧ ∃ b o, e = .returned (.pointer (some ⟨b, 0, none⟩)) ∧ SetAt w' w.heap.size b o ws
set_option maxRecDepth 100000 in
set_option maxHeartbeats 4000000 in
theorem nums35 (l : List Ar) (v : Value) (kind : Int) (mb : Nat) (idx : List (Int × Nat)) (w : World) (h : SlAt w 2 arC v l) (hm : MapAt w mb kyV ixV idx) (hx : ∀ a ∈ l, ixF idx a.n ≤ 60000000000) :
    Calls Tryd.prog 35 #[v, .int .i64 kind, .map (some mb)] w (SetR (numF idx kind l []) w) := by
  obtain ⟨_, sa, ca, rfl⟩ := h.len
  obtain ⟨n, hn⟩ : ∃ q, q = l.length := ⟨_, rfl⟩
  rw [← hn] at h ⊢
  have HN := Lib.hid hn
  have HL := Lib.hid h
  have HM := Lib.hid hm
  have HX := Lib.hid hx
  have S0 : Hid (SetAt (w.alloc (.cells #[.slice none 0 0] 62)) w.heap.size w.heap.size none []) := Lib.hid ⟨Nat.le_refl _, (fun _ h => by cases h), none, 0, Blk.new _ _ _, Sl.nil _ _ _ _ _, rfl⟩
  have B0 := Lib.hid ((Below.refl w.heap.size w).alloc (Nat.le_refl _) (.cells #[.slice none 0 0] 62))
  clear hn h hm hx
  go_enter Tryd.func35, Tryd.ntmps35
  go_upto_region 2 with fail
  generalize w.alloc (.cells #[.slice none 0 0] 62) = w0 at S0 B0 ⊢
  go_wp2_with fail
  go_loopw [14] (fun z wr => ∃ (i : Nat) (o : Option Nat) (ws : List Nat), i ≤ n ∧ z = .int .i64 (i : Int) ∧ Hid (ws = numF idx kind (l.take i) []) ∧ Hid (SetAt wr w.heap.size w.heap.size o ws) ∧ Hid (Below w.heap.size w wr)) (fun z _ => n - (intOf z).toNat)
  case atStart => exact ⟨0, none, [], Nat.zero_le _, rfl, Lib.hid rfl, S0, B0⟩
  case round =>
    obtain ⟨i, o, ws, hi, rfl, HW, HS, HB⟩ := hrel
    clear S0 B0
    by_cases hlt : i < n
    · have hlti : (i : Int) < (n : Int) := by omega
      obtain ⟨b, q, rfl, hb, hc⟩ := HL.out.get (by rw [← HN.out]; omega)
      have hil : i < l.length := by rw [← HN.out]; exact hlt
      have k0 := hc i 0 hil (by omega)
      have k1 := hc i 1 hil (by omega)
      have ES := Lib.hid (List.take_succ_eq_append_getElem hil)
      have hmem := List.getElem_mem hil
      obtain ⟨a, ha⟩ : ∃ a, a = l[i] := ⟨_, rfl⟩
      rw [← ha] at k0 k1 ES hmem
      have HXA := Lib.hid (HX.out a hmem)
      obtain ⟨ak, an⟩ := a
      simp only [arC, List.getElem?_cons_zero, List.getElem?_cons_succ, Nat.add_zero] at k0 k1
      have k0' := (HB.out.cell (p := ⟨b, _, none⟩) hb).trans k0
      have k1' := (HB.out.cell (p := ⟨b, _, none⟩) hb).trans k1
      have BA : Hid (Below wr.heap.size wr (wr.alloc (.cells #[.int .i64 ak, .int .i64 an] 38))) := Lib.hid ((Below.refl _ wr).alloc (Nat.le_refl _) _)
      have XA := Lib.hid (Blk.new wr 38 #[.int .i64 ak, .int .i64 an])
      have hws := HB.out.size
      clear k0 k1 ha hc hmem
      go_upto_region 5 with fail
      generalize wr.alloc (.cells #[.int .i64 ak, .int .i64 an] 38) = w1 at BA XA ⊢
      have c0 : w1.cell? ⟨wr.heap.size, 0, none⟩ = some (.int .i64 ak) := XA.out.cell 0
      have c1 : w1.cell? ⟨wr.heap.size, 1, none⟩ = some (.int .i64 an) := XA.out.cell 1
      have S1 := Lib.hid (HS.out.below BA.out (Nat.le_refl _))
      have B1 := Lib.hid (HB.out.trans (BA.out.mono hws))
      have hw1 := B1.out.size
      clear BA XA HS HB
      by_cases hak : ak = kind
      · subst hak
        have HM1 : MapAt w1 mb kyV ixV idx := HM.out.of_heap (B1.out.block mb HM.out.lt)
        have hlk := look57 HM1 an
        obtain ⟨k, hk⟩ : ∃ k, k = ixF idx an := ⟨_, rfl⟩
        rw [← hk] at hlk
        have hkb : k ≤ 60000000000 := by rw [hk]; exact HXA.out
        have HNW : Hid (bitF ws (k / 64) (k % 64) = numF idx ak (l.take (i + 1)) []) := Lib.hid (by rw [ES.out, numF_append, ← HW.out]; simp [numF, hk])
        clear hk HM1
        go_wp2_with fail
        refine (add58' w.heap.size w.heap.size o ws k w1 S1.out hkb hw1).mono ?_
        rintro e w2 ⟨rfl, o2, s2, _, on2⟩
        have S2 := Lib.hid s2
        have B2 := Lib.hid (B1.out.trans (on2.below (fun r hr => (S1.out.lo r hr).1) hw1))
        clear s2 on2 S1 B1
        go_wp2_with fail
        go_roundw
        case rel => exact ⟨i + 1, o2, _, by omega, by go_num, HNW, S2, B2⟩
        case measure => simp [intOf]; omega
      · have dn := i64_bne ak kind hak
        have dn2 : (ak == kind) = false := by rw [beq_eq_false_iff_ne]; exact hak
        have HNW : Hid (ws = numF idx kind (l.take (i + 1)) []) := Lib.hid (by rw [ES.out, numF_append, ← HW.out]; simp [numF, hak])
        clear hak
        go_wp2_with fail
        go_roundw
        case rel => exact ⟨i + 1, o, ws, by omega, by go_num, HNW, S1, B1⟩
        case measure => simp [intOf]; omega
    · have hlti : ¬ (i : Int) < (n : Int) := by omega
      obtain rfl : i = n := by omega
      have HWN : Hid (ws = numF idx kind l []) := Lib.hid (by rw [HW.out, List.take_of_length_le (by rw [← HN.out]; exact Nat.le_refl _)])
      clear hlt
      go_wp2_with fail
      go_ret
      exact ⟨HB.out, _, o, rfl, by rw [← HWN.out]; exact HS.out⟩
end Go.Proofs.YtekfnonjhcfdmaaDoor
