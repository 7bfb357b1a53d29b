/- Plain: a side of a handshake, and what it does with a message and with an answer. No program in sight but for the functions on byte strings. names.Valid and the reference's Name: both answer nameF. valid of both sides. -/
import Derived.Test.YtnkkbkceapcahaaDoorNum1
import Derived.Test.YtnkkbkceapcahaaDoorMac1
import Derived.Laws.RangeAny
import Derived.Lib.OthersKept
import Derived.LoopTactic
import Derived.WalkSmall
namespace Go.Proofs.YtnkkbkceapcahaaDoor

/-- A node and its incarnation. -/
structure Pr where
  name : ByteArray
  gen : Nat
/-- A side. -/
structure Sd where
  self : Pr
  other : Pr
  want : ByteArray
  cookie : ByteArray
  chal : Nat
  their : Nat
  dials : Bool
  sent : Bool
  state : Nat

def seqB (a b : ByteArray) : Bool := a.toList == b.toList
def low (c : Nat) : Bool := decide (97 ≤ c) && decide (c ≤ 122)
def oth (c : Nat) : Bool := (decide (65 ≤ c) && decide (c ≤ 90)) || (decide (48 ≤ c) && decide (c ≤ 57)) || c == 95 || c == 64
def atB (s : ByteArray) (i : Nat) : Nat := (s.data.getD i 0).toNat
def okAt (s : ByteArray) (i : Nat) : Bool := low (atB s i) || (decide (0 < i) && oth (atB s i))
def nameF (s : ByteArray) : Bool := decide (0 < s.size) && decide (s.size ≤ 32) && (List.range s.size).all (okAt s)
def genB (n : Nat) : Bool := decide (1 ≤ n) && decide (n ≤ 2147483647)
def validF (p : Pr) : Bool := nameF p.name && genB p.gen
def encF (p : Pr) : ByteArray := lenF p.name ++ numF p.gen 4
def macS (cookie b : ByteArray) : ByteArray := toBytes (macF cookie b)
theorem macS_size (c b : ByteArray) : (macS c b).size = 32 := by unfold macS macF; rw [toBytes_size, sumF_len]
def proofF (letter : ByteArray) (own other : Pr) (cookie : ByteArray) (theirs ours : Nat) : ByteArray :=
  macS cookie (letter ++ encF own ++ encF other ++ numF theirs 8 ++ numF ours 8)
def letD : ByteArray := ⟨#[68]⟩
def letL : ByteArray := ⟨#[76]⟩
def helloC : ByteArray := ⟨#[1, 1]⟩
def offerC : ByteArray := ⟨#[2, 1]⟩
def busyC : ByteArray := ⟨#[2, 2]⟩
def staleC : ByteArray := ⟨#[2, 3]⟩
def replyC : ByteArray := ⟨#[3]⟩
def ackC : ByteArray := ⟨#[4]⟩
def statusC : ByteArray := ⟨#[2]⟩
def helloF (self : Pr) (want : ByteArray) : ByteArray := helloC ++ encF self ++ lenF want

/-- A valid peer at the beginning of a string, and what follows it. -/
def readPF (b : ByteArray) : Option (Pr × ByteArray) :=
  if b.size = 0 ∨ b.size < 5 + atB b 0 then none
  else
    let n := atB b 0
    let p : Pr := ⟨b.extract 1 (1 + n), valF (b.extract (1 + n) (5 + n)) 4⟩
    if validF p then some (p, b.extract (5 + n) b.size) else none
/-- A hello. -/
def readHF (b : ByteArray) : Option (Pr × ByteArray) :=
  if b.size < 2 ∨ seqB (b.extract 0 2) helloC = false then none
  else match readPF (b.extract 2 b.size) with
    | none => none
    | some (p, r) => if r.size = 0 ∨ r.size ≠ 1 + atB r 0 ∨ nameF (r.extract 1 r.size) = false then none else some (p, r.extract 1 r.size)

abbrev Res := Sd × ByteArray × Nat
def failS (s : Sd) (e : Nat) : Res := ({ s with state := 4 }, ⟨#[]⟩, e)
def greetF (s : Sd) (b : ByteArray) : Res :=
  match readHF b with
  | none => failS s 6
  | some (p, want) => if seqB want s.self.name = false ∨ seqB p.name s.self.name = true then failS s 351 else ({ s with other := p, state := 2 }, ⟨#[]⟩, 0)
def offerF (s : Sd) (b : ByteArray) : Res :=
  if seqB b busyC = true ∨ seqB b staleC = true then failS s 351
  else if b.size < 2 ∨ seqB (b.extract 0 2) offerC = false then failS s 6
  else match readPF (b.extract 2 b.size) with
    | none => failS s 6
    | some (p, r) =>
      if r.size ≠ 8 then failS s 6
      else if seqB p.name s.want = false then failS s 351
      else ({ s with other := p, their := valF r 8, sent := true }, replyC ++ numF s.chal 8 ++ proofF letD s.self p s.cookie (valF r 8) s.chal, 0)
def replyF (s : Sd) (b : ByteArray) : Res :=
  if b.size ≠ 41 ∨ atB b 0 ≠ 3 then failS s 6
  else
    let t := valF (b.extract 1 9) 8
    if seqB (b.extract 9 41) (proofF letD s.other s.self s.cookie s.chal t) = false then failS { s with their := t } 350
    else ({ s with their := t, state := 3 }, ackC ++ proofF letL s.self s.other s.cookie t s.chal, 0)
def ackF (s : Sd) (b : ByteArray) : Res :=
  if b.size ≠ 33 ∨ atB b 0 ≠ 4 then failS s 6
  else if seqB (b.extract 1 33) (proofF letL s.other s.self s.cookie s.chal s.their) = false then failS s 350
  else ({ s with state := 3 }, ⟨#[]⟩, 0)
def moveF (s : Sd) (b : ByteArray) : Res :=
  if s.dials then (if s.sent then ackF s b else offerF s b) else (if s.sent then replyF s b else greetF s b)
def takeF (s : Sd) (b : ByteArray) : Res := if s.state ≠ 1 then (s, ⟨#[]⟩, 2) else moveF s b
def answerF (s : Sd) (how : Int) : Res :=
  if s.state ≠ 2 ∨ how < 1 ∨ 3 < how then (s, ⟨#[]⟩, 2)
  else if how ≠ 1 then ({ s with state := 4 }, statusC ++ numF how.toNat 1, 0)
  else ({ s with state := 1, sent := true }, offerC ++ encF s.self ++ numF s.chal 8, 0)
def dialS (self : Pr) (want cookie : ByteArray) (chal : Nat) : Sd := ⟨self, ⟨⟨#[]⟩, 0⟩, want, cookie, chal, 0, true, false, 1⟩
def listenS (self : Pr) (cookie : ByteArray) (chal : Nat) : Sd := ⟨self, ⟨⟨#[]⟩, 0⟩, ⟨#[]⟩, cookie, chal, 0, false, false, 1⟩
end Go.Proofs.YtnkkbkceapcahaaDoor
namespace Go.Proofs.YtnkkbkceapcahaaDoor
open Go.RowKit Go.Rt

theorem atB_get (s : ByteArray) (i : Nat) (h : i < s.size) : atB s i = s[i].toNat := by
  have hd : i < s.data.size := h
  unfold atB Array.getD
  rw [dif_pos hd]
  rfl
theorem nameF_no (s : ByteArray) (i : Nat) (h : i < s.size) (hf : okAt s i = false) : nameF s = false := by
  unfold nameF
  cases hh : (List.range s.size).all (okAt s) with
  | false => simp
  | true => rw [List.all_eq_true] at hh; rw [hh i (List.mem_range.2 h)] at hf; cases hf
theorem nameF_yes (s : ByteArray) (h0 : 0 < s.size) (h1 : s.size ≤ 32) (h : ∀ i, i < s.size → okAt s i = true) : nameF s = true := by
  unfold nameF
  rw [decide_eq_true h0, decide_eq_true h1]
  simp only [Bool.and_true, Bool.true_and, List.all_eq_true]
  intro i hi
  exact h i (List.mem_range.1 hi)
theorem nameF_size (s : ByteArray) (h : nameF s = true) : 0 < s.size ∧ s.size ≤ 32 := by
  unfold nameF at h
  simp only [Bool.and_eq_true, decide_eq_true_eq] at h
  exact h.1
theorem ret_bool {a b : Bool} (h : a = b) : Ending.returned (.bool a) = .returned (.bool b) := by rw [h]

set_option maxRecDepth 100000 in
set_option maxHeartbeats 1000000 in
theorem nameV_any (s : ByteArray) (w : World) :
    Calls Tryd.prog 33 #[.string s] w fun e w' => e = .returned (.bool (nameF s)) ∧ Below w.heap.size w w' := by
  have RN := Lib.hid (fun i (h : i < s.size) => nameF_no s i h)
  have RY := Lib.hid (nameF_yes s)
  have RS := Lib.hid (nameF_size s)
  obtain ⟨r, hr⟩ : ∃ r, r = nameF s := ⟨_, rfl⟩
  rw [← hr] at RN RY RS ⊢
  clear hr
  by_cases h0 : s.size = 0
  · have hs : s.toList = [] := by
      have : s = ByteArray.mk #[] := ByteArray.ext (Array.eq_empty_of_size_eq_zero h0)
      subst this; simp
    have hs2 : s.toList.isEmpty = true := by rw [hs]; rfl
    obtain rfl : r = false := by
      cases r with
      | false => rfl
      | true => have := (RS.out rfl).1; omega
    go_enter Tryd.func33, Tryd.ntmps33
    go_wp2
    go_ret
    exact ⟨rfl, Below.refl _ _⟩
  · have hs : ¬ s.toList = [] := by
      intro h
      have h2 : s.toList.length = 0 := by rw [h]; rfl
      rw [ByteArray.toList_eq] at h2
      exact h0 h2
    have hs2 : s.toList.isEmpty = false := by rw [List.isEmpty_eq_false_iff]; exact hs
    by_cases h1 : s.size ≤ 32
    · have h1' : ¬ (32 : Int) < s.size := by omega
      go_enter Tryd.func33, Tryd.ntmps33
      go_wp2
      have hi0 := World.iter_heap w s 0
      have HI := Lib.hid hi0
      clear hi0
      go_loopw [3, 4, 18, 25] (fun _ _ _ _ wr => ∃ pos : Nat, pos ≤ s.size ∧ wr.heap[w.heap.size]? = some (.stringIter s pos) ∧ Below w.heap.size w wr ∧ Hid (∀ i, i < pos → okAt s i = true)) (fun _ _ _ _ wr => s.size - wr.iterPos w.heap.size)
      case atStart => exact ⟨0, Nat.zero_le _, HI.out, (Below.refl _ _).alloc (Nat.le_refl _) _, Lib.hid (fun i hi => by omega)⟩
      case round =>
        obtain ⟨pos, hps, hit, hbw, HO⟩ := hrel
        have hpos0 := iterPos_of hit
        by_cases hp : pos < s.size
        · have hne := RN.out pos hp
          have hst := fun (h : okAt s pos = true) => (fun i (hi : i < pos + 1) => (by rcases Nat.lt_succ_iff_lt_or_eq.1 hi with q | q; exact HO.out i q; rw [q]; exact h : okAt s i = true))
          have HST := Lib.hid hst
          have HNE := Lib.hid hne
          clear hst hne RN
          by_cases hasc : s[pos].toNat < 128
          · have hnx := fun ty => Lib.run_next_ascii_at (P := Tryd.prog) wr w.heap.size s pos ty hit hp hasc
            have hit2 := Lib.iterAt_heap wr w.heap.size s pos (pos + 1) hit
            have hbw2 := Lib.below_iterAt hbw (k := w.heap.size) (Nat.le_refl _) s (pos + 1)
            obtain ⟨W1, hW1⟩ : ∃ W1, W1 = wr.iterAt w.heap.size s (pos + 1) := ⟨_, rfl⟩
            rw [← hW1] at hnx hit2 hbw2
            have HIT := Lib.hid hit2
            have HBW := Lib.hid hbw2
            have hat := atB_get s pos hp
            obtain ⟨c, hc⟩ : ∃ c, c = s[pos].toNat := ⟨_, rfl⟩
            rw [← hc] at hat hnx hasc
            have HAT := Lib.hid hat
            have HP0 := Lib.hid hpos0
            clear hit2 hbw2 hW1 hit hbw hat hc hpos0
            cases hok : okAt s pos with
            | true =>
              have hh := HST.out hok
              have hh2 := Lib.hid hh
              unfold okAt low oth at hok
              rw [HAT.out] at hok
              clear hh
              simp only [Bool.or_eq_true, Bool.and_eq_true, decide_eq_true_eq, beq_iff_eq] at hok
              have HOK := Lib.hid hok
              clear hok
              go_wp2
              all_goals first
                | (go_roundw
                   case rel => exact ⟨pos + 1, by omega, HIT.out, HBW.out, hh2⟩
                   case measure => rw [iterPos_of HIT.out, HP0.out]; omega)
                | (exfalso
                   have hk := HOK.out
                   clear hnx
                   try simp only [beq_eq_false_iff_ne, ne_eq] at *
                   omega)
            | false =>
              obtain rfl := HNE.out hok
              unfold okAt low oth at hok
              rw [HAT.out] at hok
              simp only [Bool.or_eq_false_iff, Bool.and_eq_false_iff, decide_eq_false_iff_not, beq_eq_false_iff_ne] at hok
              have HOK := Lib.hid hok
              clear hok
              go_wp2
              all_goals first
                | (go_ret
                   exact ⟨rfl, HBW.out⟩)
                | (exfalso
                   have hk := HOK.out
                   clear hnx
                   try simp only [ne_eq, beq_iff_eq] at *
                   omega)
          · have hnx := fun ty => Lib.run_next_any_at (P := Tryd.prog) wr w.heap.size s pos ty hit hp
            have hhi := (decode_high s pos hp (by omega)).1
            have hhi2 := decode_le s pos
            have hbw2 := Lib.below_iterAt hbw (k := w.heap.size) (Nat.le_refl _) s (pos + (Utf8.decode s pos).2)
            obtain ⟨W1, hW1⟩ : ∃ W1, W1 = wr.iterAt w.heap.size s (pos + (Utf8.decode s pos).2) := ⟨_, rfl⟩
            rw [← hW1] at hnx hbw2
            obtain ⟨c, hc⟩ : ∃ c, c = (Utf8.decode s pos).1 := ⟨_, rfl⟩
            rw [← hc] at hnx hhi hhi2
            have HBW := Lib.hid hbw2
            have hat := atB_get s pos hp
            have hno : okAt s pos = false := by
              unfold okAt low oth
              rw [hat]
              simp only [Bool.or_eq_false_iff, Bool.and_eq_false_iff, decide_eq_false_iff_not, beq_eq_false_iff_ne]
              omega
            obtain rfl := HNE.out hno
            clear hbw2 hW1 hc hat hno hit hbw
            go_wp2
            all_goals first
              | (go_ret
                 exact ⟨rfl, HBW.out⟩)
              | (exfalso
                 clear hnx
                 try simp only [beq_iff_eq] at *
                 omega)
        · have hnx := fun ty => Lib.run_next_end_at (P := Tryd.prog) wr w.heap.size s pos ty hit hp
          have HBW := Lib.hid hbw
          obtain rfl : r = true := RY.out (by omega) h1 (fun i hi => HO.out i (by omega))
          clear hit hbw
          go_wp2
          go_ret
          exact ⟨rfl, HBW.out⟩
    · have h1' : (32 : Int) < s.size := by omega
      obtain rfl : r = false := by
        cases r with
        | false => rfl
        | true => have := (RS.out rfl).2; omega
      go_enter Tryd.func33, Tryd.ntmps33
      go_wp2
      go_ret
      exact ⟨rfl, Below.refl _ _⟩

set_option maxRecDepth 100000 in
set_option maxHeartbeats 1000000 in
theorem nameR_any (s : ByteArray) (w : World) :
    Calls Tryd.prog 42 #[.string s] w fun e w' => e = .returned (.bool (nameF s)) ∧ w = w' := by
  have RN := Lib.hid (fun i (h : i < s.size) => nameF_no s i h)
  have RY := Lib.hid (nameF_yes s)
  have RS := Lib.hid (nameF_size s)
  obtain ⟨r, hr⟩ : ∃ r, r = nameF s := ⟨_, rfl⟩
  rw [← hr] at RN RY RS ⊢
  clear hr
  by_cases h0 : s.size = 0
  · obtain rfl : r = false := by
      cases r with
      | false => rfl
      | true => have := (RS.out rfl).1; omega
    have h0' : (s.size : Int) < 1 := by omega
    clear RN RY
    go_enter Tryd.func42, Tryd.ntmps42
    go_wp2
    go_ret
    exact ⟨rfl, rfl⟩
  · by_cases h1 : s.size ≤ 32
    · have h1' : ¬ (32 : Int) < s.size := by omega
      have h0' : 0 < s.size := by omega
      have hat := atB_get s 0 h0'
      have hc0 : s[0].toNat < 256 := s[0].toNat_lt
      have hne0 := RN.out 0 h0'
      by_cases hl : 97 ≤ s[0].toNat ∧ s[0].toNat ≤ 122
      · obtain ⟨hl1, hl2⟩ := hl
        have hok0 : okAt s 0 = true := by
          unfold okAt low
          rw [hat]
          simp [hl1, hl2]
        have HOK0 := Lib.hid hok0
        clear hok0 hat hne0
        go_enter Tryd.func42, Tryd.ntmps42
        go_wp2
        go_loop [3, 4, 5] (fun i _ _ => ∃ k : Nat, 1 ≤ k ∧ k ≤ s.size ∧ i = .int .i64 k ∧ Hid (∀ j, j < k → okAt s j = true)) (fun i _ _ => s.size - (intOf i).toNat)
        case atStart => exact ⟨1, by omega, by omega, rfl, Lib.hid (fun j hj => by obtain rfl : j = 0 := (by omega); exact HOK0.out)⟩
        case round =>
          obtain ⟨k, hk1, hk, rfl, HO⟩ := hrel
          by_cases hlt : k < s.size
          · have hne := RN.out k hlt
            have hst := fun (h : okAt s k = true) => (fun i (hi : i < k + 1) => (by rcases Nat.lt_succ_iff_lt_or_eq.1 hi with q | q; exact HO.out i q; rw [q]; exact h : okAt s i = true))
            have HST := Lib.hid hst
            have HNE := Lib.hid hne
            have hat := atB_get s k hlt
            have hcl : s[k].toNat < 256 := s[k].toNat_lt
            have HAT := Lib.hid hat
            clear hst hne RN hat
            cases hok : okAt s k with
            | true =>
              have hh2 := Lib.hid (HST.out hok)
              unfold okAt low oth at hok
              rw [HAT.out] at hok
              simp only [Bool.or_eq_true, Bool.and_eq_true, decide_eq_true_eq, beq_iff_eq] at hok
              have HOK := Lib.hid hok
              clear hok
              go_wp2
              all_goals first
                | (go_round
                   case rel => exact ⟨k + 1, by omega, by omega, by go_num, hh2⟩
                   case measure => simp [intOf]; omega)
                | (exfalso
                   have hk := HOK.out
                   try simp only [ne_eq, bne_iff_ne, Bool.not_eq_true', decide_eq_false_iff_not] at *
                   omega)
            | false =>
              obtain rfl := HNE.out hok
              unfold okAt low oth at hok
              rw [HAT.out] at hok
              simp only [Bool.or_eq_false_iff, Bool.and_eq_false_iff, decide_eq_false_iff_not, beq_eq_false_iff_ne] at hok
              have HOK := Lib.hid hok
              clear hok
              go_wp2
              all_goals first
                | (go_ret
                   exact ⟨rfl, rfl⟩)
                | (exfalso
                   have hk := HOK.out
                   try simp only [ne_eq, bne_eq_false_iff_eq, Bool.not_eq_false', decide_eq_true_eq] at *
                   omega)
          · obtain rfl : r = true := RY.out (by omega) h1 (fun i hi => HO.out i (by omega))
            go_wp2
            go_ret
            exact ⟨rfl, rfl⟩
      · have hok0 : okAt s 0 = false := by
          unfold okAt low
          rw [hat]
          simp
          omega
        obtain rfl := hne0 hok0
        clear hat hne0 hok0 RN RY
        by_cases hq : s[0].toNat < 97
        · go_enter Tryd.func42, Tryd.ntmps42
          go_wp2
          go_ret
          exact ⟨rfl, rfl⟩
        · have hq2 : 122 < s[0].toNat := by omega
          clear hl
          go_enter Tryd.func42, Tryd.ntmps42
          go_wp2
          go_ret
          exact ⟨rfl, rfl⟩
    · have h1' : (32 : Int) < s.size := by omega
      have h0' : ¬ (s.size : Int) < 1 := by omega
      obtain rfl : r = false := by
        cases r with
        | false => rfl
        | true => have := (RS.out rfl).2; omega
      clear RN RY
      go_enter Tryd.func42, Tryd.ntmps42
      go_wp2
      go_ret
      exact ⟨rfl, rfl⟩
end Go.Proofs.YtnkkbkceapcahaaDoor
namespace Go.Proofs.YtnkkbkceapcahaaDoor
open Go.RowKit Go.Rt

/-- Old cells and marks behind a call. -/
theorem bcell {W w1 : World} {B : Nat} (hb : Below B W w1) : (∀ b o, b < B → w1.cell? ⟨b, o, none⟩ = W.cell? ⟨b, o, none⟩) ∧ (∀ b o, b < B → w1.frozen? ⟨b, o, none⟩ = W.frozen? ⟨b, o, none⟩) :=
  ⟨fun b o h => hb.cell (p := ⟨b, o, none⟩) h, fun b o h => hb.frozen (p := ⟨b, o, none⟩) h⟩
def genI (g : Int) : Bool := decide (1 ≤ g) && decide (g ≤ 2147483647)
def prV (n : ByteArray) (g : Int) : Value := .agg #[.string n, .int .i64 g]
theorem genB_I (n : Nat) : genB n = genI n := by
  unfold genB genI
  rw [Bool.eq_iff_iff]
  simp only [Bool.and_eq_true, decide_eq_true_eq]
  omega
set_option maxHeartbeats 400000 in
theorem validV_any (n : ByteArray) (g : Int) (w : World) :
    Calls Tryd.prog 32 #[.agg #[.string n, .int .i64 g]] w fun e w' => e = .returned (.bool (nameF n && genI g)) ∧ Below w.heap.size w w' := by
  have C := Lib.hid (fun W => nameV_any n W)
  obtain ⟨r, hr⟩ : ∃ r, r = nameF n := ⟨_, rfl⟩
  rw [← hr] at C ⊢
  clear hr
  have B0 : Hid (∀ W' o, Below (w.alloc o).heap.size (w.alloc o) W' → Below w.heap.size w W') := Lib.hid (fun W' o h => ((Below.refl w.heap.size w).alloc (Nat.le_refl _) o).trans (h.mono (by simp)))
  cases r with
  | false =>
    rw [Bool.false_and]
    go_enter Tryd.func32, Tryd.ntmps32
    go_wp2_with (go_at_call 33; refine (C.out _).mono ?_; rintro e w1 ⟨rfl, b1⟩; have B1 := Lib.hid b1; clear b1)
    go_ret
    exact ⟨rfl, B0.out _ _ B1.out⟩
  | true =>
    rw [Bool.true_and]
    by_cases h1 : 1 ≤ g
    · by_cases h2 : g ≤ 2147483647
      · have hg : genI g = true := by simp [genI, h1, h2]
        rw [hg]
        go_enter Tryd.func32, Tryd.ntmps32
        go_wp2_with (go_at_call 33; refine (C.out _).mono ?_; rintro e w1 ⟨rfl, b1⟩; obtain ⟨hc, hf⟩ := bcell b1; have B1 := Lib.hid b1; clear b1)
        go_ret
        exact ⟨rfl, B0.out _ _ B1.out⟩
      · have hg : genI g = false := by simp [genI, h1, h2]
        have hd : decide (g ≤ 2147483647) = false := decide_eq_false h2
        rw [hg]
        go_enter Tryd.func32, Tryd.ntmps32
        go_wp2_with (go_at_call 33; refine (C.out _).mono ?_; rintro e w1 ⟨rfl, b1⟩; obtain ⟨hc, hf⟩ := bcell b1; have B1 := Lib.hid b1; clear b1)
        go_ret
        exact ⟨rfl, B0.out _ _ B1.out⟩
    · have hg : genI g = false := by simp [genI, h1]
      rw [hg]
      go_enter Tryd.func32, Tryd.ntmps32
      go_wp2_with (go_at_call 33; refine (C.out _).mono ?_; rintro e w1 ⟨rfl, b1⟩; obtain ⟨hc, hf⟩ := bcell b1; have B1 := Lib.hid b1; clear b1)
      go_ret
      exact ⟨rfl, B0.out _ _ B1.out⟩
set_option maxHeartbeats 400000 in
theorem validR_any (n : ByteArray) (g : Int) (w : World) :
    Calls Tryd.prog 41 #[.agg #[.string n, .int .i64 g]] w fun e w' => e = .returned (.bool (nameF n && genI g)) ∧ Below w.heap.size w w' := by
  have C := Lib.hid (fun W => nameR_any n W)
  obtain ⟨r, hr⟩ : ∃ r, r = nameF n := ⟨_, rfl⟩
  rw [← hr] at C ⊢
  clear hr
  have B0 : Hid (∀ W' o, Below (w.alloc o).heap.size (w.alloc o) W' → Below w.heap.size w W') := Lib.hid (fun W' o h => ((Below.refl w.heap.size w).alloc (Nat.le_refl _) o).trans (h.mono (by simp)))
  cases r with
  | false =>
    rw [Bool.false_and]
    go_enter Tryd.func41, Tryd.ntmps41
    go_wp2_with (go_at_call 42; refine (C.out _).mono ?_; rintro e w1 ⟨rfl, rfl⟩)
    go_ret
    exact ⟨rfl, B0.out _ _ (Below.refl _ _)⟩
  | true =>
    rw [Bool.true_and]
    by_cases h1 : 1 ≤ g
    · by_cases h2 : g ≤ 2147483647
      · have hg : genI g = true := by simp [genI, h1, h2]
        rw [hg]
        go_enter Tryd.func41, Tryd.ntmps41
        go_wp2_with (go_at_call 42; refine (C.out _).mono ?_; rintro e w1 ⟨rfl, rfl⟩)
        go_ret
        exact ⟨rfl, B0.out _ _ (Below.refl _ _)⟩
      · have hg : genI g = false := by simp [genI, h1, h2]
        have hd : decide (g ≤ 2147483647) = false := decide_eq_false h2
        rw [hg]
        go_enter Tryd.func41, Tryd.ntmps41
        go_wp2_with (go_at_call 42; refine (C.out _).mono ?_; rintro e w1 ⟨rfl, rfl⟩)
        go_ret
        exact ⟨rfl, B0.out _ _ (Below.refl _ _)⟩
    · have hg : genI g = false := by simp [genI, h1]
      rw [hg]
      go_enter Tryd.func41, Tryd.ntmps41
      go_wp2_with (go_at_call 42; refine (C.out _).mono ?_; rintro e w1 ⟨rfl, rfl⟩)
      go_ret
      exact ⟨rfl, B0.out _ _ (Below.refl _ _)⟩
end Go.Proofs.YtnkkbkceapcahaaDoor
