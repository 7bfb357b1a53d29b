/- The reader's plain parser; (*reader).large. -/
import Derived.Test.YtoaimoemaoinhaaGreatDoorRd
namespace Go.Proofs.YtoaimoemaoinhaaGreatDoor
open Go.RowKit Go.Rt Go.Rw

/-- A number whose lowest byte comes first. -/
def leN : List UInt8 → Nat
  | [] => 0
  | c :: t => c.toNat + 256 * leN t
def lastZ (b : List UInt8) : Bool := decide ((b.getD (b.length - 1) 0).toNat = 0)
/-- An integer of its own sign and length. -/
def largeP (r : List UInt8) : Option (Int × List UInt8) :=
  match numP r 1 with
  | none => none
  | some (n, r1) => match numP r1 1 with
    | none => none
    | some (sg, r2) => if 4 ≤ n ∧ n ≤ 8 ∧ sg ≤ 1 then (match takeL r2 n with
      | none => none
      | some (b, r3) => if lastZ b then none else if sg = 1 then (if leN b ≤ 9223372036854775808 ∧ 2147483648 < leN b then some (-(leN b : Int), r3) else none)
        else (if leN b < 9223372036854775808 ∧ 2147483648 ≤ leN b then some ((leN b : Int), r3) else none)) else none
def bA (l : List UInt8) : ByteArray := ⟨l.toArray⟩
def intT (n : Int) : Tm := .mk ⟨1, n, 0, noB, noB, 0, noB, 0⟩ []
def toI32 (n : Nat) : Int := if n < 2147483648 then n else (n : Int) - 4294967296
abbrev Pr (α : Type) := Option (α × Nat × List UInt8)
/-- So many terms. -/
def itemsP (T : Nat → List UInt8 → Pr Tm) : Nat → Nat → List UInt8 → Pr (List Tm)
  | 0, p, r => some ([], p, r)
  | n + 1, p, r => match T p r with
    | none => none
    | some (t, p1, r1) => match itemsP T n p1 r1 with
      | none => none
      | some (ts, p2, r2) => some (t :: ts, p2, r2)
def itemsQ (T : Nat → List UInt8 → Pr Tm) (n p : Nat) (r : List UInt8) : Pr (List Tm) := if n ≤ 2000 then itemsP T n p r else none
def p97 (p : Nat) (r : List UInt8) : Pr Tm := match numP r 1 with
  | none => none
  | some (n, r1) => some (intT n, p, r1)
def p98 (p : Nat) (r : List UInt8) : Pr Tm := match numP r 4 with
  | none => none
  | some (n, r1) => if toI32 n < 0 ∨ 255 < toI32 n then some (intT (toI32 n), p, r1) else none
def p110 (p : Nat) (r : List UInt8) : Pr Tm := match largeP r with
  | none => none
  | some (n, r1) => some (intT n, p, r1)
def p119 (p : Nat) (r : List UInt8) : Pr Tm := match numP r 1 with
  | none => none
  | some (n, r1) => match takeL r1 n with
    | none => none
    | some (a, r2) => some (.mk ⟨2, 0, 0, bA a, noB, 0, noB, 0⟩ [], p, r2)
def p104 (T : Nat → List UInt8 → Pr Tm) (p : Nat) (r : List UInt8) : Pr Tm := match numP r 1 with
  | none => none
  | some (n, r1) => match itemsQ T n p r1 with
    | none => none
    | some (ts, p2, r2) => some (.mk ⟨7, 0, 0, noB, noB, 0, noB, 0⟩ ts, p2, r2)
def p106 (p : Nat) (r : List UInt8) : Pr Tm := some (.mk ⟨8, 0, 0, noB, noB, 0, noB, 0⟩ [], p, r)
def p108 (T : Nat → List UInt8 → Pr Tm) (p : Nat) (r : List UInt8) : Pr Tm := match numP r 4 with
  | none => none
  | some (n, r1) => match itemsQ T (n + 1) p r1 with
    | none => none
    | some (ts, p2, r2) => some (.mk ⟨9, 0, 0, noB, noB, 0, noB, 0⟩ ts, p2, r2)
def p109 (p : Nat) (r : List UInt8) : Pr Tm := match numP r 4 with
  | none => none
  | some (n, r1) => match takeL r1 n with
    | none => none
    | some (a, r2) => some (.mk ⟨10, 0, 0, noB, noB, 0, bA a, 8 * (a.length : Int)⟩ [], p, r2)
def p77 (p : Nat) (r : List UInt8) : Pr Tm := match numP r 4 with
  | none => none
  | some (n, r1) => match numP r1 1 with
    | none => none
    | some (k, r2) => if 0 < n ∧ 0 < k ∧ k < 8 then (match takeL r2 n with
      | none => none
      | some (a, r3) => some (.mk ⟨10, 0, 0, noB, noB, 0, bA a, 8 * ((n : Int) - 1) + k⟩ [], p, r3)) else none
def p88 (p : Nat) (r : List UInt8) : Pr Tm := match nameP r with
  | none => none
  | some (a, r1) => match numP r1 4 with
    | none => none
    | some (n, r2) => match numP r2 4 with
      | none => none
      | some (z, r3) => if z = 0 then (match numP r3 4 with
        | none => none
        | some (g, r4) => some (.mk ⟨6, n, g, bA a, noB, 0, noB, 0⟩ [], p, r4)) else none
def p90 (p : Nat) (r : List UInt8) : Pr Tm := match numP r 2 with
  | none => none
  | some (z, r1) => if z = 1 then (match nameP r1 with
    | none => none
    | some (a, r2) => match numP r2 4 with
      | none => none
      | some (g, r3) => match numP r3 4 with
        | none => none
        | some (n, r4) => some (.mk ⟨3, n, g, bA a, noB, 0, noB, 0⟩ [], p, r4)) else none
def p113 (p : Nat) (r : List UInt8) : Pr Tm := match nameP r with
  | none => none
  | some (a, r1) => match nameP r1 with
    | none => none
    | some (f, r2) => match numP r2 1 with
      | none => none
      | some (z, r3) => if z = 97 then (match numP r3 1 with
        | none => none
        | some (k, r4) => some (.mk ⟨5, 0, 0, bA a, bA f, k, noB, 0⟩ [], p, r4)) else none
def p112 (T : Nat → List UInt8 → Pr Tm) (p : Nat) (r : List UInt8) : Pr Tm := match numP r 1 with
  | none => none
  | some (k, r1) => match numP r1 2 with
    | none => none
    | some (n, r2) => match numP r2 1 with
      | none => none
      | some (c, r3) => match nameP r3 with
        | none => none
        | some (a, r4) => match numP r4 4 with
          | none => none
          | some (g, r5) => match itemsQ T c p r5 with
            | none => none
            | some (ts, p2, r6) => some (.mk ⟨4, n, g, bA a, noB, k, noB, 0⟩ ts, p2, r6)
/-- An export or a closure. -/
def funP (T : Nat → List UInt8 → Pr Tm) (p tag : Nat) (r : List UInt8) : Pr Tm := if tag = 113 then p113 p r else if tag = 112 then p112 T p r else none
def tagP (T : Nat → List UInt8 → Pr Tm) (p tag : Nat) (r : List UInt8) : Pr Tm :=
  if tag = 97 then p97 p r else if tag = 98 then p98 p r else if tag = 110 then p110 p r else if tag = 119 then p119 p r else if tag = 104 then p104 T p r else if tag = 106 then p106 p r
  else if tag = 108 then p108 T p r else if tag = 109 then p109 p r else if tag = 77 then p77 p r else if tag = 88 then p88 p r else if tag = 90 then p90 p r else funP T p tag r
def bodyP (T : Nat → List UInt8 → Pr Tm) (p : Nat) (r : List UInt8) : Pr Tm := match numP r 1 with
  | none => none
  | some (tag, r1) => tagP T p tag r1
/-- The term at the beginning; p parts are read before. -/
def termP : Nat → Nat → List UInt8 → Pr Tm
  | 0, _, _ => none
  | d + 1, p, r => if p < 2000 then bodyP (termP d) (p + 1) r else none
theorem leN_lt (l : List UInt8) : leN l < 256 ^ l.length := by
  induction l with
  | nil => simp [leN]
  | cons c t ih =>
    have := UInt8.toNat_lt c
    rw [leN, List.length_cons, Nat.pow_succ]
    omega
theorem or_u64 (m d : Nat) (hm : m < 72057594037927936) (hd : d < 256) : bits .or .u64 ((m : Int) * 256) (d : Int) = ((m * 256 + d : Nat) : Int) := by
  rw [bits_join .u64 64 (by decide) (fun n h0 h1 => by rw [IntKind.wrap_u64]; omega) 8 _ _ (by omega) (by omega) (by omega) (by omega) (by omega) (by omega)]
  omega
theorem index_byte (b : List UInt8) (k : Nat) (hk : k < b.length) (W : World) : (Instr.index 9 (.string ⟨b.toArray⟩) (.int .i64 (k : Int))).run Tryz.prog W = .ok (.int .u8 ((b[k]'hk).toNat : Int)) W := by
  have h1 : k < (ByteArray.mk b.toArray).size := by show k < b.toArray.size; simpa using hk
  rw [run_index_string W 9 _ .i64 _ Tryz.underlying9, dif_pos (by omega)]
  have : ((ByteArray.mk b.toArray)[k]'h1) = b[k]'hk := by
    show b.toArray[k]'(by simpa using hk) = _
    simp
  simp only [Int.toNat_natCast, this]
end Go.Proofs.YtoaimoemaoinhaaGreatDoor
