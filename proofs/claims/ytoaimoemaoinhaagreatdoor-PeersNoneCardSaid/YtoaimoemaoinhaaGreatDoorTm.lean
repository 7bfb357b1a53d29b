/- Terms, plain, and terms in memory. The validity of a term, its size. No condition beyond the premises of each theorem. -/
import Derived.Test.YtoaimoemaoinhaaGreatDoorBlk
namespace Go.Proofs.YtoaimoemaoinhaaGreatDoor
open Go.RowKit Go.Rt Go.Rw

/-- The flat fields of a term. -/
structure Fl where
  k : Int
  n : Int
  g : Int
  nm : ByteArray
  fn : ByteArray
  ar : Int
  bs : ByteArray
  bt : Int
/-- A term. -/
inductive Tm where
  | mk (f : Fl) (l : List Tm)
def Tm.f : Tm → Fl | .mk f _ => f
def Tm.l : Tm → List Tm | .mk _ l => l
theorem Tm.eta (t : Tm) : t = .mk t.f t.l := by cases t; rfl
theorem Tm.ind {P : Tm → Prop} (h : ∀ f l, (∀ t ∈ l, P t) → P (.mk f l)) (t : Tm) : P t :=
  Tm.rec (motive_1 := P) (motive_2 := fun l => ∀ t ∈ l, P t) (fun f l ih => h f l ih) (fun t ht => by cases ht)
    (fun t r ht hr => by
      intro u hu
      rcases List.mem_cons.1 hu with rfl | q
      · exact ht
      · exact hr u q) t

def low (c : Nat) : Bool := decide (97 ≤ c) && decide (c ≤ 122)
def oth (c : Nat) : Bool := (decide (65 ≤ c) && decide (c ≤ 90)) || (decide (48 ≤ c) && decide (c ≤ 57)) || c == 95 || c == 64
def atB (s : ByteArray) (i : Nat) : Nat := (s.data.getD i 0).toNat
def okAt (s : ByteArray) (i : Nat) : Bool := low (atB s i) || (decide (0 < i) && oth (atB s i))
def nameF (s : ByteArray) : Bool := decide (0 < s.size) && decide (s.size ≤ 32) && (List.range s.size).all (okAt s)
def inB (n a b : Int) : Bool := decide (a ≤ n) && decide (n ≤ b)
def noB : ByteArray := ⟨#[]⟩
/-- The unused bits of the last byte are zero. -/
def padB (bs : ByteArray) (bt : Int) : Bool := decide (atB bs (bs.size - 1) % 2 ^ (8 - bt % 8).toNat = 0)
def bitsB (bs : ByteArray) (bt : Int) : Bool := inB bt 0 16384 && (decide ((bs.size : Int) = (bt + 7) / 8) && (decide (bt % 8 = 0) || padB bs bt))
/-- What a kind requires, besides its parts. -/
def okF (f : Fl) (l : List Tm) : Bool :=
  if f.k = 1 then true
  else if f.k = 2 then nameF f.nm
  else if f.k = 3 then inB f.n 1 2147483647 && (inB f.g 1 2147483647 && nameF f.nm)
  else if f.k = 4 then inB f.n 0 999 && (inB f.g 1 2147483647 && (nameF f.nm && (inB f.ar 0 16 && decide (l.length ≤ 200))))
  else if f.k = 5 then nameF f.nm && (nameF f.fn && inB f.ar 0 16)
  else if f.k = 6 then inB f.n 1 2147483647 && (inB f.g 1 2147483647 && nameF f.nm)
  else if f.k = 7 then decide (l.length ≤ 255)
  else if f.k = 8 then true
  else if f.k = 9 then decide (2 ≤ l.length) && (match l.getLast? with | some t => decide (t.f.k ≠ 9) | none => false)
  else if f.k = 10 then bitsB f.bs f.bt
  else false
/-- The fields without those that the kind uses. -/
def bareF (f : Fl) : Fl :=
  if f.k = 1 then { f with n := 0 }
  else if f.k = 2 then { f with nm := noB }
  else if f.k = 3 then { f with n := 0, g := 0, nm := noB }
  else if f.k = 4 then { f with n := 0, g := 0, nm := noB, ar := 0 }
  else if f.k = 5 then { f with nm := noB, fn := noB, ar := 0 }
  else if f.k = 6 then { f with n := 0, g := 0, nm := noB }
  else if f.k = 10 then { f with bs := noB, bt := 0 }
  else f
def usesL (k : Int) : Bool := decide (k = 4) || decide (k = 7) || decide (k = 9)
def zeroF (f : Fl) : Bool := decide (f.n = 0) && (decide (f.g = 0) && (decide (f.nm.size = 0) && (decide (f.fn.size = 0) && (decide (f.ar = 0) && (decide (f.bs.size = 0) && decide (f.bt = 0))))))
/-- A term is well-formed, but for its parts. -/
def ownB (f : Fl) (l : List Tm) : Bool := okF f l && (zeroF (bareF f) && (usesL f.k || l.isEmpty))
mutual
def formed : Tm → Bool
  | .mk f l => ownB f l && formedL l
def formedL : List Tm → Bool
  | [] => true
  | t :: r => formed t && formedL r
end
def sizeO (f : Fl) (len : Nat) : Nat := if f.k = 9 then len - 1 else if f.k = 10 then 1 + (f.bt.toNat + 63) / 64 else 1
mutual
def sizeT : Tm → Nat
  | .mk f l => sizeO f l.length + sizeL l
def sizeL : List Tm → Nat
  | [] => 0
  | t :: r => sizeT t + sizeL r
end
mutual
/-- A bound on sizes, whether the term is well-formed or not. -/
def bulk : Tm → Nat
  | .mk _ l => 300 + l.length + bulkL l
def bulkL : List Tm → Nat
  | [] => 0
  | t :: r => bulk t + bulkL r
end
def validB (t : Tm) : Bool := formed t && decide (sizeT t ≤ 2000)

theorem formedL_mem : ∀ l, formedL l = true → ∀ t ∈ l, formed t = true
  | [], _, t, ht => by cases ht
  | u :: r, h, t, ht => by
    rw [formedL, Bool.and_eq_true] at h
    rcases List.mem_cons.1 ht with rfl | q
    · exact h.1
    · exact formedL_mem r h.2 t q
theorem sizeO_le (f : Fl) (l : List Tm) (h : okF f l = true) : sizeO f l.length ≤ 300 + l.length := by
  unfold sizeO
  split
  · omega
  · split
    · rename_i h9 h10
      unfold okF at h
      simp only [h10, show ¬ (10 : Int) = 1 by omega, show ¬ (10 : Int) = 2 by omega, show ¬ (10 : Int) = 3 by omega, show ¬ (10 : Int) = 4 by omega, show ¬ (10 : Int) = 5 by omega, show ¬ (10 : Int) = 6 by omega, show ¬ (10 : Int) = 7 by omega, show ¬ (10 : Int) = 8 by omega, show ¬ (10 : Int) = 9 by omega, if_false, if_true] at h
      unfold bitsB inB at h
      simp only [Bool.and_eq_true, decide_eq_true_eq] at h
      omega
    · omega
mutual
theorem size_bulk : ∀ t, formed t = true → sizeT t ≤ bulk t
  | .mk f l, h => by
    rw [formed, Bool.and_eq_true] at h
    unfold ownB at h
    rw [Bool.and_eq_true] at h
    have := sizeO_le f l h.1.1
    have := sizeL_bulk l h.2
    rw [sizeT, bulk]
    omega
theorem sizeL_bulk : ∀ l, formedL l = true → sizeL l ≤ bulkL l
  | [], _ => by rw [sizeL, bulkL]; exact Nat.le_refl _
  | t :: r, h => by
    rw [formedL, Bool.and_eq_true] at h
    have := size_bulk t h.1
    have := sizeL_bulk r h.2
    rw [sizeL, bulkL]
    omega
end

/-! ### In memory -/
/-- A term in memory: its flat fields, and what its field of parts holds. -/
structure Ft where
  f : Fl
  v : Value
def ftC (x : Ft) : List Value := [.int .i64 x.f.k, .int .i64 x.f.n, .int .i64 x.f.g, .string x.f.nm, .string x.f.fn, .int .i64 x.f.ar, x.v, .string x.f.bs, .int .i64 x.f.bt]
def ftV (x : Ft) : Value := .agg #[.int .i64 x.f.k, .int .i64 x.f.n, .int .i64 x.f.g, .string x.f.nm, .string x.f.fn, .int .i64 x.f.ar, x.v, .string x.f.bs, .int .i64 x.f.bt]
theorem ftC_len (x : Ft) : (ftC x).length = 9 := rfl
/-- The block of a slice that is not empty is one of S. -/
def InS (S : Nat → Prop) (v : Value) : Prop := ∀ b o n cap, v = .slice (some ⟨b, o, none⟩) n cap → 0 < n → S b
mutual
def TmAt (S : Nat → Prop) (w : World) : Tm → Ft → Prop
  | .mk f l, x => x.f = f ∧ ∃ Fs, SlAt w 9 ftC x.v Fs ∧ InS S x.v ∧ TmsAt S w l Fs
def TmsAt (S : Nat → Prop) (w : World) : List Tm → List Ft → Prop
  | [], Fs => Fs = []
  | t :: r, Fs => ∃ x q, Fs = x :: q ∧ TmAt S w t x ∧ TmsAt S w r q
end
/-- A slice of terms. -/
def ItsAt (S : Nat → Prop) (w : World) (l : List Tm) (v : Value) : Prop := ∃ Fs, SlAt w 9 ftC v Fs ∧ InS S v ∧ TmsAt S w l Fs
theorem TmAt.its {S : Nat → Prop} {w : World} {t : Tm} {x : Ft} (h : TmAt S w t x) : x.f = t.f ∧ ItsAt S w t.l x.v := by
  cases t
  unfold TmAt at h
  exact h
theorem TmAt.of {S : Nat → Prop} {w : World} {t : Tm} {x : Ft} (h : x.f = t.f) (h2 : ItsAt S w t.l x.v) : TmAt S w t x := by
  cases t
  unfold TmAt
  exact ⟨h, h2⟩
theorem TmsAt.length {S : Nat → Prop} {w : World} : ∀ {l : List Tm} {Fs : List Ft}, TmsAt S w l Fs → Fs.length = l.length
  | [], Fs, h => by unfold TmsAt at h; rw [h]; rfl
  | t :: r, Fs, h => by
    unfold TmsAt at h
    obtain ⟨x, q, rfl, _, h2⟩ := h
    simp [h2.length]
theorem TmsAt.get {S : Nat → Prop} {w : World} : ∀ {l : List Tm} {Fs : List Ft}, TmsAt S w l Fs → ∀ i (h1 : i < l.length) (h2 : i < Fs.length), TmAt S w l[i] Fs[i]
  | [], Fs, h, i, h1, _ => by simp at h1
  | t :: r, Fs, h, i, h1, h2 => by
    unfold TmsAt at h
    obtain ⟨x, q, rfl, hx, hq⟩ := h
    cases i with
    | zero => exact hx
    | succ i => exact hq.get i (by simpa using h1) (by simpa using h2)
theorem TmsAt.snoc {S : Nat → Prop} {w : World} {t : Tm} {x : Ft} : ∀ {l : List Tm} {Fs : List Ft}, TmsAt S w l Fs → TmAt S w t x → TmsAt S w (l ++ [t]) (Fs ++ [x])
  | [], Fs, h, hx => by
    unfold TmsAt at h
    subst h
    unfold TmsAt
    exact ⟨x, [], rfl, hx, by unfold TmsAt; rfl⟩
  | u :: r, Fs, h, hx => by
    unfold TmsAt at h
    obtain ⟨y, q, rfl, hy, hq⟩ := h
    rw [List.cons_append]
    unfold TmsAt
    exact ⟨y, q ++ [x], rfl, hy, hq.snoc hx⟩
theorem slat_lt {w : World} {v : Value} {Fs : List Ft} (h : SlAt w 9 ftC v Fs) : InS (fun b => b < w.heap.size) v := by
  intro b o n cap e hn
  rcases h with ⟨_, sa, c, rfl⟩ | ⟨b', o', cap', rfl, _, hb, _⟩
  · cases e; omega
  · cases e; exact hb
theorem slat_same {w w' : World} {v : Value} {Fs : List Ft} (h : SlAt w 9 ftC v Fs) (hs : w.heap.size ≤ w'.heap.size) (hb : ∀ b o n cap, v = .slice (some ⟨b, o, none⟩) n cap → 0 < n → w'.heap[b]? = w.heap[b]?) : SlAt w' 9 ftC v Fs := by
  rcases h with h | ⟨b, o, cap, rfl, h1, h2, h3⟩
  · exact .inl h
  · by_cases h0 : Fs = []
    · subst h0; exact .inl ⟨rfl, _, _, rfl⟩
    · have := hb b o _ cap rfl (List.length_pos_iff.2 h0)
      refine .inr ⟨b, o, cap, rfl, h1, by omega, fun i j hi hj => ?_⟩
      rw [← h3 i j hi hj]
      simp only [World.cell?, this]
mutual
theorem TmAt.map {S S' : Nat → Prop} {w w' : World} (hs : w.heap.size ≤ w'.heap.size) (hb : ∀ b, S b → b < w.heap.size → w'.heap[b]? = w.heap[b]?) (hS : ∀ b, S b → b < w.heap.size → S' b) : ∀ {t : Tm} {x : Ft}, TmAt S w t x → TmAt S' w' t x
  | .mk f l, x, h => by
    unfold TmAt at h ⊢
    obtain ⟨e, Fs, h1, h2, h3⟩ := h
    have hl := slat_lt h1
    exact ⟨e, Fs, slat_same h1 hs (fun b o n cap q hn => hb b (h2 b o n cap q hn) (hl b o n cap q hn)), fun b o n cap q hn => hS b (h2 b o n cap q hn) (hl b o n cap q hn), TmsAt.map hs hb hS h3⟩
theorem TmsAt.map {S S' : Nat → Prop} {w w' : World} (hs : w.heap.size ≤ w'.heap.size) (hb : ∀ b, S b → b < w.heap.size → w'.heap[b]? = w.heap[b]?) (hS : ∀ b, S b → b < w.heap.size → S' b) : ∀ {l : List Tm} {Fs : List Ft}, TmsAt S w l Fs → TmsAt S' w' l Fs
  | [], Fs, h => by unfold TmsAt at h ⊢; exact h
  | t :: r, Fs, h => by
    unfold TmsAt at h ⊢
    obtain ⟨x, q, rfl, hx, hq⟩ := h
    exact ⟨x, q, rfl, TmAt.map hs hb hS hx, TmsAt.map hs hb hS hq⟩
end
theorem ItsAt.map {S S' : Nat → Prop} {w w' : World} (hs : w.heap.size ≤ w'.heap.size) (hb : ∀ b, S b → b < w.heap.size → w'.heap[b]? = w.heap[b]?) (hS : ∀ b, S b → b < w.heap.size → S' b) {l : List Tm} {v : Value} (h : ItsAt S w l v) : ItsAt S' w' l v := by
  obtain ⟨Fs, h1, h2, h3⟩ := h
  have hl := slat_lt h1
  exact ⟨Fs, slat_same h1 hs (fun b o n cap q hn => hb b (h2 b o n cap q hn) (hl b o n cap q hn)), fun b o n cap q hn => hS b (h2 b o n cap q hn) (hl b o n cap q hn), TmsAt.map hs hb hS h3⟩
section
variable {S S' : Nat → Prop} {w w' : World} {t : Tm} {x : Ft} {l : List Tm} {v : Value}
theorem TmAt.below {n : Nat} (h : TmAt S w t x) (hb : Below n w w') (hn : ∀ b, S b → b < w.heap.size → b < n) : TmAt S w' t x := h.map hb.size (fun b hs hl => hb.block b (hn b hs hl)) (fun _ hs _ => hs)
theorem ItsAt.below {n : Nat} (h : ItsAt S w l v) (hb : Below n w w') (hn : ∀ b, S b → b < w.heap.size → b < n) : ItsAt S w' l v := h.map hb.size (fun b hs hl => hb.block b (hn b hs hl)) (fun _ hs _ => hs)
theorem TmAt.only {bs : List Nat} (h : TmAt S w t x) (ho : Only bs w w') (hn : ∀ b, S b → b < w.heap.size → b ∉ bs) : TmAt S w' t x := h.map ho.size (fun b hs hl => ho.block b hl (hn b hs hl)) (fun _ hs _ => hs)
theorem ItsAt.only {bs : List Nat} (h : ItsAt S w l v) (ho : Only bs w w') (hn : ∀ b, S b → b < w.heap.size → b ∉ bs) : ItsAt S w' l v := h.map ho.size (fun b hs hl => ho.block b hl (hn b hs hl)) (fun _ hs _ => hs)
theorem TmAt.mono (h : TmAt S w t x) (hS : ∀ b, S b → b < w.heap.size → S' b) : TmAt S' w t x := h.map (Nat.le_refl _) (fun _ _ _ => rfl) hS
theorem ItsAt.mono (h : ItsAt S w l v) (hS : ∀ b, S b → b < w.heap.size → S' b) : ItsAt S' w l v := h.map (Nat.le_refl _) (fun _ _ _ => rfl) hS
theorem ItsAt.nil (sa : Option Addr) (cap : Nat) : ItsAt S w [] (.slice sa 0 cap) := ⟨[], .inl ⟨rfl, sa, cap, rfl⟩, fun b o n c e hn => by cases e; omega, by unfold TmsAt; rfl⟩
theorem ItsAt.form (h : ItsAt S w l v) : l.length ≤ 9223372036854775807 ∧ ∃ sa cap, v = .slice sa l.length cap := by
  obtain ⟨Fs, h1, _, h3⟩ := h
  have := h1.len
  rw [h3.length] at this
  exact this
/-- The cells of the parts. -/
theorem ItsAt.get {sa : Option Addr} {n cap : Nat} (h : ItsAt S w l (.slice sa n cap)) (hne : 0 < l.length) : ∃ b o, sa = some ⟨b, o, none⟩ ∧ b < w.heap.size ∧ S b ∧
    ∀ i (hi : i < l.length), ∃ x, TmAt S w l[i] x ∧ ∀ j, j < 9 → w.cell? ⟨b, o + i * 9 + j, none⟩ = (ftC x)[j]? := by
  obtain ⟨Fs, h1, h2, h3⟩ := h
  have hlen := h3.length
  obtain ⟨b, o, rfl, hb, hc⟩ := h1.get (by omega)
  obtain ⟨_, sa', cap', e⟩ := h1.len
  cases e
  refine ⟨b, o, rfl, hb, h2 b o _ _ rfl (by omega), fun i hi => ⟨Fs[i]'(by omega), h3.get i hi (by omega), fun j hj => hc i j (by omega) hj⟩⟩
end
end Go.Proofs.YtoaimoemaoinhaaGreatDoor
