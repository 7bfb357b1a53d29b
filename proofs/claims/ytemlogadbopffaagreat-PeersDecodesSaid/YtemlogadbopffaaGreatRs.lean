/- The reference's reader: the plain form of term. -/
import Derived.Test.YtemlogadbopffaaGreatRi
namespace Go.Proofs.YtemlogadbopffaaGreat
open Go.RowKit Go.Rt Go.Rw

/-- How many parts may still come, and no more than L. -/
def Lg (st : Sr) (d : Nat) (L : Int) : Prop := Lf st d ∧ st.left ≤ L
theorem Lg_take {st : Sr} {d : Nat} {L : Int} (h : Lg st d L) (n : Nat) : Lg (takeS st n).2 d L := by
 have h1 := takeS_left st n
 have h2 := takeS_bad st n
 unfold Lg Lf at h ⊢
 rw [h1]
 exact ⟨⟨h.1.1, h.1.2.1, h.1.2.2.1, fun q => h.1.2.2.2 (h2 q)⟩, h.2⟩
theorem Lg_num {st : Sr} {d : Nat} {L : Int} (h : Lg st d L) (k : Nat) : Lg (numS st k).2 d L := Lg_take h k
theorem Lg_bad {st : Sr} {d : Nat} {L : Int} (h : Lg st d L) (c : Bool) : Lg (badS c st) d L := by
 have h1 := badS_left c st
 have h2 := badS_bad c st
 unfold Lg Lf at h ⊢
 rw [h1]
 exact ⟨⟨h.1.1, h.1.2.1, h.1.2.2.1, fun q => h.1.2.2.2 (h2 q).2⟩, h.2⟩
theorem Lg_name {st : Sr} {d : Nat} {L : Int} (h : Lg st d L) : Lg (nameS st).2 d L := by unfold nameS; exact Lg_take (Lg_num (Lg_bad (Lg_num h 1) _) 1) _
theorem Lg_large {st : Sr} {d : Nat} {L : Int} (h : Lg st d L) : Lg (largeS st).2 d L := by unfold largeS largeT; exact Lg_bad (Lg_take (Lg_num (Lg_num h 1) 1) _) _
def s97 (st : Sr) : Tm × Sr := (intT (numS st 1).1, (numS st 1).2)
def s98 (st : Sr) : Tm × Sr := (intT (toI32 (numS st 4).1), (numS st 4).2)
def s110 (st : Sr) : Tm × Sr := (intT (largeS st).1, (largeS st).2)
def s119 (st : Sr) : Tm × Sr := (.mk ⟨2, 0, 0, bA (nameS ⟨119 :: st.r, st.left, st.bad⟩).1, noB, 0, noB, 0⟩ [], (nameS ⟨119 :: st.r, st.left, st.bad⟩).2)
def i104 (T : Sr → Tm × Sr) (n : Nat) (st : Sr) : Tm × Sr := (.mk ⟨7, 0, 0, noB, noB, 0, noB, 0⟩ (itemsS T n st).1, (itemsS T n st).2)
def s104 (T : Sr → Tm × Sr) (st : Sr) : Tm × Sr := i104 T (numS st 1).1 (numS st 1).2
def s106 (st : Sr) : Tm × Sr := (.mk ⟨8, 0, 0, noB, noB, 0, noB, 0⟩ [], st)
def i108 (T : Sr → Tm × Sr) (n : Nat) (st : Sr) : Tm × Sr := (.mk ⟨9, 0, 0, noB, noB, 0, noB, 0⟩ (itemsS T n st).1, (itemsS T n st).2)
def s108 (T : Sr → Tm × Sr) (st : Sr) : Tm × Sr := i108 T ((numS st 4).1 + 1) (numS st 4).2
def i109 (q : List UInt8 × Sr) : Tm × Sr := (.mk ⟨10, 0, 0, noB, noB, 0, bA q.1, 8 * (q.1.length : Int)⟩ [], q.2)
def s109 (st : Sr) : Tm × Sr := i109 (takeS (numS st 4).2 (numS st 4).1)
def i77 (k : Nat) (q : List UInt8 × Sr) : Tm × Sr := (.mk ⟨10, 0, 0, noB, noB, 0, bA q.1, 8 * (q.1.length : Int) - 8 + (k : Int)⟩ [], q.2)
def j77 (n : Nat) (p : Nat × Sr) : Tm × Sr := i77 p.1 (takeS p.2 n)
def s77 (st : Sr) : Tm × Sr := j77 (numS st 4).1 (numS (numS st 4).2 1)
def i88 (a : List UInt8) (n : Nat) (q : Nat × Sr) : Tm × Sr := (.mk ⟨6, n, q.1, bA a, noB, 0, noB, 0⟩ [], q.2)
def j88 (a : List UInt8) (p : Nat × Sr) : Tm × Sr := i88 a p.1 (numS (numS p.2 4).2 4)
def k88 (p : List UInt8 × Sr) : Tm × Sr := j88 p.1 (numS p.2 4)
def s88 (st : Sr) : Tm × Sr := k88 (nameS st)
def i90 (a : List UInt8) (g : Nat) (q : Nat × Sr) : Tm × Sr := (.mk ⟨3, q.1, g, bA a, noB, 0, noB, 0⟩ [], q.2)
def j90 (a : List UInt8) (p : Nat × Sr) : Tm × Sr := i90 a p.1 (numS p.2 4)
def k90 (p : List UInt8 × Sr) : Tm × Sr := j90 p.1 (numS p.2 4)
def s90 (st : Sr) : Tm × Sr := k90 (nameS (numS st 2).2)
def i113 (a f : List UInt8) (q : Nat × Sr) : Tm × Sr := (.mk ⟨5, 0, 0, bA a, bA f, q.1, noB, 0⟩ [], q.2)
def j113 (a f : List UInt8) (p : Nat × Sr) : Tm × Sr := i113 a f (numS (badS (decide (p.1 ≠ 97)) p.2) 1)
def k113 (a : List UInt8) (p : List UInt8 × Sr) : Tm × Sr := j113 a p.1 (numS p.2 1)
def l113 (p : List UInt8 × Sr) : Tm × Sr := k113 p.1 (nameS p.2)
def s113 (st : Sr) : Tm × Sr := l113 (nameS st)
def i112 (T : Sr → Tm × Sr) (k n c : Nat) (a : List UInt8) (q : Nat × Sr) : Tm × Sr := (.mk ⟨4, n, q.1, bA a, noB, k, noB, 0⟩ (itemsS T c q.2).1, (itemsS T c q.2).2)
def j112 (T : Sr → Tm × Sr) (k n c : Nat) (p : List UInt8 × Sr) : Tm × Sr := i112 T k n c p.1 (numS p.2 4)
def k112 (T : Sr → Tm × Sr) (k n : Nat) (p : Nat × Sr) : Tm × Sr := j112 T k n p.1 (nameS p.2)
def l112 (T : Sr → Tm × Sr) (k : Nat) (p : Nat × Sr) : Tm × Sr := k112 T k p.1 (numS p.2 1)
def m112 (T : Sr → Tm × Sr) (p : Nat × Sr) : Tm × Sr := l112 T p.1 (numS p.2 2)
def s112 (T : Sr → Tm × Sr) (st : Sr) : Tm × Sr := m112 T (numS st 1)
def tagS (T : Sr → Tm × Sr) (tag : Nat) (st : Sr) : Tm × Sr :=
 if tag = 97 then s97 st else if tag = 98 then s98 st else if tag = 110 then s110 st else if tag = 119 then s119 st else if tag = 104 then s104 T st else if tag = 106 then s106 st
 else if tag = 108 then s108 T st else if tag = 109 then s109 st else if tag = 77 then s77 st else if tag = 88 then s88 st else if tag = 90 then s90 st else if tag = 113 then s113 st
 else if tag = 112 then s112 T st else (zeroT, ⟨st.r, st.left, true⟩)
/-- The state when a term's first byte is read. -/
def startS (st : Sr) : Sr := badS (decide (st.left - 1 < 0)) ⟨st.r, st.left - 1, st.bad⟩
def bodyS (T : Sr → Tm × Sr) (p : Nat × Sr) : Tm × Sr := tagS T p.1 p.2
/-- The term at the beginning, whether it is an encoding or not. -/
def termS : Nat → Sr → Tm × Sr
 | 0, st => (zeroT, st)
 | d + 1, st => bodyS (termS d) (numS (startS st) 1)
end Go.Proofs.YtemlogadbopffaaGreat
