/- A range over a function whose iterator only reads; frames of memory. No condition beyond the premises of each theorem. Slices in memory as lists: one that the call owns (Sl), and one that is read (SlAt), each element a fixed number of cells. No condition beyond the premises of each theorem. append(v, many...): the run, for an owned slice as a list. No condition beyond the premises. A block of memory that is known whole: its cells, loads and stores of a struct in it. No condition beyond the premises of each theorem. Layer 17, plain: instructions, what they read and write, their successors; ascending lists. No program in sight. Layer 17, plain: when a search is complete. Lists of instructions in memory, read. No condition beyond the premises of each theorem. -/
import Derived.RangeFuncNested
import Derived.RangeFuncBound
import Derived.RangeFuncCalls
import Derived.RangeFuncLeaves
import Derived.RangeFuncBox
import Derived.Deep.Draws
import Derived.Laws.OwnMore
import Derived.OwnWalkIn
import Derived.Deep.RegionLaw
import Derived.Lib.Hide
import Derived.Maps.AppendAt
import Derived.Test.YtekfnonjhcfdmaaDoorProg
import Derived.Test.YtekfnonjhcfdmaaDoorChecked
import Derived.WalkKit
import Derived.WalkSpells
import Derived.WalkLawsBesides
import Derived.RegionTactic
import Derived.Deep.QuietTactic
import Derived.BigQuiet
import Derived.Outline
import Derived.IntWalk
import Derived.Below
import Derived.Deep.MidRow
import Derived.Laws.AppendOwn
import Derived.Laws.MakeOwn
namespace Go.Rt
open Go Go.RowKit

/-- Nothing has turned but blocks of a list, and new ones. -/
structure Only (bs : List Nat) (w w' : World) : Prop where
  os : w'.os = w.os
  tape : w'.tape = w.tape
  output : w'.output = w.output
  size : w.heap.size ≤ w'.heap.size
  block : ∀ k, k < w.heap.size → k ∉ bs → w'.heap[k]? = w.heap[k]?
theorem Only.refl (bs : List Nat) (w : World) : Only bs w w := ⟨rfl, rfl, rfl, Nat.le_refl _, fun _ _ _ => rfl⟩
theorem Only.trans {bs : List Nat} {a b c : World} (h : Only bs a b) (k : Only bs b c) : Only bs a c :=
  ⟨k.os.trans h.os, k.tape.trans h.tape, k.output.trans h.output, Nat.le_trans h.size k.size, fun i hi hn => (k.block i (by have := h.size; omega) hn).trans (h.block i hi hn)⟩
theorem Only.drew (bs : List Nat) (w : World) : Only bs w w.drew := ⟨rfl, rfl, rfl, Nat.le_refl _, fun _ _ _ => rfl⟩
theorem Only.drewN (bs : List Nat) (w : World) (n : Nat) : Only bs w (w.drewN n) := ⟨rfl, rfl, rfl, Nat.le_refl _, fun _ _ _ => rfl⟩
theorem Only.alloc (bs : List Nat) (w : World) (o : Obj) : Only bs w (w.alloc o) := ⟨rfl, rfl, rfl, by simp, fun k hk _ => Below.heap_alloc _ _ _ hk⟩
theorem Only.setCell {bs : List Nat} (w : World) (p : Addr) (v : Value) (hp : p.block ∈ bs) : Only bs w (w.setCell p v) :=
  ⟨rfl, rfl, rfl, by simp [World.setCell], fun k _ hn => Below.heap_setCell _ _ _ _ (fun e => hn (by rw [e]; exact hp))⟩
theorem Only.putObj {bs : List Nat} (w : World) (b : Nat) (o : Obj) (hp : b ∈ bs) : Only bs w (w.putObj b o) :=
  ⟨rfl, rfl, rfl, by simp, fun k _ hn => World.putObj_heap_other (fun e => hn (by rw [e]; exact hp))⟩
theorem Only.grown {bs : List Nat} {w w' : World} {row : Option Nat} (h : w.grownBy w' row) (hr : ∀ r, row = some r → r ∈ bs ∨ w.heap.size ≤ r) : Only bs w w' :=
  ⟨h.os, h.tape, h.output, h.size, fun k hk hn => h.block k hk (fun e => (hr k e.symm).elim hn (fun q => by omega))⟩
theorem Only.of_below {bs : List Nat} {w w' : World} (h : Below w.heap.size w w') : Only bs w w' := ⟨h.os, h.tape, h.output, h.size, fun k hk _ => h.block k hk⟩
theorem Only.below {bs : List Nat} {w w' : World} (h : Only bs w w') {n : Nat} (hb : ∀ b ∈ bs, n ≤ b) (hn : n ≤ w.heap.size) : Below n w w' :=
  ⟨h.os, h.tape, h.output, h.size, fun k hk => h.block k (by omega) (fun hm => by have := hb k hm; omega)⟩
theorem Only.mono {bs cs : List Nat} {w w' : World} (h : Only bs w w') (hs : ∀ b ∈ bs, b ∈ cs ∨ w.heap.size ≤ b) : Only cs w w' :=
  ⟨h.os, h.tape, h.output, h.size, fun k hk hn => h.block k hk (fun hm => (hs k hm).elim hn (fun q => by omega))⟩

/-- What is said abides new blocks. -/
def Grows (J : Nat → World → Prop) : Prop := ∀ k A B, J k A → Only [] A B → J k B

/-- The contract of an iterator that only reads: it hands over xs, one after the other, unless a round says 'no more'. What it needs (Pre) is kept by the rounds. -/
def SeqReads {α : Type} (F : Fence) (n : Nat) (P : Program) (g : Nat) (lb : Array Value) (encs : α → Array Value) (xs : List α) (Pre : World → Prop) : Prop :=
  ∀ (l : Nat) (J Jx : Nat → World → Prop) (W : World), Grows J → Grows Jx → (∀ k W, J k W → Pre W) →
    (∀ (k : Nat) (hk : k < xs.length) (W1 : World), J k W1 → YieldAt F (n - 1) P l (encs xs[k]) W1 fun e W' =>
      (e = .returned (.bool true) ∧ J (k + 1) W') ∨ (e = .returned (.bool false) ∧ Jx (k + 1) W')) →
    J 0 W →
    CallsIn F n P g (#[.func (.yield l) #[] #[]] ++ lb) W fun e W' => (∃ v, e = .returned v) ∧ (J xs.length W' ∨ (∃ k, k ≤ xs.length ∧ Jx k W'))

/-- How the body of a round may be left. -/
def ownPostP (D : Nat) (I : Nat → World → Prop) (Ix : Code → Nat → World → Prop) (k : Nat) (W : World) : Exit → Act → World → Prop
  | .normal, _, W' => (W'.heap[D]? = W.heap[D]? ∧ W'.heap[D + 1]? = W.heap[D + 1]?) ∧ I k W'
  | .ret, _, W' => (W'.heap[D]? = W.heap[D]? ∧ W'.heap[D + 1]? = W.heap[D + 1]?) ∧ Ix .ret k W'
  | .exit id, _, W' => (W'.heap[D]? = W.heap[D]? ∧ W'.heap[D + 1]? = W.heap[D + 1]?) ∧ Ix (.exit id) k W'
  | .goto t, _, W' => (W'.heap[D]? = W.heap[D]? ∧ W'.heap[D + 1]? = W.heap[D + 1]?) ∧ Ix (.goto t) k W'
  | .panic _, _, _ => False
  | .outgrown, _, _ => False

/-- What is said abides whatever happens to the loop's two records, and new blocks. -/
def AbidesP (D : Nat) (J : Nat → World → Prop) : Prop := ∀ k A B, J k A → Only [D, D + 1] A B → J k B

variable {F : Fence} {n : Nat} {P : Program}

theorem wpIn_rangeFunc_P {α : Type} {g : Operand} {ps : Array Tmp} {assign body : Code} {Q : Exit → Act → World → Prop} {a : Act} {w : World}
    (hro : F.round = none) (h1 : 1 ≤ n) {gf : Nat} {lb : Array Value} (hg : a.eval g = .func (.func gf) #[] lb) (hFg : F.fn gf) (eg : ∀ args w, (callFunc gf args).run P w = .ok (.enter gf args) w)
    {encs : α → Array Value} {xs : List α} {Pre : World → Prop} (hseq : SeqReads F (n - 1) P gf lb encs xs Pre)
    (hps : ∀ x, (encs x).size = ps.size)
    (I : Nat → World → Prop) (Ix : Code → Nat → World → Prop) (hI : AbidesP w.heap.size I) (hIx : ∀ c, AbidesP w.heap.size (Ix c)) (hIP : ∀ k W, I k W → Pre W) (h0 : I 0 w) (a₁ : α → Act)
    (hassign : ∀ (l : Nat) (x : α) (W : World) (K : Act → World → Prop), K (a₁ x) W →
      assign.wpIn (F.inRound l) (n - 1 - 1) P (Exit.then K (fun _ _ _ => False)) { tmps := (ps.zip (encs x)).foldl (fun t (p, v) => t.setIfInBounds p v) a.tmps, defers := [] } W)
    (hbody : ∀ (l : Nat) (k : Nat) (hk : k < xs.length) (W : World), I k W → w.heap.size + 2 ≤ W.heap.size → body.wpIn (F.inRound l) (n - 1 - 1) P (ownPostP w.heap.size I Ix (k + 1) W) (a₁ xs[k]) W)
    (hdone : ∀ (W : World), w.heap.size + 2 ≤ W.heap.size → I xs.length W → W.heap[w.heap.size]? = some (.deferred (some [])) → Q .normal { a with defers := { target := .collected w.heap.size, args := #[] } :: a.defers } W)
    (hstop : ∀ (c : Code) (k : Nat) (W : World), w.heap.size + 2 ≤ W.heap.size → k ≤ xs.length → Ix c k W → W.heap[w.heap.size]? = some (.deferred (some [])) → c.wpIn F n P Q { a with defers := { target := .collected w.heap.size, args := #[] } :: a.defers } W) :
    (Code.rangeFunc g ps assign body).wpIn F n P Q a w := by
  refine wpIn_rangeFunc ?_
  intro fn hfn
  rw [hro]
  obtain ⟨rec, hrec⟩ : ∃ rec : LoopState → Option Code → Loop, rec = fun st pe => { state := st, pending := pe, fn, tmps := a.tmps, params := ps, assign, body, defers := w.heap.size } := ⟨_, rfl⟩
  obtain ⟨W1, hW1⟩ : ∃ W1, (w.alloc (.deferred (some []))).alloc (.loop (rec .ready none)) = W1 := ⟨_, rfl⟩
  have hL1 : W1.heap[w.heap.size + 1]? = some (.loop (rec .ready none)) := by
    rw [← hW1]; have := World.alloc_heap_new (w.alloc (.deferred (some []))) (.loop (rec .ready none)); rwa [World.size_alloc] at this
  have hK1 : W1.heap[w.heap.size]? = some (.deferred (some [])) := by
    rw [← hW1]; exact (Below.heap_alloc _ _ _ (by simp)).trans (World.alloc_heap_new w _)
  have hb1 : Below w.heap.size w W1 := by
    rw [← hW1]; exact ((Below.refl _ w).alloc (Nat.le_refl _) _).alloc (by simp) _
  have hz1 : W1.heap.size = w.heap.size + 2 := by rw [← hW1]; simp
  have hI1 : I 0 W1 := hI 0 w W1 h0 (Only.of_below hb1)
  refine ⟨w.heap.size + 1, [{ target := .collected w.heap.size, args := #[] }], W1, { target := .fn (.func gf) lb, args := #[.func (.yield (w.heap.size + 1)) #[] #[]] }, W1, gf,
    #[.func (.yield (w.heap.size + 1)) #[] #[]] ++ lb, W1, ?_, ?_, ?_, ?_, fun _ => h1, ?_⟩
  · rw [← hW1, hrec]; exact run_enterLoop_outer _ _ _ _ _
  · simp only [resolve, hg]
    simp [go_sem]
  · intro f' hf'; simp [Target.leads] at hf'; subst hf'; exact hFg
  · simp [invoke, go_sem, eg]
  · -- the iterator's contract, at the caller's invariant with the facts of book-keeping beside it
    obtain ⟨Bk, hBk⟩ : ∃ Bk : LoopState → Option Code → World → Prop, Bk = fun st pe W => W.heap[w.heap.size + 1]? = some (.loop (rec st pe)) ∧ W.heap[w.heap.size]? = some (.deferred (some [])) := ⟨_, rfl⟩
    have hBa : ∀ (st : LoopState) (pe : Option Code) (A B : World), Bk st pe A → Only [] A B → Bk st pe B := by
      intro st pe A B hs ho
      rw [hBk] at hs ⊢
      obtain ⟨q1, q2⟩ := hs
      have l1 := (Array.getElem?_eq_some_iff.1 q1).1
      have l2 := (Array.getElem?_eq_some_iff.1 q2).1
      exact ⟨(ho.block _ l1 (by simp)).trans q1, (ho.block _ l2 (by simp)).trans q2⟩
    have hput : ∀ {J : Nat → World → Prop}, AbidesP w.heap.size J → ∀ (k : Nat) (A : World) (o : Obj), J k A → J k (A.putObj (w.heap.size + 1) o) := by
      intro J hJ k A o hj
      exact hJ k A _ hj (Only.putObj _ _ _ (by simp))
    refine (hseq (w.heap.size + 1)
      (fun k W => I k W ∧ Bk .ready none W)
      (fun k W => ∃ c, Ix c k W ∧ Bk .done (some c) W)
      W1 (fun k A B hs ho => ?_) (fun k A B hs ho => ?_) (fun k W h => hIP k W h.1) ?_ ⟨hI1, ?_⟩).mono ?_
    · exact ⟨hI k A B hs.1 (ho.mono (by simp)), hBa _ _ _ _ hs.2 ho⟩
    · obtain ⟨c, hc, hb⟩ := hs
      exact ⟨c, hIx c k A B hc (ho.mono (by simp)), hBa _ _ _ _ hb ho⟩
    · -- one round
      rintro k hk W ⟨hi, hb⟩
      rw [hBk] at hb
      obtain ⟨hl, hd⟩ := hb
      have hsz : w.heap.size + 1 < W.heap.size := (Array.getElem?_eq_some_iff.1 hl).1
      have hy := run_yield (P := P) (args := encs xs[k]) hl (by rw [hrec]; exact hps _)
      rw [hrec] at hy
      refine ⟨fn, _, assign, body, hy, roundIn_of_wpIn hfn (hassign _ xs[k] W _ ⟨_, run_beginRound hl (by rw [hrec]), ?_⟩)⟩
      have hl2 : (W.putObj (w.heap.size + 1) (.loop { rec .ready none with state := .busy })).heap[w.heap.size + 1]? = some (.loop { rec .ready none with state := .busy }) := World.putObj_heap_same hsz
      have hd2 : (W.putObj (w.heap.size + 1) (.loop { rec .ready none with state := .busy })).heap[w.heap.size]? = some (.deferred (some [])) := (World.putObj_heap_other (by omega)).trans hd
      refine wpIn_mono (hbody _ k hk _ (hput hI k W _ hi) ?_) ?_
      · rw [World.putObj_size]
        omega
      have fin : ∀ (jump : Option Code) (W3 : World), (W3.heap[w.heap.size]? = (W.putObj (w.heap.size + 1) (.loop { rec .ready none with state := .busy })).heap[w.heap.size]? ∧ W3.heap[w.heap.size + 1]? = (W.putObj (w.heap.size + 1) (.loop { rec .ready none with state := .busy })).heap[w.heap.size + 1]?) →
          (Instr.endRound (w.heap.size + 1) jump).run P W3 = .ok (.bool jump.isNone) (W3.putObj (w.heap.size + 1) (.loop (rec (if jump.isNone then .ready else .done) jump))) ∧
          Bk (if jump.isNone then .ready else .done) jump (W3.putObj (w.heap.size + 1) (.loop (rec (if jump.isNone then .ready else .done) jump))) := fun jump W3 hk3 => by
        have hl3 := hk3.2.trans hl2
        have hd3 := hk3.1.trans hd2
        have := run_endRound (P := P) jump hl3
        refine ⟨by rw [hrec] at this ⊢; exact this, ?_⟩
        rw [hBk]
        exact ⟨World.putObj_heap_same (Array.getElem?_eq_some_iff.1 hl3).1, (World.putObj_heap_other (by omega)).trans hd3⟩
      rintro e a3 W3 hp
      cases e with
      | normal =>
        obtain ⟨hk3, hi3⟩ := hp
        obtain ⟨hr, hb4⟩ := fin none W3 hk3
        exact ⟨_, _, hr, .inl ⟨rfl, hput hI _ _ _ hi3, hb4⟩⟩
      | ret =>
        obtain ⟨hk3, hi3⟩ := hp
        obtain ⟨hr, hb4⟩ := fin (some .ret) W3 hk3
        exact ⟨_, _, hr, .inr ⟨rfl, .ret, hput (hIx _) _ _ _ hi3, hb4⟩⟩
      | exit id =>
        obtain ⟨hk3, hi3⟩ := hp
        obtain ⟨hr, hb4⟩ := fin (some (.exit id)) W3 hk3
        exact ⟨_, _, hr, .inr ⟨rfl, .exit id, hput (hIx _) _ _ _ hi3, hb4⟩⟩
      | goto t =>
        obtain ⟨hk3, hi3⟩ := hp
        obtain ⟨hr, hb4⟩ := fin (some (.goto t)) W3 hk3
        exact ⟨_, _, hr, .inr ⟨rfl, .goto t, hput (hIx _) _ _ _ hi3, hb4⟩⟩
      | panic ch => exact hp.elim
      | outgrown => exact hp.elim
    · rw [hBk]
      exact ⟨hL1, hK1⟩
    · -- behind the iterator
      rintro e W2 ⟨⟨v, rfl⟩, (⟨hi, hb⟩ | ⟨k, hk, c, hi, hb⟩)⟩
      · rw [hBk] at hb
        obtain ⟨hl, hd⟩ := hb
        have hsz : w.heap.size + 1 < W2.heap.size := (Array.getElem?_eq_some_iff.1 hl).1
        exact ⟨none, _, by have := run_endLoop (P := P) hl (by rw [hrec]; simp); rw [hrec] at this; exact this, hdone _ (by simp; omega) (hput hI _ _ _ hi) ((World.putObj_heap_other (by omega)).trans hd)⟩
      · rw [hBk] at hb
        obtain ⟨hl, hd⟩ := hb
        have hsz : w.heap.size + 1 < W2.heap.size := (Array.getElem?_eq_some_iff.1 hl).1
        exact ⟨some c, _, by have := run_endLoop (P := P) hl (by rw [hrec]; simp); rw [hrec] at this; exact this, hstop c k _ (by simp; omega) hk (hput (hIx c) _ _ _ hi) ((World.putObj_heap_other (by omega)).trans hd)⟩

end Go.Rt
namespace Go.Rw
open Go Go.RowKit Go.Rt
variable {α : Type}

section
variable {c : α → List Value} {m : Nat}
theorem flat_len (hc : ∀ a, (c a).length = m) (L : List α) : (L.flatMap c).length = L.length * m := by
  induction L with
  | nil => simp
  | cons b r ih => simp only [List.flatMap_cons, List.length_append, ih, hc, List.length_cons, Nat.succ_mul]; omega
theorem flat_at (hc : ∀ a, (c a).length = m) (L : List α) (i j : Nat) (hi : i < L.length) (hj : j < m) : (L.flatMap c)[i * m + j]? = (c L[i])[j]? := by
  induction L generalizing i with
  | nil => simp at hi
  | cons b r ih =>
    cases i with
    | zero => simp only [List.flatMap_cons]; rw [List.getElem?_append_left (by rw [hc]; omega)]; simp
    | succ k =>
      simp only [List.flatMap_cons]
      have e : (k + 1) * m + j - (c b).length = k * m + j := by rw [hc, Nat.succ_mul]; omega
      rw [List.getElem?_append_right (by rw [hc, Nat.succ_mul]; omega), e]
      exact ih k (by simpa using hi)
theorem flat_set (hc : ∀ a, (c a).length = m) (L : List α) (i j : Nat) (hi : i < L.length) (hj : j < m) (u : Value) (a : α) (ha : (c L[i]).set j u = c a) : (L.flatMap c).set (i * m + j) u = (L.set i a).flatMap c := by
  induction L generalizing i with
  | nil => simp at hi
  | cons b r ih =>
    cases i with
    | zero =>
      simp only [List.flatMap_cons, List.set_cons_zero]
      rw [List.set_append_left _ _ (by rw [hc]; omega)]
      simp at ha
      simp [ha]
    | succ k =>
      simp only [List.flatMap_cons, List.set_cons_succ]
      have e : (k + 1) * m + j - (c b).length = k * m + j := by rw [hc, Nat.succ_mul]; omega
      rw [List.set_append_right _ _ (by rw [hc, Nat.succ_mul]; omega), e, ih k (by simpa using hi) (by simpa using ha)]
end

theorem add_none (b o j : Nat) : (⟨b, o, none⟩ : Addr).add j = ⟨b, o + j, none⟩ := by
  unfold Addr.add
  split <;> simp_all
theorem cell_at {w : World} {b : Nat} {cs : Array Value} {t : TypeId} {fr : Nat × Nat} (h : w.heap[b]? = some (.cells cs t fr)) (j : Nat) : w.cell? ⟨b, j, none⟩ = cs[j]? := by simp [World.cell?, h]
/-- Where an append of one element leaves its result: in the slice's own block, or in a new one. -/
theorem append_where {P : Program} {w : World} {base : Nat} {t ty e : TypeId} {i : TypeInfo} {z : Value} (ht : P.underlying t = some (.slice e)) (hi : P.info? e = some i) (hz : i.zero = some z)
    (v : Value) (n : Nat) (xs : List Value) (hown : w.ownsRow base e i.size v n xs)
    (a : Addr) (m c : Nat) (hm : 0 < m) (news : List Value) (hl : news.length = m * i.size) (hnews : ∀ j u, news[j]? = some u → w.cell? (a.add j) = some u) (h1 : ∀ u ∈ news, u.oneCell' = true)
    (h63 : n + m ≤ maxLen) (hbytes : (n + m) * i.bytes ≤ 140737488355328) {v' : Value} {w' : World} (hr' : (Builtin.append_ #[t, t] ty #[v, .slice (some a) m c]).run P w = .ok v' w') :
    v'.ownBlock = v.ownBlock ∨ v'.ownBlock = some w.heap.size := by
  have hsmall : n + m ≤ 9223372036854775807 := by simp only [maxLen] at h63; omega
  rcases hown.2 with ⟨rfl, rfl⟩ | ⟨g, cap, cur, rfl, hbg, hg, hnc, hcm, hcs, htake⟩
  · have hr := run_append_nil (P := P) w t ty e i z ht hi hz a m c news hl hnews (by omega) (by omega) (by have hb := hbytes; simp only [Nat.zero_add] at hb; omega)
    rw [hr] at hr'
    cases hr'
    exact .inr rfl
  · by_cases hroom : n + m ≤ cap
    · have hfit : n * i.size + news.length ≤ cur.size := by rw [hl, hcs, ← Nat.add_mul]; exact Nat.mul_le_mul_right _ hroom
      have hr := run_append_room (P := P) w t ty e i ht hi g n cap cur hg a m c news hl hnews h1 hroom hfit
      rw [hr] at hr'
      cases hr'
      exact .inl rfl
    · have holds : ∀ j u, xs[j]? = some u → w.cell? ((⟨g, 0, none⟩ : Addr).add j) = some u := hown.cells (g := g) rfl
      have hr := run_append_grow (P := P) w t ty e i z ht hi hz ⟨g, 0, none⟩ n cap xs hown.1 holds a m c news hl hnews (by omega) (by omega) (growslice_fits (by omega) hbytes)
      rw [hr] at hr'
      cases hr'
      exact .inr rfl

/-- A slice that the call owns, from the head of its block on. -/
def Sl (w : World) (base : Nat) (e : TypeId) (m : Nat) (c : α → List Value) (v : Value) (L : List α) : Prop := w.ownsRow base e m v L.length (L.flatMap c)
/-- A slice that is read. -/
def SlAt (w : World) (m : Nat) (c : α → List Value) (v : Value) (L : List α) : Prop :=
  (L = [] ∧ ∃ sa cap, v = .slice sa 0 cap) ∨ ∃ b o cap, v = .slice (some ⟨b, o, none⟩) L.length cap ∧ L.length ≤ 9223372036854775807 ∧ b < w.heap.size ∧ ∀ i j, (hi : i < L.length) → j < m → w.cell? ⟨b, o + i * m + j, none⟩ = (c L[i])[j]?

/-- The slice's block, if it has one, is none of a list. -/
def Off (v : Value) (bs : List Nat) : Prop := ∀ g, v.ownBlock = some g → g ∉ bs

section
variable {w w' : World} {base e m : Nat} {c : α → List Value} {v : Value} {L : List α}
theorem Sl.nil (w : World) (base e m : Nat) (c : α → List Value) : Sl w base e m c (.slice none 0 0) [] := World.ownsRow_nil _ _ _ _
theorem Sl.form (h : Sl w base e m c v L) : (v = .slice none 0 0 ∧ L = []) ∨ ∃ g cap, v = .slice (some ⟨g, 0, none⟩) L.length cap ∧ base ≤ g ∧ g < w.heap.size ∧ L.length ≤ cap ∧ cap ≤ maxLen ∧ ∃ cur, w.heap[g]? = some (.cells cur e (0, 0)) ∧ cur.size = cap * m := by
  rcases h.2 with ⟨h1, h2⟩ | ⟨g, cap, cur, h1, h2, h3, h4, h5, h6, _⟩
  · exact .inl ⟨h1, List.eq_nil_of_length_eq_zero h2⟩
  · exact .inr ⟨g, cap, h1, h2, (Array.getElem?_eq_some_iff.1 h3).1, h4, h5, cur, h3, h6⟩
theorem Sl.cell {g n cap : Nat} (h : Sl w base e m c (.slice (some ⟨g, 0, none⟩) n cap) L) (hc : ∀ a, (c a).length = m) (i j : Nat) (hi : i < L.length) (hj : j < m) : w.cell? ⟨g, i * m + j, none⟩ = (c L[i])[j]? := by
  obtain rfl : n = L.length := by
    rcases h.form with ⟨h1, _⟩ | ⟨g', cap', h1, _⟩
    · cases h1
    · cases h1; rfl
  have hlt : i * m + j < L.length * m := by
    have : (i + 1) * m ≤ L.length * m := Nat.mul_le_mul_right _ hi
    rw [Nat.succ_mul] at this; omega
  rw [World.ownsRow.cellAt h _ hlt, flat_at hc L i j hi hj]
theorem Sl.frozen {g n cap : Nat} (h : Sl w base e m c (.slice (some ⟨g, 0, none⟩) n cap) L) (j : Nat) : w.frozen? ⟨g, j, none⟩ = false := by
  obtain rfl : n = L.length := by
    rcases h.form with ⟨h1, _⟩ | ⟨g', cap', h1, _⟩
    · cases h1
    · cases h1; rfl
  exact World.ownsRow.frozenAt h j
theorem Sl.lt (h : Sl w base e m c v L) : ∀ g, v.ownBlock = some g → base ≤ g ∧ g < w.heap.size := fun g hg => World.ownsRow.lt h g hg
theorem Sl.same (h : Sl w base e m c v L) (hs : w.heap.size ≤ w'.heap.size) (hb : ∀ g, v.ownBlock = some g → w'.heap[g]? = w.heap[g]?) : Sl w' base e m c v L := by
  have hs' := hs
  refine ⟨h.1, ?_⟩
  rcases h.2 with ⟨h1, h2⟩ | ⟨g, cap, cur, h1, h2, h3, h4⟩
  · exact .inl ⟨h1, h2⟩
  · exact .inr ⟨g, cap, cur, h1, h2, (hb g (by rw [h1]; rfl)).trans h3, h4⟩
theorem Sl.only {bs : List Nat} (h : Sl w base e m c v L) (ho : Only bs w w') (hd : Off v bs) : Sl w' base e m c v L :=
  h.same ho.size (fun g hg => ho.block g (h.lt g hg).2 (hd g hg))
theorem Sl.below {n : Nat} (h : Sl w base e m c v L) (ho : Below n w w') (hn : ∀ g, v.ownBlock = some g → g < n) : Sl w' base e m c v L :=
  h.same ho.size (fun g hg => ho.block g (hn g hg))
theorem Sl.mono {base' : Nat} (h : Sl w base e m c v L) (hb : base' ≤ base) : Sl w base' e m c v L := by
  refine ⟨h.1, ?_⟩
  rcases h.2 with ⟨h1, h2⟩ | ⟨g, cap, cur, h1, h2, h3⟩
  · exact .inl ⟨h1, h2⟩
  · exact .inr ⟨g, cap, cur, h1, by omega, h3⟩
theorem Sl.at (h : Sl w base e m c v L) (hc : ∀ a, (c a).length = m) : SlAt w m c v L := by
  rcases h.form with ⟨rfl, rfl⟩ | ⟨g, cap, rfl, _, h2, h3, h4, _⟩
  · exact .inl ⟨rfl, _, _, rfl⟩
  · exact .inr ⟨g, 0, cap, rfl, by unfold maxLen at h4; omega, h2, fun i j hi hj => by rw [Nat.zero_add]; exact h.cell hc i j hi hj⟩
/-- A literal slice. -/
theorem Sl.lit (w : World) (L : List α) (hc : ∀ a, (c a).length = m) (hb : base ≤ w.heap.size) (hm : L.length ≤ maxLen) : Sl (w.alloc (.cells (L.flatMap c).toArray e)) base e m c (.slice (some ⟨w.heap.size, 0, none⟩) L.length L.length) L := by
  have := World.ownsRow_lit (base := base) (e := e) (size := m) w (L.flatMap c).toArray L.length hb hm (by simpa using flat_len hc L)
  unfold Sl
  simpa using this

/-- A store into one cell of an element. -/
theorem Sl.store {g cap : Nat} (h : Sl w base e m c (.slice (some ⟨g, 0, none⟩) L.length cap) L) (hc : ∀ a, (c a).length = m) (i j : Nat) (hi : i < L.length) (hj : j < m) (u : Value) (a : α) (ha : (c L[i]).set j u = c a) :
    Sl (w.setCell ⟨g, i * m + j, none⟩ u) base e m c (.slice (some ⟨g, 0, none⟩) L.length cap) (L.set i a) := by
  have := (World.ownsRow.stored h (i * m + j) u).1
  rw [flat_set hc L i j hi hj u a ha] at this
  unfold Sl
  simpa using this
/-- append(v, x): the run. -/
theorem Sl.push {P : Program} {t ty : TypeId} {z : Value} {bytes b : Nat} {e' : TypeId} {fr : Nat × Nat} (h : Sl w base e m c v L) (hu : P.underlying t = some (.slice e)) (hi : (P.info? e).map (fun i => (i.zero, i.size, i.bytes)) = some (some z, m, bytes))
    (hz : z.cells.size = m) (hm : 0 < m) (hc : ∀ a, (c a).length = m) (h1 : ∀ a, ∀ u ∈ c a, u.oneCell' = true) (a : α) (hb : w.heap[b]? = some (.cells (c a).toArray e' fr))
    (hl : L.length + 1 ≤ 100000000000000) (hby : (L.length + 1) * bytes ≤ 140737488355328) (hbase : base ≤ w.heap.size) (cc : Nat) :
    ∃ (g cap : Nat) (W2 : World), (Builtin.append_ #[t, t] ty #[v, .slice (some ⟨b, 0, none⟩) 1 cc]).run P w = .ok (.slice (some ⟨g, 0, none⟩) (L.length + 1) cap) W2 ∧ Sl W2 base e m c (.slice (some ⟨g, 0, none⟩) (L.length + 1) cap) (L ++ [a]) ∧ w.grownBy W2 v.ownBlock ∧ (v.ownBlock = some g ∨ w.heap.size ≤ g) := by
  obtain ⟨i0, hi0, hz0, hz1, hz2⟩ := info_parts hi
  obtain ⟨v', W2, hrun, hown, hgrow, _⟩ := run_append_own (P := P) w base t ty e i0 z m bytes hu hi0 hz0 hz1 hz2 hz hm v L.length (L.flatMap c) h ⟨b, 0, none⟩ 1 cc (c a) (by rw [hc]; omega)
    (fun j u hj => by rw [add_none, cell_at hb]; simpa using hj) (h1 a) (by unfold maxLen; omega) hby hbase
  have hown' : Sl W2 base e m c v' (L ++ [a]) := by
    unfold Sl
    rw [List.flatMap_append]
    simpa using hown
  rcases hown'.form with ⟨_, h0⟩ | ⟨g, cap, rfl, _, hg2, _, _, cur, hcur, _⟩
  · simp at h0
  · simp only [List.length_append, List.length_cons, List.length_nil, Nat.zero_add] at hrun hown'
    refine ⟨g, cap, W2, hrun, hown', hgrow, ?_⟩
    subst hz1 hz2
    have := append_where hu hi0 hz0 v L.length (L.flatMap c) h ⟨b, 0, none⟩ 1 cc (by omega) (c a) (by rw [hc]; omega)
      (fun j u hj => by rw [add_none, cell_at hb]; simpa using hj) (h1 a) (by unfold maxLen; omega) hby hrun
    rcases this with q | q
    · exact .inl q.symm
    · refine .inr ?_
      simp [Value.ownBlock] at q
      omega
end

theorem SlAt.len {w : World} {m : Nat} {α : Type} {c : α → List Value} {v : Value} {L : List α} (h : SlAt w m c v L) : L.length ≤ 9223372036854775807 ∧ ∃ sa cap, v = .slice sa L.length cap := by
  rcases h with ⟨rfl, sa, cap, rfl⟩ | ⟨b, o, cap, rfl, hl, _⟩
  · exact ⟨by simp, _, _, rfl⟩
  · exact ⟨hl, _, _, rfl⟩
theorem SlAt.get {w : World} {m : Nat} {α : Type} {c : α → List Value} {sa : Option Addr} {n cap : Nat} {L : List α} (h : SlAt w m c (.slice sa n cap) L) (hne : 0 < L.length) : ∃ b o, sa = some ⟨b, o, none⟩ ∧ b < w.heap.size ∧ ∀ i j, (hi : i < L.length) → j < m → w.cell? ⟨b, o + i * m + j, none⟩ = (c L[i])[j]? := by
  rcases h with ⟨rfl, _⟩ | ⟨b, o, cap', e, hl, hb, hc⟩
  · simp at hne
  · simp at e
    exact ⟨b, o, e.1, hb, hc⟩
/-- An append whose run is known: in a walk, in a walk inside a fence, in a region that draws. -/
theorem wpList_append_run {P : Program} {w w' : World} {ops : Array Oper} {rest : List Oper} {o : Oper} {a : Act} {Q : Exit → Act → World → Prop} {v src v' : Value}
    (hg : o.guard = none) (s x : Operand) (t t2 : TypeId) (hop : o.op = Op.call { callee := Callee.builtin Builtin.append, args := #[s, x], argTypes := #[t, t2] })
    (hs : a.eval s = v) (hx : a.eval x = src) (hrun : (Builtin.append_ #[t, t2] o.type #[v, src]).run P w = .ok v' w') (hK : wpList P ops Q rest (a.put o.dst v') w') :
    wpList P ops Q (o :: rest) a w := by
  refine wpList_plain hg fun K hK' => ?_
  unfold Oper.wp
  simp [execOp, hop, resolve, invoke, builtin, hs, hx, hrun, Result.andThen]
  exact hK' _ _ hK
theorem wpListIn_append_run {F : Fence} {n : Nat} {P : Program} {w w' : World} {ops : Array Oper} {rest : List Oper} {o : Oper} {a : Act} {Q : Exit → Act → World → Prop} {v src v' : Value}
    (hg : o.guard = none) (s x : Operand) (t t2 : TypeId) (hop : o.op = Op.call { callee := Callee.builtin Builtin.append, args := #[s, x], argTypes := #[t, t2] })
    (hs : a.eval s = v) (hx : a.eval x = src) (hrun : (Builtin.append_ #[t, t2] o.type #[v, src]).run P w = .ok v' w') (hK : wpListIn F n P ops Q rest (a.put o.dst v') w') :
    wpListIn F n P ops Q (o :: rest) a w := by
  refine wpListIn_plain hg fun K hK' => ?_
  unfold Oper.wpIn
  refine ⟨?_, ?_⟩
  · simp [Oper.about, hop, resolve, Target.leads, Sem.run_pure]
  · rw [Oper.semAt_plain F _ _ (by rw [hop]; intro c hc'; cases hc')]
    simp [execOp, hop, resolve, invoke, builtin, hs, hx, hrun, Result.andThen]
    exact hK' _ _ hK
theorem step_append_run {P : Program} {ops : Array Oper} {o : Oper} {a : Act} {w w' : World} {K : Act → World → Prop} {Q : Exit → Act → World → Prop} {E : Prop} {v src v' : Value}
    (hg : o.guard = none) (s x : Operand) (t t2 : TypeId) (hop : o.op = Op.call { callee := Callee.builtin Builtin.append, args := #[s, x], argTypes := #[t, t2] })
    (hs : a.eval s = v) (hx : a.eval x = src) (hrun : (Builtin.append_ #[t, t2] o.type #[v, src]).run P w = .ok v' w') (hK : K (a.put o.dst v') w') :
    if Region.wanted o (yielded ops a.tmps) = true then Oper.wp P o a w K Q else E := by
  have hw : Region.wanted o (yielded ops a.tmps) = true := by simp [Region.wanted, hg]
  rw [if_pos hw]
  unfold Oper.wp
  simp [execOp, hop, resolve, invoke, builtin, hs, hx, hrun, Result.andThen]
  exact hK
end Go.Rw
namespace Go.Rw
open Go Go.RowKit Go.Rt
variable {α : Type} {w : World} {base e m : Nat} {c : α → List Value} {v : Value} {L : List α}
theorem Sl.pushs {P : Program} {t ty : TypeId} {z : Value} {bytes b o : Nat} (h : Sl w base e m c v L) (hu : P.underlying t = some (.slice e)) (hi : (P.info? e).map (fun i => (i.zero, i.size, i.bytes)) = some (some z, m, bytes))
    (hz : z.cells.size = m) (hm : 0 < m) (hc : ∀ a, (c a).length = m) (h1 : ∀ a, ∀ u ∈ c a, u.oneCell' = true) (M : List α) (hb : ∀ j u, (M.flatMap c)[j]? = some u → w.cell? ⟨b, o + j, none⟩ = some u)
    (hl : L.length + M.length ≤ 100000000000000) (hby : (L.length + M.length) * bytes ≤ 140737488355328) (hbase : base ≤ w.heap.size) (cc : Nat) :
    ∃ (v' : Value) (W2 : World), (Builtin.append_ #[t, t] ty #[v, .slice (some ⟨b, o, none⟩) M.length cc]).run P w = .ok v' W2 ∧ Sl W2 base e m c v' (L ++ M) ∧ w.grownBy W2 v.ownBlock ∧ (v'.ownBlock = v.ownBlock ∨ v'.ownBlock = some w.heap.size) := by
  obtain ⟨i0, hi0, hz0, hz1, hz2⟩ := info_parts hi
  obtain ⟨v', W2, hrun, hown, hgrow, _, hwh⟩ := run_append_own_at (P := P) w base t ty e i0 z m bytes hu hi0 hz0 hz1 hz2 hz hm v L.length (L.flatMap c) h ⟨b, o, none⟩ M.length cc (M.flatMap c) (flat_len hc M)
    (fun j u hj => by rw [add_none]; exact hb j u hj) (fun u hu => by obtain ⟨a, _, ha⟩ := List.mem_flatMap.1 hu; exact h1 a u ha) (by unfold maxLen; omega) hby hbase
  refine ⟨v', W2, hrun, ?_, hgrow, hwh⟩
  unfold Sl
  rw [List.flatMap_append, List.length_append]
  exact hown
end Go.Rw
namespace Go.Proofs.YtekfnonjhcfdmaaDoor
open Go.RowKit Go.Rt

/-- Block g is just the cells cs of element type t. -/
def Blk (w : World) (g : Nat) (t : TypeId) (cs : Array Value) : Prop := w.heap[g]? = some (.cells cs t (0, 0))
section
variable {w w' : World} {g : Nat} {t : TypeId} {cs : Array Value}
theorem Blk.lt (h : Blk w g t cs) : g < w.heap.size := (Array.getElem?_eq_some_iff.1 h).1
theorem Blk.cell (h : Blk w g t cs) (i : Nat) : w.cell? ⟨g, i, none⟩ = cs[i]? := by unfold Blk at h; simp [World.cell?, h]
theorem Blk.frozen (h : Blk w g t cs) (i : Nat) : w.frozen? ⟨g, i, none⟩ = false := by unfold Blk at h; simp [World.frozen?, h]
theorem Blk.new (w : World) (t : TypeId) (cs : Array Value) : Blk (w.alloc (.cells cs t)) w.heap.size t cs := World.alloc_heap_new w _
theorem Blk.drew (h : Blk w g t cs) : Blk w.drew g t cs := h
theorem Blk.drewN (h : Blk w g t cs) (n : Nat) : Blk (w.drewN n) g t cs := h
theorem Blk.alloc (h : Blk w g t cs) (o : Obj) : Blk (w.alloc o) g t cs := (Below.heap_alloc w o g h.lt).trans h
theorem Blk.set_ (h : Blk w g t cs) (i : Nat) (u : Value) : Blk (w.setCell ⟨g, i, none⟩ u) g t (cs.setIfInBounds i u) := by
  unfold Blk at h ⊢
  simp [World.setCell, Array.getElem?_modify, h]
theorem Blk.far (h : Blk w g t cs) {p : Addr} (hp : g ≠ p.block) (u : Value) : Blk (w.setCell p u) g t cs := (Below.heap_setCell w p u g hp).trans h
theorem Blk.below {B : Nat} (h : Blk w g t cs) (hb : Below B w w') (hg : g < B) : Blk w' g t cs := (hb.block g hg).trans h
theorem Blk.ne_ {g' : Nat} {t' : TypeId} {cs' : Array Value} (h : Blk w g t cs) (h' : Blk w g' t' cs') (hne : t ≠ t') : g ≠ g' := by
  rintro rfl
  unfold Blk at h h'
  rw [h] at h'
  injection h' with h'
  injection h' with _ ht
  exact hne ht
end

section
variable {w : World} {b : Nat} {t : TypeId}
theorem Blk.range {cs : Array Value} (h : Blk w b t cs) : w.rangeAt b 0 cs.toList := fun j v hv => by
  rw [Nat.zero_add, h.cell]; simpa using hv
theorem Blk.there {cs : Array Value} (h : Blk w b t cs) : w.there b 0 cs.size := fun j hj => by
  rw [Nat.zero_add, h.cell, h.frozen]; simp [hj]
theorem heap_setCells (b : Nat) (t : TypeId) : ∀ (L old pre : List Value) (w : World), L.length = old.length → Blk w b t (pre ++ old).toArray → Blk (w.setCells b pre.length L) b t (pre ++ L).toArray
  | [], [], pre, w, _, h => by simpa [World.setCells] using h
  | [], _ :: _, _, _, h, _ => by simp at h
  | _ :: _, [], _, _, h, _ => by simp at h
  | v :: r, o :: old, pre, w, hl, h => by
    have h1 := h.set_ pre.length v
    have e : ((pre ++ o :: old).toArray).setIfInBounds pre.length v = ((pre ++ [v]) ++ old).toArray := by
      simp
    rw [e] at h1
    have := heap_setCells b t r old (pre ++ [v]) _ (by simpa using hl) h1
    simpa [World.setCells] using this
theorem only_setCells (b : Nat) : ∀ (L : List Value) (o : Nat) (w : World), Only [b] w (w.setCells b o L)
  | [], _, w => Only.refl _ w
  | v :: r, o, w => (Only.setCell w ⟨b, o, none⟩ v (by simp)).trans (only_setCells b r (o + 1) _)
theorem Blk.setCells {cs : Array Value} (h : Blk w b t cs) (L : List Value) (hl : L.length = cs.size) : Blk (w.setCells b 0 L) b t L.toArray := by
  have := heap_setCells b t L cs.toList [] w (by simpa using hl) (by simpa using h)
  simpa using this
theorem Blk.only {bs : List Nat} {w' : World} {cs : Array Value} (h : Blk w b t cs) (ho : Only bs w w') (hb : b ∉ bs) : Blk w' b t cs := (ho.block b h.lt hb).trans h
end
theorem wpList_load_blk {P : Program} {ops : Array Oper} {rest : List Oper} {op : Oper} {a : Act} {w : World} {Q : Exit → Act → World → Prop} (hgd : op.guard = none) (ty : TypeId) (x : Operand) (ho : op.op = .load ty x)
    (b : Nat) (hx : a.eval x = .pointer (some ⟨b, 0, none⟩)) (cs : Array Value) (t : TypeId) (d : TypeDesc) (hc : Blk w b t cs)
    (hu : P.underlying ty = some d) (hd : d.isRow = true) (hi : (P.info? ty).map (·.size) = some cs.size)
    (h : wpList P ops Q rest (a.put op.dst (.agg cs)) w) : wpList P ops Q (op :: rest) a w :=
  wpList_load_mid hgd ty x ho b 0 hx cs.toList d hc.range hu hd (by simpa using hi) (by simpa using h)
theorem put_none (a : Act) (d : Option Tmp) (hd : d = none) (v : Value) : a.put d v = a := by subst hd; rfl
theorem wpList_store_blk {P : Program} {ops : Array Oper} {rest : List Oper} {op : Oper} {a : Act} {w : World} {Q : Exit → Act → World → Prop} (hgd : op.guard = none) (ty : TypeId) (x y : Operand) (ho : op.op = .store ty x y) (hdst : op.dst = none)
    (b : Nat) (cells cs : Array Value) (t : TypeId) (hx : a.eval x = .pointer (some ⟨b, 0, none⟩)) (hy : a.eval y = .agg cells)
    (hc : Blk w b t cs) (hs : cells.size = cs.size) (hi : (P.info? ty).map (·.size) = some cells.size) (h1 : cells.all (·.oneCell') = true)
    (h : ∀ w', Blk w' b t cells → Only [b] w w' → wpList P ops Q rest a w') : wpList P ops Q (op :: rest) a w :=
  wpList_store_mid hgd ty x y ho b 0 cells hx hy (by rw [hs]; exact hc.there) hi h1 (by rw [put_none _ _ hdst]; exact h _ (by simpa using hc.setCells cells.toList (by simpa using hs)) (only_setCells b _ 0 w))
theorem results_blk {P : Program} {fn : Func} {a : Tmp} {ty t : TypeId} (h : fn.results = #[.cell a ty]) (tmps : Array Value) (w : World) (b : Nat) (cs : Array Value) (d : TypeDesc) (hx : tmps.getD a undef = .pointer (some ⟨b, 0, none⟩))
    (hc : Blk w b t cs) (hu : P.underlying ty = some d) (hd : d.isRow = true) (hi : (P.info? ty).map (·.size) = some cs.size) : (results fn tmps).run P w = .ok (.agg cs) w := by
  have := run_loadVar_mid (P := P) w b 0 ty cs.toList d hc.range hu hd (by simpa using hi)
  rw [Array.getD_eq_getD_getElem?] at hx
  simp only [Array.toArray_toList] at this
  simp [results, h, hx, asAddr, this]

theorem run_storeVar_fld {P : Program} (w : World) (b i : Nat) (ty t : TypeId) (v : Value) (cs : Array Value) (hc : Blk w b t cs) (hi : i < cs.size) (hu : (P.info? ty).map (·.size) = some 1) (h1 : v.oneCell' = true) :
    (storeVar ty ⟨b, i, none⟩ v).run P w = .ok () (w.setCell ⟨b, i, none⟩ v) := by
  have := run_storeCells_cells (P := P) b i [v] 0 w (fun j hj => by simp at hj; subst hj; simp [hc.cell, hi]) (fun j hj => by simp at hj; subst hj; simp [hc.frozen]) (fun x hx => by simp at hx; subst hx; exact h1)
  have he : v.cells = #[v] := by cases v <;> first | rfl | cases h1
  cases hq : P.info? ty with
  | none => simp [hq] at hu
  | some k =>
    have hs : k.size = 1 := by simpa [hq] using hu
    simp only [Nat.add_zero, World.setCells] at this
    simp [storeVar, sizeOf, typeInfo, hq, he, hs, this]
/-- A store into one field of a struct that is known whole; the world behind it is a letter. -/
theorem wpList_store_fld {P : Program} {ops : Array Oper} {rest : List Oper} {op : Oper} {a : Act} {w : World} {Q : Exit → Act → World → Prop} (hgd : op.guard = none) (ty : TypeId) (x y : Operand) (ho : op.op = .store ty x y) (hdst : op.dst = none)
    (b i : Nat) (cs : Array Value) (t : TypeId) (v : Value) (hx : a.eval x = .pointer (some ⟨b, i, none⟩)) (hy : a.eval y = v)
    (hc : Blk w b t cs) (hi : i < cs.size) (hu : (P.info? ty).map (·.size) = some 1) (h1 : v.oneCell' = true)
    (h : ∀ w', w' = w.setCell ⟨b, i, none⟩ v → wpList P ops Q rest a w') : wpList P ops Q (op :: rest) a w := by
  refine wpList_plain hgd fun _ hK => ?_
  unfold Oper.wp execOp
  simp only [ho, hx, hy, Instr.storeAt, Instr.sureAddr, Sem.run_bind, Sem.run_pure, Result.andThen_ok, run_storeVar_fld w b i ty t v cs hc hi hu h1]
  refine hK _ _ ?_
  rw [put_none _ _ hdst]
  exact h _ rfl
end Go.Proofs.YtekfnonjhcfdmaaDoor
namespace Go.Proofs.YtekfnonjhcfdmaaDoor

/-- An operand. -/
structure Ar where
  k : Int
  n : Int
deriving DecidableEq
/-- A segment. -/
structure Sg where
  ty : Int
  val : Ar
  size : Ar
  little : Bool
/-- A case. -/
structure Cs where
  lit : Int
  to : Int
/-- An instruction. -/
structure In where
  op : Int
  dst : Ar
  src : List Ar
  to : Int
  n : Int
  live : Int
  name : ByteArray
  cases : List Cs
  segs : List Sg
def placeF (a : Ar) : Bool := (decide (a.k = 1) || (decide (a.k = 2) || decide (a.k = 4))) && (decide (0 ≤ a.n) && decide (a.n < 524288))
def regs (n : Nat) : List Ar := (List.range n).map fun k : Nat => ⟨1, (k : Int)⟩
def callOp (op : Int) : Bool := decide (op = 15) || (decide (op = 18) || (decide (op = 19) || (decide (op = 20) || decide (op = 21))))
def moreF (x : In) : List Ar := if callOp x.op then (if x.n ≤ 16 then regs x.n.toNat else []) else if x.op = 26 then [⟨1, 0⟩] else []
def segArgs (l : List Sg) : List Ar := l.flatMap fun g => [g.val, g.size]
/-- What an instruction reads. -/
def usesF (x : In) : List Ar := (x.src ++ segArgs x.segs).filter placeF ++ moreF x
def giveOp (op : Int) : Bool := decide (op = 15) || (decide (op = 16) || (decide (op = 18) || (decide (op = 20) || (decide (op = 22) || decide (op = 37)))))
/-- What an instruction writes. -/
def defsF (x : In) : List Ar := (if placeF x.dst then [x.dst] else []) ++ (if giveOp x.op = true ∧ x.dst ≠ ⟨1, 0⟩ then [⟨1, 0⟩] else [])
def endOp (op : Int) : Bool := decide (op = 17) || (decide (op = 19) || (decide (op = 21) || (decide (op = 23) || (decide (op = 26) || decide (op = 27)))))
def jumpOp (op : Int) : Bool := decide (op = 8) || decide (op = 39)
def forkOp (op : Int) : Bool := decide (op = 9) || (decide (op = 10) || (decide (op = 11) || (decide (op = 13) || (decide (op = 30) || (decide (op = 31) || (decide (op = 32) || (decide (op = 33) || (decide (op = 34) || (decide (op = 37) || decide (op = 40))))))))))
/-- Where an instruction may lead to; perhaps some twice or out of range. -/
def targF (x : In) (i : Int) : List Int :=
  if endOp x.op then [] else if jumpOp x.op then [x.to] else if x.op = 12 then x.to :: x.cases.map (·.to) else if forkOp x.op then [i + 1, x.to] else [i + 1]

/-- One more in an ascending list. -/
def insF : List Int → Int → List Int
  | [], n => [n]
  | a :: r, n => if n < a then n :: a :: r else if n = a then a :: r else a :: insF r n
def asc (l : List Int) : List Int := l.foldl insF []
def Up (l : List Int) : Prop := l.Pairwise (· < ·)
theorem mem_insF : ∀ (l : List Int) (n k : Int), k ∈ insF l n ↔ k = n ∨ k ∈ l
  | [], n, k => by simp [insF]
  | a :: r, n, k => by
    unfold insF
    split
    · simp
    · split
      · rename_i h
        subst h
        simp
      · rw [List.mem_cons, List.mem_cons, mem_insF r n k]
        constructor
        · rintro (h | h | h)
          · exact .inr (.inl h)
          · exact .inl h
          · exact .inr (.inr h)
        · rintro (h | h | h)
          · exact .inr (.inl h)
          · exact .inl h
          · exact .inr (.inr h)
theorem up_insF : ∀ (l : List Int) (n : Int), Up l → Up (insF l n)
  | [], n, _ => by unfold insF Up; exact List.pairwise_singleton _ _
  | a :: r, n, h => by
    unfold Up at h
    obtain ⟨h1, h2⟩ := List.pairwise_cons.1 h
    unfold insF
    split
    · rename_i hn
      exact List.pairwise_cons.2 ⟨fun b hb => by
        rcases List.mem_cons.1 hb with rfl | hb
        · exact hn
        · exact Int.lt_trans hn (h1 b hb), h⟩
    · rename_i hn
      split
      · exact h
      · rename_i he
        refine List.pairwise_cons.2 ⟨fun b hb => ?_, up_insF r n h2⟩
        rcases (mem_insF r n b).1 hb with rfl | hb
        · omega
        · exact h1 b hb
theorem insF_in : ∀ (l : List Int) (n : Int), Up l → n ∈ l → insF l n = l
  | [], n, _, h => by cases h
  | a :: r, n, hu, h => by
    obtain ⟨h1, h2⟩ := List.pairwise_cons.1 hu
    unfold insF
    rcases List.mem_cons.1 h with rfl | h
    · rw [if_neg (by omega), if_pos rfl]
    · have := h1 n h
      rw [if_neg (by omega), if_neg (by omega), insF_in r n h2 h]
theorem mem_foldl_insF : ∀ (l a : List Int) (k : Int), k ∈ l.foldl insF a ↔ k ∈ a ∨ k ∈ l
  | [], a, k => by simp
  | b :: r, a, k => by
    rw [List.foldl_cons, mem_foldl_insF r, mem_insF, List.mem_cons]
    constructor
    · rintro ((h | h) | h)
      · exact .inr (.inl h)
      · exact .inl h
      · exact .inr (.inr h)
    · rintro (h | h | h)
      · exact .inl (.inr h)
      · exact .inl (.inl h)
      · exact .inr h
theorem up_foldl_insF : ∀ (l a : List Int), Up a → Up (l.foldl insF a)
  | [], _, h => h
  | b :: r, a, h => up_foldl_insF r _ (up_insF a b h)
theorem mem_asc (l : List Int) (k : Int) : k ∈ asc l ↔ k ∈ l := by unfold asc; rw [mem_foldl_insF]; simp
theorem up_asc (l : List Int) : Up (asc l) := up_foldl_insF l [] List.Pairwise.nil
/-- Ascending lists with the same members are equal. -/
theorem up_ext : ∀ (l m : List Int), Up l → Up m → (∀ k, k ∈ l ↔ k ∈ m) → l = m
  | [], [], _, _, _ => rfl
  | [], b :: s, _, _, h => absurd ((h b).2 (List.mem_cons_self ..)) (by simp)
  | a :: r, [], _, _, h => absurd ((h a).1 (List.mem_cons_self ..)) (by simp)
  | a :: r, b :: s, hl, hm, h => by
    obtain ⟨h1, h2⟩ := List.pairwise_cons.1 hl
    obtain ⟨h3, h4⟩ := List.pairwise_cons.1 hm
    have hab : a = b := by
      rcases List.mem_cons.1 ((h a).1 (List.mem_cons_self ..)) with q | q
      · exact q
      · rcases List.mem_cons.1 ((h b).2 (List.mem_cons_self ..)) with p | p
        · exact p.symm
        · have := h3 a q
          have := h1 b p
          omega
    subst hab
    rw [up_ext r s h2 h4 fun k => ?_]
    have hk := h k
    rw [List.mem_cons, List.mem_cons] at hk
    constructor
    · intro q
      rcases hk.1 (.inr q) with e | e
      · have := h1 k q
        omega
      · exact e
    · intro q
      rcases hk.2 (.inr q) with e | e
      · have := h3 k q
        omega
      · exact e
def inR (l : List In) (k : Int) : Bool := decide (0 ≤ k) && decide (k < l.length)
/-- The successors of an instruction, ascending. -/
def nextF (l : List In) (i : Int) : List Int := if h : 0 ≤ i ∧ i.toNat < l.length then asc ((targF (l[i.toNat]'h.2) i).filter (inR l)) else []
theorem up_nextF (l : List In) (i : Int) : Up (nextF l i) := by
  unfold nextF
  split
  · exact up_asc _
  · exact List.Pairwise.nil
theorem mem_nextF (l : List In) (i : Nat) (h : i < l.length) (k : Int) : k ∈ nextF l i ↔ (0 ≤ k ∧ k < l.length) ∧ k ∈ targF l[i] i := by
  unfold nextF
  rw [dif_pos ⟨by omega, by simpa using h⟩, mem_asc, List.mem_filter]
  unfold inR
  simp only [Int.toNat_natCast, Bool.and_eq_true, decide_eq_true_eq]
  exact ⟨fun q => ⟨q.2, q.1⟩, fun q => ⟨q.2, q.1⟩⟩
/-- An instruction can be reached. -/
inductive Rch (l : List In) (fr : List Int) : Nat → Prop
  | entry (i : Nat) : (i : Int) ∈ fr → i < l.length → Rch l fr i
  | step (i j : Nat) (hi : i < l.length) : Rch l fr i → j < l.length → (j : Int) ∈ targF l[i] i → Rch l fr j
  | hand (i j : Nat) (hi : i < l.length) : Rch l fr i → j < l.length → l[i].op = 28 → l[i].to = j → Rch l fr j
theorem Rch.lt {l : List In} {fr : List Int} {i : Nat} (h : Rch l fr i) : i < l.length := by
  cases h <;> assumption
/-- What is open behind an instruction. -/
def aftF (x : In) (t : List Int) : Option (List Int) := if x.op = 28 then some (t ++ [x.to]) else if x.op = 29 then (if t = [] then none else some t.dropLast) else some t
/-- An assignment of open handlers that fits along every path. -/
structure Fits (l : List In) (fr : List Int) (T : Nat → List Int) : Prop where
  entry : ∀ i : Nat, (i : Int) ∈ fr → i < l.length → T i = []
  hand : ∀ (i j : Nat) (hi : i < l.length), Rch l fr i → j < l.length → l[i].op = 28 → l[i].to = j → T j = T i
  step : ∀ (i : Nat) (hi : i < l.length), Rch l fr i → ∃ o, aftF l[i] (T i) = some o ∧ ∀ j : Nat, j < l.length → (j : Int) ∈ targF l[i] i → T j = o
/-- It is the only one. -/
theorem Fits.one {l : List In} {fr : List Int} {T U : Nat → List Int} (h : Fits l fr T) (k : Fits l fr U) : ∀ i, Rch l fr i → T i = U i := by
  intro i hi
  induction hi with
  | entry i h1 h2 => rw [h.entry i h1 h2, k.entry i h1 h2]
  | step i j hl hr hj ht ih =>
    obtain ⟨o, ho, hs⟩ := h.step i hl hr
    obtain ⟨p, hp, hq⟩ := k.step i hl hr
    rw [ih, hp] at ho
    cases ho
    rw [hs j hj ht, hq j hj ht]
  | hand i j hl hr hj h1 h2 ih => rw [h.hand i j hl hr hj h1 h2, k.hand i j hl hr hj h1 h2, ih]
/-- A place is live before an instruction. -/
inductive Lv (l : List In) (fr : List Int) (T : Nat → List Int) (kd : Int) : Nat → Int → Prop
  | use (i : Nat) (hi : i < l.length) (n : Int) : Rch l fr i → ⟨kd, n⟩ ∈ usesF l[i] → Lv l fr T kd i n
  | step (i j : Nat) (hi : i < l.length) (n : Int) : Rch l fr i → j < l.length → (j : Int) ∈ targF l[i] i → ⟨kd, n⟩ ∉ defsF l[i] → Lv l fr T kd j n → Lv l fr T kd i n
  | hand (i j : Nat) (hi : i < l.length) (n : Int) : Rch l fr i → j < l.length → (T i).getLast? = some (j : Int) → Lv l fr T kd j n → Lv l fr T kd i n
end Go.Proofs.YtekfnonjhcfdmaaDoor
namespace Go.Proofs.YtekfnonjhcfdmaaDoor

/-- Whatever holds the entries and is closed holds all that can be reached. -/
theorem Rch.sub {l : List In} {fr : List Int} (S : Nat → Prop) (he : ∀ i : Nat, (i : Int) ∈ fr → i < l.length → S i)
    (hs : ∀ (i j : Nat) (hi : i < l.length), S i → j < l.length → (j : Int) ∈ targF l[i] i → S j)
    (hh : ∀ (i j : Nat) (hi : i < l.length), S i → j < l.length → l[i].op = 28 → l[i].to = j → S j) : ∀ i, Rch l fr i → S i := by
  intro i h
  induction h with
  | entry i h1 h2 => exact he i h1 h2
  | step i j hi _ hj ht ih => exact hs i j hi ih hj ht
  | hand i j hi _ hj h1 h2 ih => exact hh i j hi ih hj h1 h2
/-- More entries, more reached. -/
theorem Rch.more {l : List In} {fr fr' : List Int} (h : ∀ k, k ∈ fr → k ∈ fr') : ∀ i, Rch l fr i → Rch l fr' i :=
  Rch.sub (fun i => Rch l fr' i) (fun i h1 h2 => .entry i (h _ h1) h2) (fun i j hi hr hj ht => .step i j hi hr hj ht) (fun i j hi hr hj h1 h2 => .hand i j hi hr hj h1 h2)
theorem Rch.none {l : List In} (i : Nat) : ¬ Rch l [] i := fun h =>
  Rch.sub (fun _ => False) (fun i h => by cases h) (fun _ _ _ h => h.elim) (fun _ _ _ h => h.elim) i h
/-- What is forced along the paths. -/
def Forced (l : List In) (fr : List Int) (i : Nat) (t : List Int) : Prop := Rch l fr i ∧ ∀ T, Fits l fr T → T i = t
theorem Forced.entry {l : List In} {fr : List Int} (i : Nat) (h : (i : Int) ∈ fr) (hi : i < l.length) : Forced l fr i [] := ⟨.entry i h hi, fun _ hT => hT.entry i h hi⟩
theorem Forced.hand {l : List In} {fr : List Int} {i j : Nat} {t : List Int} (hi : i < l.length) (h : Forced l fr i t) (hj : j < l.length) (h1 : l[i].op = 28) (h2 : l[i].to = j) : Forced l fr j t :=
  ⟨.hand i j hi h.1 hj h1 h2, fun T hT => (hT.hand i j hi h.1 hj h1 h2).trans (h.2 T hT)⟩
theorem Forced.step {l : List In} {fr : List Int} {i j : Nat} {t o : List Int} (hi : i < l.length) (h : Forced l fr i t) (ho : aftF l[i] t = some o) (hj : j < l.length) (ht : (j : Int) ∈ targF l[i] i) : Forced l fr j o :=
  ⟨.step i j hi h.1 hj ht, fun T hT => by
    obtain ⟨p, hp, hq⟩ := hT.step i hi h.1
    rw [h.2 T hT, ho] at hp
    cases hp
    exact hq j hj ht⟩
/-- Two lists along two paths. -/
theorem Forced.clash {l : List In} {fr : List Int} {i : Nat} {t u : List Int} (h : Forced l fr i t) (k : Forced l fr i u) (hne : t ≠ u) : ¬ ∃ T, Fits l fr T := fun ⟨T, hT⟩ => hne ((h.2 T hT).symm.trans (k.2 T hT))
theorem Forced.shut {l : List In} {fr : List Int} {i : Nat} {t : List Int} (hi : i < l.length) (h : Forced l fr i t) (ho : aftF l[i] t = none) : ¬ ∃ T, Fits l fr T := fun ⟨T, hT⟩ => by
  obtain ⟨p, hp, _⟩ := hT.step i hi h.1
  rw [h.2 T hT, ho] at hp
  cases hp
/-- A search that ended: what is known is closed. -/
structure Shut (l : List In) (fr : List Int) (L : Nat → Option (List Int)) : Prop where
  forced : ∀ i t, L i = some t → Forced l fr i t
  entry : ∀ i : Nat, (i : Int) ∈ fr → i < l.length → L i = some []
  hand : ∀ (i j : Nat) (hi : i < l.length) (t : List Int), L i = some t → j < l.length → l[i].op = 28 → l[i].to = j → L j = some t
  step : ∀ (i : Nat) (hi : i < l.length) (t : List Int), L i = some t → ∃ o, aftF l[i] t = some o ∧ ∀ j : Nat, j < l.length → (j : Int) ∈ targF l[i] i → L j = some o
theorem Shut.rch {l : List In} {fr : List Int} {L : Nat → Option (List Int)} (h : Shut l fr L) (i : Nat) : Rch l fr i ↔ ∃ t, L i = some t := by
  constructor
  · intro hr
    refine Rch.sub (fun i => ∃ t, L i = some t) (fun i h1 h2 => ⟨_, h.entry i h1 h2⟩) (fun i j hi hs hj ht => ?_) (fun i j hi hs hj h1 h2 => ?_) i hr
    · obtain ⟨t, e⟩ := hs
      obtain ⟨o, _, hq⟩ := h.step i hi t e
      exact ⟨o, hq j hj ht⟩
    · obtain ⟨t, e⟩ := hs
      exact ⟨t, h.hand i j hi t e hj h1 h2⟩
  · rintro ⟨t, e⟩
    exact (h.forced i t e).1
theorem Shut.fits {l : List In} {fr : List Int} {L : Nat → Option (List Int)} (h : Shut l fr L) : Fits l fr (fun i => (L i).getD []) := by
  constructor
  · intro i h1 h2
    simp [h.entry i h1 h2]
  · intro i j hi hr hj h1 h2
    obtain ⟨t, e⟩ := (h.rch i).1 hr
    simp [e, h.hand i j hi t e hj h1 h2]
  · intro i hi hr
    obtain ⟨t, e⟩ := (h.rch i).1 hr
    obtain ⟨o, ho, hq⟩ := h.step i hi t e
    refine ⟨o, by simpa [e] using ho, fun j hj ht => by simp [hq j hj ht]⟩
open Classical in
/-- What Reach returns. -/
noncomputable def reachF (l : List In) (fr : List Int) : List Bool := (List.range l.length).map fun i => decide (Rch l fr i)
open Classical in
/-- What Tries returns: the lists, the error. -/
noncomputable def triesF (l : List In) (fr : List Int) : List (List Int) × Int :=
  if ∃ k, k ∈ fr ∧ inR l k = false then ([], 2)
  else if h : ∃ T, Fits l fr T then ((List.range l.length).map fun i => if Rch l fr i then h.choose i else [], 0) else ([], 182)
theorem triesF_shut {l : List In} {fr : List Int} {L : Nat → Option (List Int)} (hin : ∀ k, k ∈ fr → inR l k = true) (h : Shut l fr L) : triesF l fr = ((List.range l.length).map fun i => (L i).getD [], 0) := by
  unfold triesF
  have hT : ∃ T, Fits l fr T := ⟨_, h.fits⟩
  rw [if_neg (fun ⟨k, hk, e⟩ => by rw [hin k hk] at e; cases e), dif_pos hT]
  congr 1
  apply List.map_congr_left
  intro i _
  split
  · rename_i hr
    exact Fits.one hT.choose_spec h.fits i hr
  · rename_i hr
    cases e : L i with
    | none => rfl
    | some t => exact absurd ((h.rch i).2 ⟨t, e⟩) hr
theorem triesF_arg {l : List In} {fr : List Int} {k : Int} (hk : k ∈ fr) (e : inR l k = false) : triesF l fr = ([], 2) := by unfold triesF; rw [if_pos ⟨k, hk, e⟩]
theorem triesF_try {l : List In} {fr : List Int} (hin : ∀ k, k ∈ fr → inR l k = true) (h : ¬ ∃ T, Fits l fr T) : triesF l fr = ([], 182) := by
  unfold triesF
  rw [if_neg (fun ⟨k, hk, e⟩ => by rw [hin k hk] at e; cases e), dif_neg h]
end Go.Proofs.YtekfnonjhcfdmaaDoor
namespace Go.Rw
open Go Go.RowKit Go.Rt
theorem SlAt.keep {α : Type} {c : α → List Value} {m : Nat} {w w' : World} {v : Value} {L : List α} (h : SlAt w m c v L) (b : Below w.heap.size w w') : SlAt w' m c v L := by
  rcases h with h | ⟨g, o, cap, rfl, h1, h2, h3⟩
  · exact .inl h
  · exact .inr ⟨g, o, cap, rfl, h1, Nat.lt_of_lt_of_le h2 b.size, fun i j hi hj => by rw [← h3 i j hi hj]; exact b.cell (p := ⟨g, _, none⟩) h2⟩
end Go.Rw
namespace Go.Proofs.YtekfnonjhcfdmaaDoor
open Go.RowKit Go.Rt Go.Rw

def inC (n : Int) : List Value := [.int .i64 n]
def boC (b : Bool) : List Value := [.bool b]
def arC (a : Ar) : List Value := [.int .i64 a.k, .int .i64 a.n]
def csC (c : Cs) : List Value := [.int .i64 c.lit, .int .i64 c.to]
def sgC (g : Sg) : List Value := [.int .i64 g.ty, .int .i64 g.val.k, .int .i64 g.val.n, .int .i64 g.size.k, .int .i64 g.size.n, .bool g.little]
/-- An instruction in memory: its three slices beside it. -/
structure Im where
  x : In
  sv : Value
  cv : Value
  gv : Value
def imC (f : Im) : List Value := [.int .i64 f.x.op, .int .i64 f.x.dst.k, .int .i64 f.x.dst.n, f.sv, .int .i64 f.x.to, .int .i64 f.x.n, .int .i64 f.x.live, .string f.x.name, f.cv, f.gv]
def imV (f : Im) : Value := .agg #[.int .i64 f.x.op, .int .i64 f.x.dst.k, .int .i64 f.x.dst.n, f.sv, .int .i64 f.x.to, .int .i64 f.x.n, .int .i64 f.x.live, .string f.x.name, f.cv, f.gv]
/-- The slices of an instruction. -/
structure ImAt (w : World) (f : Im) : Prop where
  src : SlAt w 2 arC f.sv f.x.src
  cases : SlAt w 2 csC f.cv f.x.cases
  segs : SlAt w 6 sgC f.gv f.x.segs
theorem ImAt.keep {w w' : World} {f : Im} (h : ImAt w f) (b : Below w.heap.size w w') : ImAt w' f := ⟨h.src.keep b, h.cases.keep b, h.segs.keep b⟩
/-- A list of instructions. -/
def InsAt (w : World) (l : List In) (v : Value) : Prop := ∃ Fs : List Im, Fs.map (·.x) = l ∧ SlAt w 10 imC v Fs ∧ ∀ f ∈ Fs, ImAt w f
theorem InsAt.keep {w w' : World} {l : List In} {v : Value} (h : InsAt w l v) (b : Below w.heap.size w w') : InsAt w' l v := by
  obtain ⟨Fs, h1, h2, h3⟩ := h
  exact ⟨Fs, h1, h2.keep b, fun f hf => (h3 f hf).keep b⟩
theorem InsAt.form {w : World} {l : List In} {v : Value} (h : InsAt w l v) : l.length ≤ 9223372036854775807 ∧ ∃ sa cap, v = .slice sa l.length cap := by
  obtain ⟨Fs, h1, h2, _⟩ := h
  have := h2.len
  rw [show Fs.length = l.length from by rw [← h1, List.length_map]] at this
  exact this
/-- The cells of instruction i. -/
theorem InsAt.get {w : World} {l : List In} {sa : Option Addr} {n cap : Nat} (h : InsAt w l (.slice sa n cap)) (hne : 0 < l.length) : ∃ b o, sa = some ⟨b, o, none⟩ ∧ b < w.heap.size ∧
    ∀ i (hi : i < l.length), ∃ f : Im, f.x = l[i] ∧ ImAt w f ∧ ∀ j, j < 10 → w.cell? ⟨b, o + i * 10 + j, none⟩ = (imC f)[j]? := by
  obtain ⟨Fs, h1, h2, h3⟩ := h
  have hlen : Fs.length = l.length := by rw [← h1, List.length_map]
  obtain ⟨b, o, rfl, hb, hc⟩ := h2.get (by omega)
  refine ⟨b, o, rfl, hb, fun i hi => ⟨Fs[i], ?_, h3 _ (List.getElem_mem _), fun j hj => hc i j (by omega) hj⟩⟩
  subst h1
  simp
/-- The ten cells. -/
theorem cells10 {W : World} {b p : Nat} {f : Im} (h : ∀ j, j < 10 → W.cell? ⟨b, p + j, none⟩ = (imC f)[j]?) :
    W.cell? ⟨b, p, none⟩ = some (.int .i64 f.x.op) ∧ W.cell? ⟨b, p + 1, none⟩ = some (.int .i64 f.x.dst.k) ∧ W.cell? ⟨b, p + 2, none⟩ = some (.int .i64 f.x.dst.n) ∧ W.cell? ⟨b, p + 3, none⟩ = some f.sv ∧ W.cell? ⟨b, p + 4, none⟩ = some (.int .i64 f.x.to) ∧
      W.cell? ⟨b, p + 5, none⟩ = some (.int .i64 f.x.n) ∧ W.cell? ⟨b, p + 6, none⟩ = some (.int .i64 f.x.live) ∧ W.cell? ⟨b, p + 7, none⟩ = some (.string f.x.name) ∧ W.cell? ⟨b, p + 8, none⟩ = some f.cv ∧ W.cell? ⟨b, p + 9, none⟩ = some f.gv :=
  ⟨h 0 (by omega), h 1 (by omega), h 2 (by omega), h 3 (by omega), h 4 (by omega), h 5 (by omega), h 6 (by omega), h 7 (by omega), h 8 (by omega), h 9 (by omega)⟩
end Go.Proofs.YtekfnonjhcfdmaaDoor
