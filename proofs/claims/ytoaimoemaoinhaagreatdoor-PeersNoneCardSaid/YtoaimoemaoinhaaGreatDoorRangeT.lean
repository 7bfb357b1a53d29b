/- A range over a function whose iterator keeps a state of its own in memory: the iterator turns only blocks of a list T (what it has captured and what it has made), the loop's body keeps these. No condition beyond the premises of each theorem. -/
import Derived.RangeFuncNested
import Derived.RangeFuncBound
import Derived.RangeFuncCalls
import Derived.RangeFuncLeaves
import Derived.RangeFuncBox
import Derived.Deep.Draws
namespace Go.Rt
open Go Go.RowKit

/-- Nothing has turned but blocks of a list, and new ones. -/
structure Only (bs : List Nat) (w w' : World) : Prop where
  os : w'.os = w.os
  tape : w'.tape = w.tape
  output : w'.output = w.output
  size : w.heap.size ≤ w'.heap.size
  block : ∀ k, k < w.heap.size → k ∉ bs → w'.heap[k]? = w.heap[k]?
theorem Only.refl (bs : List Nat) (w : World) : Only bs w w := ⟨rfl, rfl, rfl, Nat.le_refl _, fun _ _ _ => rfl⟩
theorem Only.trans {bs : List Nat} {a b c : World} (h : Only bs a b) (k : Only bs b c) : Only bs a c :=
  ⟨k.os.trans h.os, k.tape.trans h.tape, k.output.trans h.output, Nat.le_trans h.size k.size, fun i hi hn => (k.block i (by have := h.size; omega) hn).trans (h.block i hi hn)⟩
theorem Only.drew (bs : List Nat) (w : World) : Only bs w w.drew := ⟨rfl, rfl, rfl, Nat.le_refl _, fun _ _ _ => rfl⟩
theorem Only.drewN (bs : List Nat) (w : World) (n : Nat) : Only bs w (w.drewN n) := ⟨rfl, rfl, rfl, Nat.le_refl _, fun _ _ _ => rfl⟩
theorem Only.alloc (bs : List Nat) (w : World) (o : Obj) : Only bs w (w.alloc o) := ⟨rfl, rfl, rfl, by simp, fun k hk _ => Below.heap_alloc _ _ _ hk⟩
theorem Only.setCell {bs : List Nat} (w : World) (p : Addr) (v : Value) (hp : p.block ∈ bs) : Only bs w (w.setCell p v) :=
  ⟨rfl, rfl, rfl, by simp [World.setCell], fun k _ hn => Below.heap_setCell _ _ _ _ (fun e => hn (by rw [e]; exact hp))⟩
theorem Only.putObj {bs : List Nat} (w : World) (b : Nat) (o : Obj) (hp : b ∈ bs) : Only bs w (w.putObj b o) :=
  ⟨rfl, rfl, rfl, by simp, fun k _ hn => World.putObj_heap_other (fun e => hn (by rw [e]; exact hp))⟩
theorem Only.grown {bs : List Nat} {w w' : World} {row : Option Nat} (h : w.grownBy w' row) (hr : ∀ r, row = some r → r ∈ bs ∨ w.heap.size ≤ r) : Only bs w w' :=
  ⟨h.os, h.tape, h.output, h.size, fun k hk hn => h.block k hk (fun e => (hr k e.symm).elim hn (fun q => by omega))⟩
theorem Only.of_below {bs : List Nat} {w w' : World} (h : Below w.heap.size w w') : Only bs w w' := ⟨h.os, h.tape, h.output, h.size, fun k hk _ => h.block k hk⟩
theorem Only.below {bs : List Nat} {w w' : World} (h : Only bs w w') {n : Nat} (hb : ∀ b ∈ bs, n ≤ b) (hn : n ≤ w.heap.size) : Below n w w' :=
  ⟨h.os, h.tape, h.output, h.size, fun k hk => h.block k (by omega) (fun hm => by have := hb k hm; omega)⟩
theorem Only.mono {bs cs : List Nat} {w w' : World} (h : Only bs w w') (hs : ∀ b ∈ bs, b ∈ cs ∨ w.heap.size ≤ b) : Only cs w w' :=
  ⟨h.os, h.tape, h.output, h.size, fun k hk hn => h.block k hk (fun hm => (hs k hm).elim hn (fun q => by omega))⟩

/-- What is said abides whatever the iterator does: turns of its own blocks, new blocks, of which it takes some for its own. -/
def Abides (J : Nat → List Nat → World → Prop) : Prop :=
  ∀ k T A T' B, J k T A → Only T A B → (∀ r ∈ T', r ∈ T ∨ A.heap.size ≤ r) → (∀ r ∈ T', r < B.heap.size) → J k T' B

/-- A round keeps the iterator's blocks. -/
structure KeepsT (T : List Nat) (W W' : World) : Prop where
  size : W.heap.size ≤ W'.heap.size
  same : ∀ r ∈ T, W'.heap[r]? = W.heap[r]?
theorem KeepsT.refl (T : List Nat) (W : World) : KeepsT T W W := ⟨Nat.le_refl _, fun _ _ => rfl⟩
theorem KeepsT.trans {T : List Nat} {A B C : World} (h : KeepsT T A B) (k : KeepsT T B C) : KeepsT T A C := ⟨Nat.le_trans h.size k.size, fun r hr => (k.same r hr).trans (h.same r hr)⟩
theorem KeepsT.of_only {T bs : List Nat} {A B : World} (h : Only bs A B) (hd : ∀ r ∈ T, r ∉ bs) (hT : ∀ r ∈ T, r < A.heap.size) : KeepsT T A B := ⟨h.size, fun r hr => h.block r (hT r hr) (hd r hr)⟩

/-- The iterator's contract: it hands over xs, one after the other, unless a round says 'no more'. -/
def SeqRuns {α : Type} (F : Fence) (n : Nat) (P : Program) (g : Nat) (lb : Array Value) (encs : α → Array Value) (xs : List α) (T0 : List Nat) (Pre : World → Prop) : Prop :=
  ∀ (l : Nat) (J Jx : Nat → List Nat → World → Prop) (W : World), Pre W → (∀ r ∈ T0, r < W.heap.size) → Abides J → Abides Jx →
    (∀ (k : Nat) (hk : k < xs.length) (T : List Nat) (W1 : World), J k T W1 → YieldAt F (n - 1) P l (encs xs[k]) W1 fun e W' =>
      (e = .returned (.bool true) ∧ J (k + 1) T W' ∧ KeepsT T W1 W') ∨ (e = .returned (.bool false) ∧ Jx (k + 1) T W')) →
    J 0 T0 W →
    CallsIn F n P g (#[.func (.yield l) #[] #[]] ++ lb) W fun e W' => (∃ v, e = .returned v) ∧ ((∃ T, J xs.length T W') ∨ (∃ k T, k ≤ xs.length ∧ Jx k T W'))

/-- How the body of a round may be left. -/
def ownPostT (I : Nat → List Nat → World → Prop) (Ix : Code → Nat → List Nat → World → Prop) (k : Nat) (T : List Nat) (W : World) : Exit → Act → World → Prop
  | .normal, _, W' => KeepsT T W W' ∧ I k T W'
  | .ret, _, W' => KeepsT T W W' ∧ Ix .ret k T W'
  | .exit id, _, W' => KeepsT T W W' ∧ Ix (.exit id) k T W'
  | .goto t, _, W' => KeepsT T W W' ∧ Ix (.goto t) k T W'
  | .panic _, _, _ => False
  | .outgrown, _, _ => False

variable {F : Fence} {n : Nat} {P : Program}

theorem wpIn_rangeFunc_T {α : Type} {g : Operand} {ps : Array Tmp} {assign body : Code} {Q : Exit → Act → World → Prop} {a : Act} {w : World}
    (hro : F.round = none) (h1 : 1 ≤ n) {gf : Nat} {lb : Array Value} (hg : a.eval g = .func (.func gf) #[] lb) (hFg : F.fn gf) (eg : ∀ args w, (callFunc gf args).run P w = .ok (.enter gf args) w)
    {encs : α → Array Value} {xs : List α} {T0 : List Nat} {Pre : World → Prop} (hseq : SeqRuns F (n - 1) P gf lb encs xs T0 Pre)
    (hpre : ∀ W, Below w.heap.size w W → Pre W) (hT0 : ∀ r ∈ T0, r < w.heap.size) (hps : ∀ x, (encs x).size = ps.size)
    (I : Nat → List Nat → World → Prop) (Ix : Code → Nat → List Nat → World → Prop) (hI : Abides I) (hIx : ∀ c, Abides (Ix c)) (h0 : I 0 T0 w) (a₁ : α → Act)
    (hassign : ∀ (l : Nat) (x : α) (W : World) (K : Act → World → Prop), K (a₁ x) W →
      assign.wpIn (F.inRound l) (n - 1 - 1) P (Exit.then K (fun _ _ _ => False)) { tmps := (ps.zip (encs x)).foldl (fun t (p, v) => t.setIfInBounds p v) a.tmps, defers := [] } W)
    (hbody : ∀ (l : Nat) (k : Nat) (hk : k < xs.length) (T : List Nat) (W : World), I k T W → (∀ r ∈ T, r < W.heap.size) → body.wpIn (F.inRound l) (n - 1 - 1) P (ownPostT I Ix (k + 1) T W) (a₁ xs[k]) W)
    (hdone : ∀ (D : Nat) (T : List Nat) (W : World), D ∈ T → (∀ r ∈ T, r < W.heap.size) → I xs.length T W → W.heap[D]? = some (.deferred (some [])) → Q .normal { a with defers := { target := .collected D, args := #[] } :: a.defers } W)
    (hstop : ∀ (D : Nat) (T : List Nat) (c : Code) (k : Nat) (W : World), D ∈ T → (∀ r ∈ T, r < W.heap.size) → k ≤ xs.length → Ix c k T W → W.heap[D]? = some (.deferred (some [])) → c.wpIn F n P Q { a with defers := { target := .collected D, args := #[] } :: a.defers } W) :
    (Code.rangeFunc g ps assign body).wpIn F n P Q a w := by
  refine wpIn_rangeFunc ?_
  intro fn hfn
  rw [hro]
  obtain ⟨rec, hrec⟩ : ∃ rec : LoopState → Option Code → Loop, rec = fun st pe => { state := st, pending := pe, fn, tmps := a.tmps, params := ps, assign, body, defers := w.heap.size } := ⟨_, rfl⟩
  obtain ⟨W1, hW1⟩ : ∃ W1, (w.alloc (.deferred (some []))).alloc (.loop (rec .ready none)) = W1 := ⟨_, rfl⟩
  have hL1 : W1.heap[w.heap.size + 1]? = some (.loop (rec .ready none)) := by
    rw [← hW1]; have := World.alloc_heap_new (w.alloc (.deferred (some []))) (.loop (rec .ready none)); rwa [World.size_alloc] at this
  have hK1 : W1.heap[w.heap.size]? = some (.deferred (some [])) := by
    rw [← hW1]; exact (Below.heap_alloc _ _ _ (by simp)).trans (World.alloc_heap_new w _)
  have hb1 : Below w.heap.size w W1 := by
    rw [← hW1]; exact ((Below.refl _ w).alloc (Nat.le_refl _) _).alloc (by simp) _
  have hz1 : W1.heap.size = w.heap.size + 2 := by rw [← hW1]; simp
  have hI1 : I 0 (w.heap.size :: (w.heap.size + 1) :: T0) W1 := by
    refine hI 0 T0 w _ W1 h0 (Only.of_below hb1) ?_ ?_
    · intro r hr
      simp only [List.mem_cons] at hr
      rcases hr with rfl | rfl | hr
      · exact .inr (Nat.le_refl _)
      · exact .inr (by omega)
      · exact .inl hr
    · intro r hr
      simp only [List.mem_cons] at hr
      rcases hr with rfl | rfl | hr
      · omega
      · omega
      · have := hT0 r hr; omega
  refine ⟨w.heap.size + 1, [{ target := .collected w.heap.size, args := #[] }], W1, { target := .fn (.func gf) lb, args := #[.func (.yield (w.heap.size + 1)) #[] #[]] }, W1, gf,
    #[.func (.yield (w.heap.size + 1)) #[] #[]] ++ lb, W1, ?_, ?_, ?_, ?_, fun _ => h1, ?_⟩
  · rw [← hW1, hrec]; exact run_enterLoop_outer _ _ _ _ _
  · simp only [resolve, hg]
    simp [go_sem]
  · intro f' hf'; simp [Target.leads] at hf'; subst hf'; exact hFg
  · simp [invoke, go_sem, eg]
  · -- the iterator's contract, at the caller's invariant with the facts of book-keeping beside it
    obtain ⟨Bk, hBk⟩ : ∃ Bk : LoopState → Option Code → List Nat → World → Prop, Bk = fun st pe T W => W.heap[w.heap.size + 1]? = some (.loop (rec st pe)) ∧ W.heap[w.heap.size]? = some (.deferred (some [])) ∧ w.heap.size ∉ T ∧ (w.heap.size + 1) ∉ T ∧ (∀ r ∈ T, r < W.heap.size) := ⟨_, rfl⟩
    have hBa : ∀ (st : LoopState) (pe : Option Code) (T : List Nat) (A : World) (T' : List Nat) (B : World), Bk st pe T A → Only T A B → (∀ r ∈ T', r ∈ T ∨ A.heap.size ≤ r) → (∀ r ∈ T', r < B.heap.size) → Bk st pe T' B := by
      intro st pe T A T' B hs ho hT hlt
      rw [hBk] at hs ⊢
      obtain ⟨q1, q2, q3, q4, q5⟩ := hs
      have l1 := (Array.getElem?_eq_some_iff.1 q1).1
      have l2 := (Array.getElem?_eq_some_iff.1 q2).1
      exact ⟨(ho.block _ l1 q4).trans q1, (ho.block _ l2 q3).trans q2, fun hm => (hT _ hm).elim q3 (fun _ => by omega), fun hm => (hT _ hm).elim q4 (fun _ => by omega), hlt⟩
    have hIa : ∀ {J : Nat → List Nat → World → Prop}, Abides J → ∀ (k : Nat) (T : List Nat) (A : World) (T' : List Nat) (B : World), J k (w.heap.size :: (w.heap.size + 1) :: T) A → w.heap.size + 2 ≤ A.heap.size → Only T A B → (∀ r ∈ T', r ∈ T ∨ A.heap.size ≤ r) → (∀ r ∈ T', r < B.heap.size) → J k (w.heap.size :: (w.heap.size + 1) :: T') B := by
      intro J hJ k T A T' B hj hsz ho hT hlt
      refine hJ k _ A _ B hj (ho.mono (fun b hb => .inl (by simp [hb]))) ?_ ?_
      · intro r hr
        simp only [List.mem_cons] at hr ⊢
        rcases hr with rfl | rfl | hr
        · exact .inl (.inl rfl)
        · exact .inl (.inr (.inl rfl))
        · exact (hT r hr).elim (fun h => .inl (.inr (.inr h))) .inr
      · intro r hr
        have := ho.size
        simp only [List.mem_cons] at hr
        rcases hr with rfl | rfl | hr
        · omega
        · omega
        · exact hlt r hr
    have hput : ∀ {J : Nat → List Nat → World → Prop}, Abides J → ∀ (k : Nat) (T : List Nat) (A : World) (o : Obj), J k (w.heap.size :: (w.heap.size + 1) :: T) A → w.heap.size + 2 ≤ A.heap.size → (∀ r ∈ T, r < A.heap.size) → J k (w.heap.size :: (w.heap.size + 1) :: T) (A.putObj (w.heap.size + 1) o) := by
      intro J hJ k T A o hj hsz hlt
      refine hJ k _ A _ _ hj (Only.putObj _ _ _ (by simp)) (fun r hr => .inl hr) ?_
      intro r hr
      simp only [List.mem_cons] at hr
      have : (A.putObj (w.heap.size + 1) o).heap.size = A.heap.size := by simp
      rcases hr with rfl | rfl | hr
      · omega
      · omega
      · have := hlt r hr; omega
    refine (hseq (w.heap.size + 1)
      (fun k T W => I k (w.heap.size :: (w.heap.size + 1) :: T) W ∧ Bk .ready none T W)
      (fun k T W => ∃ c, Ix c k (w.heap.size :: (w.heap.size + 1) :: T) W ∧ Bk .done (some c) T W)
      W1 (hpre _ hb1) (fun r hr => by have := hT0 r hr; omega)
      (fun k T A T' B hs ho hT hlt => ?_) (fun k T A T' B hs ho hT hlt => ?_) ?_ ⟨hI1, ?_⟩).mono ?_
    · have hs2 := hs.2
      rw [hBk] at hs2
      have := (Array.getElem?_eq_some_iff.1 hs2.1).1
      exact ⟨hIa hI k T A T' B hs.1 (by omega) ho hT hlt, hBa _ _ _ _ _ _ hs.2 ho hT hlt⟩
    · obtain ⟨c, hc, hb⟩ := hs
      have hs2 := hb
      rw [hBk] at hs2
      have := (Array.getElem?_eq_some_iff.1 hs2.1).1
      exact ⟨c, hIa (hIx c) k T A T' B hc (by omega) ho hT hlt, hBa _ _ _ _ _ _ hb ho hT hlt⟩
    · -- one round
      rintro k hk T W ⟨hi, hb⟩
      rw [hBk] at hb
      obtain ⟨hl, hd, hn1, hn2, hlt⟩ := hb
      have hsz : w.heap.size + 1 < W.heap.size := (Array.getElem?_eq_some_iff.1 hl).1
      have hy := run_yield (P := P) (args := encs xs[k]) hl (by rw [hrec]; exact hps _)
      rw [hrec] at hy
      refine ⟨fn, _, assign, body, hy, roundIn_of_wpIn hfn (hassign _ xs[k] W _ ⟨_, run_beginRound hl (by rw [hrec]), ?_⟩)⟩
      have hl2 : (W.putObj (w.heap.size + 1) (.loop { rec .ready none with state := .busy })).heap[w.heap.size + 1]? = some (.loop { rec .ready none with state := .busy }) := World.putObj_heap_same hsz
      have hd2 : (W.putObj (w.heap.size + 1) (.loop { rec .ready none with state := .busy })).heap[w.heap.size]? = some (.deferred (some [])) := (World.putObj_heap_other (by omega)).trans hd
      have hs2 : (W.putObj (w.heap.size + 1) (.loop { rec .ready none with state := .busy })).heap.size = W.heap.size := by simp
      refine wpIn_mono (hbody _ k hk (w.heap.size :: (w.heap.size + 1) :: T) _ (hput hI k T W _ hi (by omega) hlt) ?_) ?_
      · intro r hr
        simp only [List.mem_cons] at hr
        rw [World.putObj_size]
        rcases hr with rfl | rfl | hr
        · omega
        · omega
        · have := hlt r hr; omega
      have fin : ∀ (jump : Option Code) (W3 : World), KeepsT (w.heap.size :: (w.heap.size + 1) :: T) (W.putObj (w.heap.size + 1) (.loop { rec .ready none with state := .busy })) W3 →
          (Instr.endRound (w.heap.size + 1) jump).run P W3 = .ok (.bool jump.isNone) (W3.putObj (w.heap.size + 1) (.loop (rec (if jump.isNone then .ready else .done) jump))) ∧ w.heap.size + 2 ≤ W3.heap.size ∧ (∀ r ∈ T, r < W3.heap.size) ∧
          Bk (if jump.isNone then .ready else .done) jump T (W3.putObj (w.heap.size + 1) (.loop (rec (if jump.isNone then .ready else .done) jump))) ∧
          KeepsT T W (W3.putObj (w.heap.size + 1) (.loop (rec (if jump.isNone then .ready else .done) jump))) := fun jump W3 hk3 => by
        have hl3 := (hk3.same _ (by simp)).trans hl2
        have hd3 := (hk3.same w.heap.size (by simp)).trans hd2
        have hz3 := hk3.size
        rw [hs2] at hz3
        have hsz3 : (W3.putObj (w.heap.size + 1) (.loop (rec (if jump.isNone then .ready else .done) jump))).heap.size = W3.heap.size := by simp
        have := run_endRound (P := P) jump hl3
        refine ⟨by rw [hrec] at this ⊢; exact this, by omega, fun r hr => by have := hlt r hr; omega, ?_, ?_⟩
        · rw [hBk]
          exact ⟨World.putObj_heap_same (Array.getElem?_eq_some_iff.1 hl3).1, (World.putObj_heap_other (by omega)).trans hd3, hn1, hn2, fun r hr => by have := hlt r hr; omega⟩
        · refine ⟨by omega, fun r hr => ?_⟩
          have hne : r ≠ w.heap.size + 1 := fun e => hn2 (e ▸ hr)
          exact (World.putObj_heap_other hne).trans ((hk3.same r (by simp [hr])).trans (World.putObj_heap_other hne))
      rintro e a3 W3 hp
      cases e with
      | normal =>
        obtain ⟨hk3, hi3⟩ := hp
        obtain ⟨hr, hz3, hl3, hb4, hk4⟩ := fin none W3 hk3
        exact ⟨_, _, hr, .inl ⟨rfl, ⟨hput hI _ _ _ _ hi3 hz3 hl3, hb4⟩, hk4⟩⟩
      | ret =>
        obtain ⟨hk3, hi3⟩ := hp
        obtain ⟨hr, hz3, hl3, hb4, hk4⟩ := fin (some .ret) W3 hk3
        exact ⟨_, _, hr, .inr ⟨rfl, .ret, hput (hIx _) _ _ _ _ hi3 hz3 hl3, hb4⟩⟩
      | exit id =>
        obtain ⟨hk3, hi3⟩ := hp
        obtain ⟨hr, hz3, hl3, hb4, hk4⟩ := fin (some (.exit id)) W3 hk3
        exact ⟨_, _, hr, .inr ⟨rfl, .exit id, hput (hIx _) _ _ _ _ hi3 hz3 hl3, hb4⟩⟩
      | goto t =>
        obtain ⟨hk3, hi3⟩ := hp
        obtain ⟨hr, hz3, hl3, hb4, hk4⟩ := fin (some (.goto t)) W3 hk3
        exact ⟨_, _, hr, .inr ⟨rfl, .goto t, hput (hIx _) _ _ _ _ hi3 hz3 hl3, hb4⟩⟩
      | panic ch => exact hp.elim
      | outgrown => exact hp.elim
    · rw [hBk]
      exact ⟨hL1, hK1, fun hm => by have := hT0 _ hm; omega, fun hm => by have := hT0 _ hm; omega, fun r hr => by have := hT0 r hr; omega⟩
    · -- behind the iterator
      rintro e W2 ⟨⟨v, rfl⟩, (⟨T, hi, hb⟩ | ⟨k, T, hk, c, hi, hb⟩)⟩
      · rw [hBk] at hb
        obtain ⟨hl, hd, hn1, hn2, hlt⟩ := hb
        have hsz : w.heap.size + 1 < W2.heap.size := (Array.getElem?_eq_some_iff.1 hl).1
        refine ⟨none, _, by have := run_endLoop (P := P) hl (by rw [hrec]; simp); rw [hrec] at this; exact this, hdone w.heap.size (w.heap.size :: (w.heap.size + 1) :: T) _ (by simp) ?_ (hput hI _ _ _ _ hi (by omega) hlt) ((World.putObj_heap_other (by omega)).trans hd)⟩
        intro r hr
        simp only [List.mem_cons] at hr
        rcases hr with rfl | rfl | hr
        · simp; omega
        · simp; omega
        · have := hlt r hr; simp; omega
      · rw [hBk] at hb
        obtain ⟨hl, hd, hn1, hn2, hlt⟩ := hb
        have hsz : w.heap.size + 1 < W2.heap.size := (Array.getElem?_eq_some_iff.1 hl).1
        refine ⟨some c, _, by have := run_endLoop (P := P) hl (by rw [hrec]; simp); rw [hrec] at this; exact this, hstop w.heap.size (w.heap.size :: (w.heap.size + 1) :: T) c k _ (by simp) ?_ hk (hput (hIx c) _ _ _ _ hi (by omega) hlt) ((World.putObj_heap_other (by omega)).trans hd)⟩
        intro r hr
        simp only [List.mem_cons] at hr
        rcases hr with rfl | rfl | hr
        · simp; omega
        · simp; omega
        · have := hlt r hr; simp; omega

end Go.Rt
