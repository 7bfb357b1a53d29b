/- flow.Reach: the search's state in memory, and plain. -/
import Derived.Test.YtekfnonjhcfdmaaDoorMarks
namespace Go.Proofs.YtekfnonjhcfdmaaDoor
open Go.RowKit Go.Rt Go.Rw

/-- The search's state: what is marked (Q), what is open (O); blocks of a list F are others'. -/
structure RS (Bl Bs Bo gS base : Nat) (lv : Value) (n : Nat) (F : List Nat) (Q : Nat → Bool) (O : List Int) (W : World) : Prop where
  l : Boxed W Bl 22 lv
  bs : Boxed W Bs 47 (.slice (some ⟨gS, 0, none⟩) n n)
  seen : Blk W gS 4 ((List.range n).map fun i => Value.bool (Q i)).toArray
  op : ∃ v, Boxed W Bo 23 v ∧ Sl W base 3 1 inC v O ∧ Off v F
  lo : base ≤ Bo ∧ base ≤ gS ∧ base ≤ W.heap.size
  fr : ∀ r ∈ F, r < W.heap.size ∧ r ≠ gS ∧ r ≠ Bo
/-- What a step of the search leaves alone. -/
structure RK (base : Nat) (F : List Nat) (w w' : World) : Prop where
  below : Below base w w'
  keep : ∀ r ∈ F, w'.heap[r]? = w.heap[r]?
theorem RK.trans {base : Nat} {F : List Nat} {a b c : World} (h : RK base F a b) (k : RK base F b c) : RK base F a c := ⟨h.below.trans k.below, fun r hr => (k.keep r hr).trans (h.keep r hr)⟩
theorem RK.refl {base : Nat} {F : List Nat} {a : World} : RK base F a a := ⟨Below.refl _ _, fun _ _ => rfl⟩
theorem RS.lts {Bl Bs Bo gS base : Nat} {lv : Value} {n : Nat} {F : List Nat} {Q : Nat → Bool} {O : List Int} {w : World} (h : RS Bl Bs Bo gS base lv n F Q O w) : Bl < w.heap.size ∧ Bs < w.heap.size ∧ Bo < w.heap.size ∧ gS < w.heap.size := by
  obtain ⟨v, o1, _, _⟩ := h.op
  exact ⟨h.l.lt, h.bs.lt, o1.lt, h.seen.lt⟩
theorem RS.below {Bl Bs Bo gS base m2 : Nat} {lv : Value} {n : Nat} {F : List Nat} {Q : Nat → Bool} {O : List Int} {w w' : World} (h : RS Bl Bs Bo gS base lv n F Q O w) (hb : Below m2 w w') (hm : w.heap.size ≤ m2) : RS Bl Bs Bo gS base lv n F Q O w' := by
  obtain ⟨v, o1, o2, o3⟩ := h.op
  exact ⟨(hb.block _ (Nat.lt_of_lt_of_le h.l.lt hm)).trans h.l, (hb.block _ (Nat.lt_of_lt_of_le h.bs.lt hm)).trans h.bs, h.seen.below hb (Nat.lt_of_lt_of_le h.seen.lt hm),
    ⟨v, (hb.block _ (Nat.lt_of_lt_of_le o1.lt hm)).trans o1, o2.below hb (fun g hg => Nat.lt_of_lt_of_le (o2.lt g hg).2 hm), o3⟩, ⟨h.lo.1, h.lo.2.1, Nat.le_trans h.lo.2.2 hb.size⟩, fun r hr => ⟨Nat.lt_of_lt_of_le (h.fr r hr).1 hb.size, (h.fr r hr).2⟩⟩
theorem RS.off {Bl Bs Bo gS base : Nat} {lv : Value} {n : Nat} {F : List Nat} {Q : Nat → Bool} {O : List Int} {w : World} (h : RS Bl Bs Bo gS base lv n F Q O w) (bs : List Nat) (hb : ∀ r ∈ bs, w.heap.size ≤ r) : OffO Bo bs w := by
  obtain ⟨v, o1, o2, _⟩ := h.op
  intro v' hv' g hg hm
  have := o1.symm.trans hv'
  simp only [Option.some.injEq, Obj.cells.injEq, Array.mk.injEq, List.cons.injEq, and_true] at this
  subst this
  have := (o2.lt g hg).2
  have := hb g hm
  omega
theorem RS.only {Bl Bs Bo gS base m : Nat} {lv : Value} {n : Nat} {F : List Nat} {Q : Nat → Bool} {O : List Int} {w w' : World} (h : RS Bl Bs Bo gS base lv n F Q O w) {bs : List Nat} (ho : Only bs w w') (hm : ∀ r ∈ bs, m ≤ r) (hf : OffO Bo bs w) (hlt : Bl < m ∧ Bs < m ∧ Bo < m ∧ gS < m) :
    RS Bl Bs Bo gS base lv n F Q O w' ∧ OffO Bo bs w' := by
  obtain ⟨v, o1, o2, o3⟩ := h.op
  have hn : ∀ a, a < m → a ∉ bs := fun a ha hb => by have := hm a hb; omega
  have o1' : Boxed w' Bo 23 v := (ho.block _ o1.lt (hn _ hlt.2.2.1)).trans o1
  refine ⟨⟨(ho.block _ h.l.lt (hn _ hlt.1)).trans h.l, (ho.block _ h.bs.lt (hn _ hlt.2.1)).trans h.bs, h.seen.only ho (hn _ hlt.2.2.2), ⟨v, o1', o2.only ho (hf v o1), o3⟩,
    ⟨h.lo.1, h.lo.2.1, Nat.le_trans h.lo.2.2 ho.size⟩, fun r hr => ⟨Nat.lt_of_lt_of_le (h.fr r hr).1 ho.size, (h.fr r hr).2⟩⟩, fun v' hv' => ?_⟩
  have := o1'.symm.trans hv'
  simp only [Option.some.injEq, Obj.cells.injEq, Array.mk.injEq, List.cons.injEq, and_true] at this
  subst this
  exact hf v o1
theorem RS.more {Bl Bs Bo gS base : Nat} {lv : Value} {n : Nat} {F : List Nat} {Q : Nat → Bool} {O : List Int} {w : World} (h : RS Bl Bs Bo gS base lv n F Q O w) (bs : List Nat) (hf : OffO Bo bs w) (hb : ∀ r ∈ bs, r < w.heap.size ∧ r ≠ gS ∧ r ≠ Bo) : RS Bl Bs Bo gS base lv n (bs ++ F) Q O w := by
  obtain ⟨v, o1, o2, o3⟩ := h.op
  exact ⟨h.l, h.bs, h.seen, ⟨v, o1, o2, fun g hg hm => by
    rcases List.mem_append.1 hm with q | q
    · exact hf v o1 g hg q
    · exact o3 g hg q⟩, h.lo, fun r hr => (List.mem_append.1 hr).elim (hb r) (h.fr r)⟩
theorem RS.less {Bl Bs Bo gS base : Nat} {lv : Value} {n : Nat} {F : List Nat} {Q : Nat → Bool} {O : List Int} {w : World} {bs : List Nat} (h : RS Bl Bs Bo gS base lv n (bs ++ F) Q O w) : RS Bl Bs Bo gS base lv n F Q O w ∧ OffO Bo bs w := by
  obtain ⟨v, o1, o2, o3⟩ := h.op
  refine ⟨⟨h.l, h.bs, h.seen, ⟨v, o1, o2, fun g hg hm => o3 g hg (by simp [hm])⟩, h.lo, fun r hr => h.fr r (by simp [hr])⟩, fun v' hv' => ?_⟩
  have := o1.symm.trans hv'
  simp only [Option.some.injEq, Obj.cells.injEq, Array.mk.injEq, List.cons.injEq, and_true] at this
  subst this
  exact fun g hg hm => o3 g hg (by simp [hm])
/-- One is marked. -/
def setB (Q : Nat → Bool) (i : Nat) : Nat → Bool := fun k => if k = i then true else Q k
theorem map_setB (Q : Nat → Bool) (n i : Nat) (hi : i < n) : ((List.range n).map fun k => Value.bool (setB Q i k)).toArray = (((List.range n).map fun k => Value.bool (Q k)).toArray).setIfInBounds i (.bool true) := by
  apply Array.ext_getElem?
  intro j
  rw [Array.getElem?_setIfInBounds]
  by_cases h : i = j
  · subst h
    simp [hi, setB]
  · have h' : ¬ j = i := fun e => h e.symm
    simp only [List.getElem?_toArray, List.getElem?_map, if_neg h]
    by_cases hj : j < n
    · simp [hj, setB, h']
    · simp [hj]
theorem RS.mark {Bl Bs Bo gS base : Nat} {lv : Value} {n : Nat} {F : List Nat} {Q : Nat → Bool} {O : List Int} {w : World} (h : RS Bl Bs Bo gS base lv n F Q O w) {k : Nat} (hk : k < n) :
    RS Bl Bs Bo gS base lv n F (setB Q k) O (w.setCell ⟨gS, k, none⟩ (.bool true)) ∧ RK base F w (w.setCell ⟨gS, k, none⟩ (.bool true)) := by
  obtain ⟨v, o1, o2, o3⟩ := h.op
  have hon : Only [gS] w (w.setCell ⟨gS, k, none⟩ (.bool true)) := Only.setCell w ⟨gS, k, none⟩ _ (by simp)
  have hot : ∀ {a : Nat} {ty : TypeId} {cs : Array Value}, Blk w a ty cs → ty ≠ 4 → Blk (w.setCell ⟨gS, k, none⟩ (.bool true)) a ty cs := fun {a ty cs} hb n1 => hb.far (p := ⟨gS, k, none⟩) (blk_ne hb h.seen n1) _
  refine ⟨⟨hot h.l (by decide), hot h.bs (by decide), ?_, ⟨v, hot o1 (by decide), o2.only hon ?_, o3⟩, ⟨h.lo.1, h.lo.2.1, by have := h.lo.2.2; have := hon.size; omega⟩, fun r hr => ⟨Nat.lt_of_lt_of_le (h.fr r hr).1 hon.size, (h.fr r hr).2⟩⟩, ⟨hon.below (by intro b hb; simp only [List.mem_singleton] at hb; subst hb; exact h.lo.2.1) h.lo.2.2, fun r hr => hon.block r (h.fr r hr).1 (by simp only [List.mem_singleton]; exact (h.fr r hr).2.1)⟩⟩
  · rw [map_setB Q n k hk]
    exact h.seen.set_ k (.bool true)
  · intro g hg hm
    simp only [List.mem_singleton] at hm
    rcases o2.2 with ⟨q, _⟩ | ⟨g2, cap2, cur, q, _, q3, _⟩
    · rw [q] at hg
      simp [Value.ownBlock] at hg
    · rw [q] at hg
      simp only [Value.ownBlock, Option.some.injEq] at hg
      subst hg
      exact blk_ne (show Blk w g2 3 cur from q3) h.seen (by decide) hm
theorem RS.push {Bl Bs Bo gS base : Nat} {lv : Value} {n : Nat} {F : List Nat} {Q : Nat → Bool} {O : List Int} {w : World} (h : RS Bl Bs Bo gS base lv n F Q O w) (x : Int) (hl : O.length + 1 ≤ 10000000000000) :
    ∃ sa co g cap W2, Boxed w Bo 23 (.slice sa O.length co) ∧ (Builtin.append_ #[23, 23] 23 #[.slice sa O.length co, .slice (some ⟨w.heap.size, 0, none⟩) 1 1]).run Tryd.prog (w.alloc (.cells #[.int .i64 x] 3)) = .ok (.slice (some ⟨g, 0, none⟩) (O.length + 1) cap) W2 ∧ Boxed W2 Bo 23 (.slice sa O.length co) ∧
      RS Bl Bs Bo gS base lv n F Q (O ++ [x]) (W2.setCell ⟨Bo, 0, none⟩ (.slice (some ⟨g, 0, none⟩) (O.length + 1) cap)) ∧ RK base F w (W2.setCell ⟨Bo, 0, none⟩ (.slice (some ⟨g, 0, none⟩) (O.length + 1) cap)) := by
  obtain ⟨v, o1, o2, o3⟩ := h.op
  obtain ⟨sa, co, hv⟩ : ∃ sa co, v = .slice sa O.length co := by
    rcases o2.form with ⟨rfl, q⟩ | ⟨g0, cap0, rfl, _⟩
    · exact ⟨none, 0, by rw [q]; rfl⟩
    · exact ⟨_, _, rfl⟩
  subst hv
  have hbw := h.lo.2.2
  obtain ⟨g, cap, W2, hrun, sl2, hgrow, hwh⟩ := sl_push_in (o2.only (bs := []) (Only.alloc [] w (.cells #[.int .i64 x] 3)) (fun g hg hm => by cases hm)) x w.heap.size (Blk.new w 3 _) hl (by simp; omega)
  obtain ⟨a1, a2, a3, _, a5⟩ := Boxed.appended (n₀ := base) o1 (by decide) o2 hbw h.lo.1 sl2 hgrow
  have og : Only (Bo :: (Value.slice sa O.length co).ownBlock.toList) w (W2.setCell ⟨Bo, 0, none⟩ (.slice (some ⟨g, 0, none⟩) (O.length + 1) cap)) :=
    (((Only.alloc _ _ _).trans (grown_only hgrow)).mono (fun b hb => .inl (by simp only [List.mem_cons]; exact .inr hb))).trans (Only.setCell _ _ _ (by simp))
  have hot : ∀ {a : Nat} {ty : TypeId} {cs : Array Value}, Blk w a ty cs → ty ≠ 23 → ty ≠ 3 → Blk (W2.setCell ⟨Bo, 0, none⟩ (.slice (some ⟨g, 0, none⟩) (O.length + 1) cap)) a ty cs := fun {a ty cs} hb n1 n2 => hb.only og (by
    simp only [List.mem_cons, Option.mem_toList, not_or]
    refine ⟨blk_ne hb o1 n1, fun e => ?_⟩
    rcases o2.2 with ⟨q, _⟩ | ⟨g2, cap2, cur, q, _, q3, _⟩
    · rw [q] at e
      simp [Value.ownBlock] at e
    · rw [q] at e
      simp only [Value.ownBlock, Option.some.injEq] at e
      subst e
      exact blk_ne hb (show Blk w _ 3 cur from q3) n2 rfl)
  have hF : ∀ r ∈ F, r ∉ Bo :: (Value.slice sa O.length co).ownBlock.toList := fun r hr hm => by
    simp only [List.mem_cons, Option.mem_toList] at hm
    rcases hm with e | e
    · exact (h.fr r hr).2.2 e
    · exact o3 r e hr
  refine ⟨sa, co, g, cap, W2, o1, hrun, a1, ⟨hot h.l (by decide) (by decide), hot h.bs (by decide) (by decide), hot h.seen (by decide) (by decide), ⟨_, a2, ?_, ?_⟩, ⟨h.lo.1, h.lo.2.1, by have := og.size; omega⟩, fun r hr => ⟨Nat.lt_of_lt_of_le (h.fr r hr).1 og.size, (h.fr r hr).2⟩⟩, ⟨a5, fun r hr => og.block r (h.fr r hr).1 (hF r hr)⟩⟩
  · have := a3
    unfold Sl
    simpa using this
  · intro g' hg' hm
    simp only [Value.ownBlock, Option.some.injEq] at hg'
    subst hg'
    rcases hwh with q | q
    · exact o3 _ q hm
    · have := (h.fr _ hm).1
      simp at q
      omega
/-- The last one is taken off. -/
theorem RS.pop {Bl Bs Bo gS base : Nat} {lv : Value} {n : Nat} {F : List Nat} {Q : Nat → Bool} {O : List Int} {y : Int} {w : World} (h : RS Bl Bs Bo gS base lv n F Q (O ++ [y]) w) :
    ∃ g cap, Boxed w Bo 23 (.slice (some ⟨g, 0, none⟩) (O.length + 1) cap) ∧ O.length + 1 ≤ cap ∧ cap ≤ 9223372036854775807 ∧ w.cell? ⟨g, O.length, none⟩ = some (.int .i64 y) ∧
      RS Bl Bs Bo gS base lv n F Q O (w.setCell ⟨Bo, 0, none⟩ (.slice (some ⟨g, 0, none⟩) O.length cap)) ∧ RK base F w (w.setCell ⟨Bo, 0, none⟩ (.slice (some ⟨g, 0, none⟩) O.length cap)) := by
  obtain ⟨v, o1, o2, o3⟩ := h.op
  rcases o2.form with ⟨_, q⟩ | ⟨g, cap, rfl, hbg, hg, hc, hm, cur, hcur, hs⟩
  · simp at q
  · have hl : (O ++ [y]).length = O.length + 1 := by simp
    rw [hl] at o1 o2 hc
    have hcell := o2.cell in_len O.length 0 (by simp) (by omega)
    simp only [Nat.mul_one, Nat.add_zero, List.getElem_append_right (Nat.le_refl O.length), Nat.sub_self, List.getElem_cons_zero, inC, List.getElem?_cons_zero] at hcell
    have hno : ∀ {a : Nat} {ty : TypeId} {cs : Array Value}, Blk w a ty cs → ty ≠ 23 → Blk (w.setCell ⟨Bo, 0, none⟩ (.slice (some ⟨g, 0, none⟩) O.length cap)) a ty cs := fun {a ty cs} hb n1 => hb.far (p := ⟨Bo, 0, none⟩) (blk_ne hb o1 n1) _
    have hgo : g ≠ Bo := blk_ne (show Blk w g 3 cur from hcur) o1 (by decide)
    have hon : Only [Bo] w (w.setCell ⟨Bo, 0, none⟩ (.slice (some ⟨g, 0, none⟩) O.length cap)) := Only.setCell w ⟨Bo, 0, none⟩ _ (by simp)
    refine ⟨g, cap, o1, hc, by unfold maxLen at hm; omega, hcell, ⟨hno h.l (by decide), hno h.bs (by decide), hno h.seen (by decide), ⟨_, o1.set _, ?_, fun g' hg' => o3 g' (by simpa [Value.ownBlock] using hg')⟩,
      ⟨h.lo.1, h.lo.2.1, Nat.le_trans h.lo.2.2 hon.size⟩, fun r hr => ⟨Nat.lt_of_lt_of_le (h.fr r hr).1 hon.size, (h.fr r hr).2⟩⟩, ⟨hon.below (by intro b hb; simp at hb; subst hb; exact h.lo.1) h.lo.2.2, fun r hr => hon.block r (h.fr r hr).1 (by simp; exact (h.fr r hr).2.2)⟩⟩
    have hcur' : (w.setCell ⟨Bo, 0, none⟩ (.slice (some ⟨g, 0, none⟩) O.length cap)).heap[g]? = some (.cells cur 3 (0, 0)) := (hon.block g hg (by simpa using hgo)).trans hcur
    refine ⟨by simp [flat_in], .inr ⟨g, cap, cur, rfl, hbg, hcur', by omega, hm, hs, ?_⟩⟩
    rcases o2.2 with ⟨q, _⟩ | ⟨g', cap', cur', q, _, q3, _, _, _, q7⟩
    · cases q
    · simp only [Value.slice.injEq, Option.some.injEq, Addr.mk.injEq, and_true] at q
      obtain ⟨rfl, _, rfl⟩ := q
      rw [hcur] at q3
      cases q3
      rw [Nat.mul_one, flat_in, hl] at q7
      rw [Nat.mul_one, flat_in]
      have := congrArg (List.take O.length) q7
      rw [List.take_take, Nat.min_eq_left (by omega)] at this
      rw [this]
      simp
/-- What push does. -/
def pushF (Q : Nat → Bool) (n : Nat) (O : List Int) (i : Int) : (Nat → Bool) × List Int := if 0 ≤ i ∧ i < n ∧ Q i.toNat = false then (setB Q i.toNat, O ++ [i]) else (Q, O)
end Go.Proofs.YtekfnonjhcfdmaaDoor
