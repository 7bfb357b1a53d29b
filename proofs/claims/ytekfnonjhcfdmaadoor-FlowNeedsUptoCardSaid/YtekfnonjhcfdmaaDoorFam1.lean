/- flow.Reach: the search's state in memory, and plain. flow.Reach's closure push; the plain search. flow's rows of sets: live and defs in memory; what the search for the least sets keeps. flow's two rows of sets side by side: live and defs, in memory. flow's set.join of a set with itself: nothing happens. -/
import Derived.Test.YtekfnonjhcfdmaaDoorNest1
import Derived.Test.YtekfnonjhcfdmaaDoorNums1
import Derived.Test.YtekfnonjhcfdmaaDoorSet1
namespace Go.Proofs.YtekfnonjhcfdmaaDoor
open Go.RowKit Go.Rt Go.Rw

/-- The search's state: what is marked (Q), what is open (O); blocks of a list F are others'. -/
structure RS (Bl Bs Bo gS base : Nat) (lv : Value) (n : Nat) (F : List Nat) (Q : Nat → Bool) (O : List Int) (W : World) : Prop where
  l : Boxed W Bl 22 lv
  bs : Boxed W Bs 47 (.slice (some ⟨gS, 0, none⟩) n n)
  seen : Blk W gS 4 ((List.range n).map fun i => Value.bool (Q i)).toArray
  op : ∃ v, Boxed W Bo 23 v ∧ Sl W base 3 1 inC v O ∧ Off v F
  lo : base ≤ Bo ∧ base ≤ gS ∧ base ≤ W.heap.size
  fr : ∀ r ∈ F, r < W.heap.size ∧ r ≠ gS ∧ r ≠ Bo
/-- What a step of the search leaves alone. -/
structure RK (base : Nat) (F : List Nat) (w w' : World) : Prop where
  below : Below base w w'
  keep : ∀ r ∈ F, w'.heap[r]? = w.heap[r]?
theorem RK.trans {base : Nat} {F : List Nat} {a b c : World} (h : RK base F a b) (k : RK base F b c) : RK base F a c := ⟨h.below.trans k.below, fun r hr => (k.keep r hr).trans (h.keep r hr)⟩
theorem RK.refl {base : Nat} {F : List Nat} {a : World} : RK base F a a := ⟨Below.refl _ _, fun _ _ => rfl⟩
theorem RS.lts {Bl Bs Bo gS base : Nat} {lv : Value} {n : Nat} {F : List Nat} {Q : Nat → Bool} {O : List Int} {w : World} (h : RS Bl Bs Bo gS base lv n F Q O w) : Bl < w.heap.size ∧ Bs < w.heap.size ∧ Bo < w.heap.size ∧ gS < w.heap.size := by
  obtain ⟨v, o1, _, _⟩ := h.op
  exact ⟨h.l.lt, h.bs.lt, o1.lt, h.seen.lt⟩
theorem RS.below {Bl Bs Bo gS base m2 : Nat} {lv : Value} {n : Nat} {F : List Nat} {Q : Nat → Bool} {O : List Int} {w w' : World} (h : RS Bl Bs Bo gS base lv n F Q O w) (hb : Below m2 w w') (hm : w.heap.size ≤ m2) : RS Bl Bs Bo gS base lv n F Q O w' := by
  obtain ⟨v, o1, o2, o3⟩ := h.op
  exact ⟨(hb.block _ (Nat.lt_of_lt_of_le h.l.lt hm)).trans h.l, (hb.block _ (Nat.lt_of_lt_of_le h.bs.lt hm)).trans h.bs, h.seen.below hb (Nat.lt_of_lt_of_le h.seen.lt hm),
    ⟨v, (hb.block _ (Nat.lt_of_lt_of_le o1.lt hm)).trans o1, o2.below hb (fun g hg => Nat.lt_of_lt_of_le (o2.lt g hg).2 hm), o3⟩, ⟨h.lo.1, h.lo.2.1, Nat.le_trans h.lo.2.2 hb.size⟩, fun r hr => ⟨Nat.lt_of_lt_of_le (h.fr r hr).1 hb.size, (h.fr r hr).2⟩⟩
theorem RS.off {Bl Bs Bo gS base : Nat} {lv : Value} {n : Nat} {F : List Nat} {Q : Nat → Bool} {O : List Int} {w : World} (h : RS Bl Bs Bo gS base lv n F Q O w) (bs : List Nat) (hb : ∀ r ∈ bs, w.heap.size ≤ r) : OffO Bo bs w := by
  obtain ⟨v, o1, o2, _⟩ := h.op
  intro v' hv' g hg hm
  have := o1.symm.trans hv'
  simp only [Option.some.injEq, Obj.cells.injEq, Array.mk.injEq, List.cons.injEq, and_true] at this
  subst this
  have := (o2.lt g hg).2
  have := hb g hm
  omega
theorem RS.only {Bl Bs Bo gS base m : Nat} {lv : Value} {n : Nat} {F : List Nat} {Q : Nat → Bool} {O : List Int} {w w' : World} (h : RS Bl Bs Bo gS base lv n F Q O w) {bs : List Nat} (ho : Only bs w w') (hm : ∀ r ∈ bs, m ≤ r) (hf : OffO Bo bs w) (hlt : Bl < m ∧ Bs < m ∧ Bo < m ∧ gS < m) :
    RS Bl Bs Bo gS base lv n F Q O w' ∧ OffO Bo bs w' := by
  obtain ⟨v, o1, o2, o3⟩ := h.op
  have hn : ∀ a, a < m → a ∉ bs := fun a ha hb => by have := hm a hb; omega
  have o1' : Boxed w' Bo 23 v := (ho.block _ o1.lt (hn _ hlt.2.2.1)).trans o1
  refine ⟨⟨(ho.block _ h.l.lt (hn _ hlt.1)).trans h.l, (ho.block _ h.bs.lt (hn _ hlt.2.1)).trans h.bs, h.seen.only ho (hn _ hlt.2.2.2), ⟨v, o1', o2.only ho (hf v o1), o3⟩,
    ⟨h.lo.1, h.lo.2.1, Nat.le_trans h.lo.2.2 ho.size⟩, fun r hr => ⟨Nat.lt_of_lt_of_le (h.fr r hr).1 ho.size, (h.fr r hr).2⟩⟩, fun v' hv' => ?_⟩
  have := o1'.symm.trans hv'
  simp only [Option.some.injEq, Obj.cells.injEq, Array.mk.injEq, List.cons.injEq, and_true] at this
  subst this
  exact hf v o1
theorem RS.more {Bl Bs Bo gS base : Nat} {lv : Value} {n : Nat} {F : List Nat} {Q : Nat → Bool} {O : List Int} {w : World} (h : RS Bl Bs Bo gS base lv n F Q O w) (bs : List Nat) (hf : OffO Bo bs w) (hb : ∀ r ∈ bs, r < w.heap.size ∧ r ≠ gS ∧ r ≠ Bo) : RS Bl Bs Bo gS base lv n (bs ++ F) Q O w := by
  obtain ⟨v, o1, o2, o3⟩ := h.op
  exact ⟨h.l, h.bs, h.seen, ⟨v, o1, o2, fun g hg hm => by
    rcases List.mem_append.1 hm with q | q
    · exact hf v o1 g hg q
    · exact o3 g hg q⟩, h.lo, fun r hr => (List.mem_append.1 hr).elim (hb r) (h.fr r)⟩
theorem RS.less {Bl Bs Bo gS base : Nat} {lv : Value} {n : Nat} {F : List Nat} {Q : Nat → Bool} {O : List Int} {w : World} {bs : List Nat} (h : RS Bl Bs Bo gS base lv n (bs ++ F) Q O w) : RS Bl Bs Bo gS base lv n F Q O w ∧ OffO Bo bs w := by
  obtain ⟨v, o1, o2, o3⟩ := h.op
  refine ⟨⟨h.l, h.bs, h.seen, ⟨v, o1, o2, fun g hg hm => o3 g hg (by simp [hm])⟩, h.lo, fun r hr => h.fr r (by simp [hr])⟩, fun v' hv' => ?_⟩
  have := o1.symm.trans hv'
  simp only [Option.some.injEq, Obj.cells.injEq, Array.mk.injEq, List.cons.injEq, and_true] at this
  subst this
  exact fun g hg hm => o3 g hg (by simp [hm])
/-- One is marked. -/
def setB (Q : Nat → Bool) (i : Nat) : Nat → Bool := fun k => if k = i then true else Q k
theorem map_setB (Q : Nat → Bool) (n i : Nat) (hi : i < n) : ((List.range n).map fun k => Value.bool (setB Q i k)).toArray = (((List.range n).map fun k => Value.bool (Q k)).toArray).setIfInBounds i (.bool true) := by
  apply Array.ext_getElem?
  intro j
  rw [Array.getElem?_setIfInBounds]
  by_cases h : i = j
  · subst h
    simp [hi, setB]
  · have h' : ¬ j = i := fun e => h e.symm
    simp only [List.getElem?_toArray, List.getElem?_map, if_neg h]
    by_cases hj : j < n
    · simp [hj, setB, h']
    · simp [hj]
theorem RS.mark {Bl Bs Bo gS base : Nat} {lv : Value} {n : Nat} {F : List Nat} {Q : Nat → Bool} {O : List Int} {w : World} (h : RS Bl Bs Bo gS base lv n F Q O w) {k : Nat} (hk : k < n) :
    RS Bl Bs Bo gS base lv n F (setB Q k) O (w.setCell ⟨gS, k, none⟩ (.bool true)) ∧ RK base F w (w.setCell ⟨gS, k, none⟩ (.bool true)) := by
  obtain ⟨v, o1, o2, o3⟩ := h.op
  have hon : Only [gS] w (w.setCell ⟨gS, k, none⟩ (.bool true)) := Only.setCell w ⟨gS, k, none⟩ _ (by simp)
  have hot : ∀ {a : Nat} {ty : TypeId} {cs : Array Value}, Blk w a ty cs → ty ≠ 4 → Blk (w.setCell ⟨gS, k, none⟩ (.bool true)) a ty cs := fun {a ty cs} hb n1 => hb.far (p := ⟨gS, k, none⟩) (blk_ne hb h.seen n1) _
  refine ⟨⟨hot h.l (by decide), hot h.bs (by decide), ?_, ⟨v, hot o1 (by decide), o2.only hon ?_, o3⟩, ⟨h.lo.1, h.lo.2.1, by have := h.lo.2.2; have := hon.size; omega⟩, fun r hr => ⟨Nat.lt_of_lt_of_le (h.fr r hr).1 hon.size, (h.fr r hr).2⟩⟩, ⟨hon.below (by intro b hb; simp only [List.mem_singleton] at hb; subst hb; exact h.lo.2.1) h.lo.2.2, fun r hr => hon.block r (h.fr r hr).1 (by simp only [List.mem_singleton]; exact (h.fr r hr).2.1)⟩⟩
  · rw [map_setB Q n k hk]
    exact h.seen.set_ k (.bool true)
  · intro g hg hm
    simp only [List.mem_singleton] at hm
    rcases o2.2 with ⟨q, _⟩ | ⟨g2, cap2, cur, q, _, q3, _⟩
    · rw [q] at hg
      simp [Value.ownBlock] at hg
    · rw [q] at hg
      simp only [Value.ownBlock, Option.some.injEq] at hg
      subst hg
      exact blk_ne (show Blk w g2 3 cur from q3) h.seen (by decide) hm
theorem RS.push {Bl Bs Bo gS base : Nat} {lv : Value} {n : Nat} {F : List Nat} {Q : Nat → Bool} {O : List Int} {w : World} (h : RS Bl Bs Bo gS base lv n F Q O w) (x : Int) (hl : O.length + 1 ≤ 10000000000000) :
    ∃ sa co g cap W2, Boxed w Bo 23 (.slice sa O.length co) ∧ (Builtin.append_ #[23, 23] 23 #[.slice sa O.length co, .slice (some ⟨w.heap.size, 0, none⟩) 1 1]).run Tryd.prog (w.alloc (.cells #[.int .i64 x] 3)) = .ok (.slice (some ⟨g, 0, none⟩) (O.length + 1) cap) W2 ∧ Boxed W2 Bo 23 (.slice sa O.length co) ∧
      RS Bl Bs Bo gS base lv n F Q (O ++ [x]) (W2.setCell ⟨Bo, 0, none⟩ (.slice (some ⟨g, 0, none⟩) (O.length + 1) cap)) ∧ RK base F w (W2.setCell ⟨Bo, 0, none⟩ (.slice (some ⟨g, 0, none⟩) (O.length + 1) cap)) := by
  obtain ⟨v, o1, o2, o3⟩ := h.op
  obtain ⟨sa, co, hv⟩ : ∃ sa co, v = .slice sa O.length co := by
    rcases o2.form with ⟨rfl, q⟩ | ⟨g0, cap0, rfl, _⟩
    · exact ⟨none, 0, by rw [q]; rfl⟩
    · exact ⟨_, _, rfl⟩
  subst hv
  have hbw := h.lo.2.2
  obtain ⟨g, cap, W2, hrun, sl2, hgrow, hwh⟩ := sl_push_in (o2.only (bs := []) (Only.alloc [] w (.cells #[.int .i64 x] 3)) (fun g hg hm => by cases hm)) x w.heap.size (Blk.new w 3 _) hl (by simp; omega)
  obtain ⟨a1, a2, a3, _, a5⟩ := Boxed.appended (n₀ := base) o1 (by decide) o2 hbw h.lo.1 sl2 hgrow
  have og : Only (Bo :: (Value.slice sa O.length co).ownBlock.toList) w (W2.setCell ⟨Bo, 0, none⟩ (.slice (some ⟨g, 0, none⟩) (O.length + 1) cap)) :=
    (((Only.alloc _ _ _).trans (grown_only hgrow)).mono (fun b hb => .inl (by simp only [List.mem_cons]; exact .inr hb))).trans (Only.setCell _ _ _ (by simp))
  have hot : ∀ {a : Nat} {ty : TypeId} {cs : Array Value}, Blk w a ty cs → ty ≠ 23 → ty ≠ 3 → Blk (W2.setCell ⟨Bo, 0, none⟩ (.slice (some ⟨g, 0, none⟩) (O.length + 1) cap)) a ty cs := fun {a ty cs} hb n1 n2 => hb.only og (by
    simp only [List.mem_cons, Option.mem_toList, not_or]
    refine ⟨blk_ne hb o1 n1, fun e => ?_⟩
    rcases o2.2 with ⟨q, _⟩ | ⟨g2, cap2, cur, q, _, q3, _⟩
    · rw [q] at e
      simp [Value.ownBlock] at e
    · rw [q] at e
      simp only [Value.ownBlock, Option.some.injEq] at e
      subst e
      exact blk_ne hb (show Blk w _ 3 cur from q3) n2 rfl)
  have hF : ∀ r ∈ F, r ∉ Bo :: (Value.slice sa O.length co).ownBlock.toList := fun r hr hm => by
    simp only [List.mem_cons, Option.mem_toList] at hm
    rcases hm with e | e
    · exact (h.fr r hr).2.2 e
    · exact o3 r e hr
  refine ⟨sa, co, g, cap, W2, o1, hrun, a1, ⟨hot h.l (by decide) (by decide), hot h.bs (by decide) (by decide), hot h.seen (by decide) (by decide), ⟨_, a2, ?_, ?_⟩, ⟨h.lo.1, h.lo.2.1, by have := og.size; omega⟩, fun r hr => ⟨Nat.lt_of_lt_of_le (h.fr r hr).1 og.size, (h.fr r hr).2⟩⟩, ⟨a5, fun r hr => og.block r (h.fr r hr).1 (hF r hr)⟩⟩
  · have := a3
    unfold Sl
    simpa using this
  · intro g' hg' hm
    simp only [Value.ownBlock, Option.some.injEq] at hg'
    subst hg'
    rcases hwh with q | q
    · exact o3 _ q hm
    · have := (h.fr _ hm).1
      simp at q
      omega
/-- The last one is taken off. -/
theorem RS.pop {Bl Bs Bo gS base : Nat} {lv : Value} {n : Nat} {F : List Nat} {Q : Nat → Bool} {O : List Int} {y : Int} {w : World} (h : RS Bl Bs Bo gS base lv n F Q (O ++ [y]) w) :
    ∃ g cap, Boxed w Bo 23 (.slice (some ⟨g, 0, none⟩) (O.length + 1) cap) ∧ O.length + 1 ≤ cap ∧ cap ≤ 9223372036854775807 ∧ w.cell? ⟨g, O.length, none⟩ = some (.int .i64 y) ∧
      RS Bl Bs Bo gS base lv n F Q O (w.setCell ⟨Bo, 0, none⟩ (.slice (some ⟨g, 0, none⟩) O.length cap)) ∧ RK base F w (w.setCell ⟨Bo, 0, none⟩ (.slice (some ⟨g, 0, none⟩) O.length cap)) := by
  obtain ⟨v, o1, o2, o3⟩ := h.op
  rcases o2.form with ⟨_, q⟩ | ⟨g, cap, rfl, hbg, hg, hc, hm, cur, hcur, hs⟩
  · simp at q
  · have hl : (O ++ [y]).length = O.length + 1 := by simp
    rw [hl] at o1 o2 hc
    have hcell := o2.cell in_len O.length 0 (by simp) (by omega)
    simp only [Nat.mul_one, Nat.add_zero, List.getElem_append_right (Nat.le_refl O.length), Nat.sub_self, List.getElem_cons_zero, inC, List.getElem?_cons_zero] at hcell
    have hno : ∀ {a : Nat} {ty : TypeId} {cs : Array Value}, Blk w a ty cs → ty ≠ 23 → Blk (w.setCell ⟨Bo, 0, none⟩ (.slice (some ⟨g, 0, none⟩) O.length cap)) a ty cs := fun {a ty cs} hb n1 => hb.far (p := ⟨Bo, 0, none⟩) (blk_ne hb o1 n1) _
    have hgo : g ≠ Bo := blk_ne (show Blk w g 3 cur from hcur) o1 (by decide)
    have hon : Only [Bo] w (w.setCell ⟨Bo, 0, none⟩ (.slice (some ⟨g, 0, none⟩) O.length cap)) := Only.setCell w ⟨Bo, 0, none⟩ _ (by simp)
    refine ⟨g, cap, o1, hc, by unfold maxLen at hm; omega, hcell, ⟨hno h.l (by decide), hno h.bs (by decide), hno h.seen (by decide), ⟨_, o1.set _, ?_, fun g' hg' => o3 g' (by simpa [Value.ownBlock] using hg')⟩,
      ⟨h.lo.1, h.lo.2.1, Nat.le_trans h.lo.2.2 hon.size⟩, fun r hr => ⟨Nat.lt_of_lt_of_le (h.fr r hr).1 hon.size, (h.fr r hr).2⟩⟩, ⟨hon.below (by intro b hb; simp at hb; subst hb; exact h.lo.1) h.lo.2.2, fun r hr => hon.block r (h.fr r hr).1 (by simp; exact (h.fr r hr).2.2)⟩⟩
    have hcur' : (w.setCell ⟨Bo, 0, none⟩ (.slice (some ⟨g, 0, none⟩) O.length cap)).heap[g]? = some (.cells cur 3 (0, 0)) := (hon.block g hg (by simpa using hgo)).trans hcur
    refine ⟨by simp [flat_in], .inr ⟨g, cap, cur, rfl, hbg, hcur', by omega, hm, hs, ?_⟩⟩
    rcases o2.2 with ⟨q, _⟩ | ⟨g', cap', cur', q, _, q3, _, _, _, q7⟩
    · cases q
    · simp only [Value.slice.injEq, Option.some.injEq, Addr.mk.injEq, and_true] at q
      obtain ⟨rfl, _, rfl⟩ := q
      rw [hcur] at q3
      cases q3
      rw [Nat.mul_one, flat_in, hl] at q7
      rw [Nat.mul_one, flat_in]
      have := congrArg (List.take O.length) q7
      rw [List.take_take, Nat.min_eq_left (by omega)] at this
      rw [this]
      simp
/-- What push does. -/
def pushF (Q : Nat → Bool) (n : Nat) (O : List Int) (i : Int) : (Nat → Bool) × List Int := if 0 ≤ i ∧ i < n ∧ Q i.toNat = false then (setB Q i.toNat, O ++ [i]) else (Q, O)
end Go.Proofs.YtekfnonjhcfdmaaDoor
namespace Go.Proofs.YtekfnonjhcfdmaaDoor
open Go.RowKit Go.Rt Go.Rw

set_option maxRecDepth 100000 in
set_option maxHeartbeats 4000000 in
theorem push47 {Bl Bs Bo gS base : Nat} {sa : Option Addr} {cap n : Nat} {F : List Nat} {Q : Nat → Bool} {O : List Int} (w : World) (i : Int) (h : RS Bl Bs Bo gS base (.slice sa n cap) n F Q O w) (hO : O.length + 1 ≤ 10000000000000) :
    Calls Tryd.prog 47 #[.int .i64 i, .pointer (some ⟨Bl, 0, none⟩), .pointer (some ⟨Bs, 0, none⟩), .pointer (some ⟨Bo, 0, none⟩)] w fun e w' =>
      e = .returned (.tuple #[]) ∧ RS Bl Bs Bo gS base (.slice sa n cap) n F (pushF Q n O i).1 (pushF Q n O i).2 w' ∧ RK base F w w' := by
  have HS := Lib.hid h
  have cl := h.l.cell
  by_cases h0 : 0 ≤ i
  · by_cases h1 : i < (n : Int)
    · obtain ⟨k, rfl⟩ := Int.eq_ofNat_of_zero_le h0
      have hk : k < n := by omega
      have cs := h.bs.cell
      have ck : w.cell? ⟨gS, k, none⟩ = some (.bool (Q k)) := by
        have := h.seen.cell k
        simpa [hk] using this
      have fk := h.seen.frozen k
      cases hq : Q k with
      | true =>
        have HP : Hid (pushF Q n O k = (Q, O)) := Lib.hid (by unfold pushF; rw [if_neg (fun q => by have := q.2.2; rw [Int.toNat_natCast, hq] at this; cases this)])
        rw [hq] at ck
        clear h hq
        rw [HP.out]
        go_enter Tryd.func47, Tryd.ntmps47
        go_wp2_with fail
        go_end0
        exact ⟨rfl, HS.out, RK.refl⟩
      | false =>
        have HP : Hid (pushF Q n O k = (setB Q k, O ++ [(k : Int)])) := Lib.hid (by unfold pushF; rw [if_pos ⟨by omega, by omega, by rw [Int.toNat_natCast]; exact hq⟩, Int.toNat_natCast])
        rw [hq] at ck
        obtain ⟨m1, m2⟩ := h.mark hk
        have M1 := Lib.hid m1
        have M2 := Lib.hid m2
        clear h hq m1 m2
        rw [HP.out]
        go_enter Tryd.func47, Tryd.ntmps47
        go_upto_region 2 with fail
        generalize w.setCell ⟨gS, k, none⟩ (.bool true) = w5 at M1 M2 ⊢
        obtain ⟨sb, co, g, cap2, W2, q1, hrun, q2, q3, q4⟩ := M1.out.push k hO
        have HRN := Lib.hid hrun
        have Q3 := Lib.hid q3
        have Q4 := Lib.hid (M2.out.trans q4)
        have d0 := q1.cell
        have d1 := q2.cell
        have d2 := q2.frozen
        clear hrun q1 q2 q3 q4 M1 M2 cs ck fk cl
        go_wp2_with (at_builtin; refine wpList_append_run rfl _ _ 23 23 rfl rfl rfl HRN.out ?_)
        go_end0
        exact ⟨rfl, Q3.out, Q4.out⟩
    · have HP : Hid (pushF Q n O i = (Q, O)) := Lib.hid (by unfold pushF; rw [if_neg (fun q => h1 q.2.1)])
      clear h
      rw [HP.out]
      go_enter Tryd.func47, Tryd.ntmps47
      go_wp2_with fail
      go_end0
      exact ⟨rfl, HS.out, RK.refl⟩
  · have HP : Hid (pushF Q n O i = (Q, O)) := Lib.hid (by unfold pushF; rw [if_neg (fun q => h0 q.1)])
    clear h
    rw [HP.out]
    go_enter Tryd.func47, Tryd.ntmps47
    go_wp2_with fail
    go_end0
    exact ⟨rfl, HS.out, RK.refl⟩
/-- How many are not marked yet. -/
def unB (Q : Nat → Bool) (n : Nat) : Nat := ((List.range n).filter fun i => !Q i).length
theorem unB_le (Q : Nat → Bool) (n : Nat) : unB Q n ≤ n := by
  have := List.length_filter_le (fun i => !Q i) (List.range n)
  simpa [unB] using this
theorem unB_set (Q : Nat → Bool) (i : Nat) : ∀ n, i < n → Q i = false → unB (setB Q i) n + 1 = unB Q n
  | 0, h, _ => by omega
  | n + 1, h, hq => by
    unfold unB
    rw [List.range_succ, List.filter_append, List.filter_append, List.length_append, List.length_append]
    by_cases hin : i = n
    · subst hin
      have e1 : (List.range i).filter (fun k => !setB Q i k) = (List.range i).filter fun k => !Q k := List.filter_congr fun k hk => by
        have := List.mem_range.1 hk
        unfold setB
        rw [if_neg (by omega)]
      rw [e1]
      simp [setB, hq]
    · have := unB_set Q i n (by omega) hq
      unfold unB at this
      have e2 : (setB Q i n) = Q n := by unfold setB; rw [if_neg (fun e => hin e.symm)]
      simp only [List.filter_cons, List.filter_nil, e2]
      omega
def LeB (Q Q' : Nat → Bool) : Prop := ∀ i, Q i = true → Q' i = true
theorem LeB.refl (Q : Nat → Bool) : LeB Q Q := fun _ h => h
theorem LeB.trans {a b c : Nat → Bool} (h : LeB a b) (k : LeB b c) : LeB a c := fun i q => k i (h i q)
/-- An instruction is done with. -/
def DonB (l : List In) (Q : Nat → Bool) (i : Nat) : Prop :=
  ∀ hi : i < l.length, (∀ j : Nat, j < l.length → l[i].op = 28 → l[i].to = j → Q j = true) ∧ ∀ j : Nat, j < l.length → (j : Int) ∈ targF l[i] i → Q j = true
theorem DonB.le {l : List In} {Q Q' : Nat → Bool} {i : Nat} (h : DonB l Q i) (hq : LeB Q Q') : DonB l Q' i := fun hi => by
  obtain ⟨h1, h3⟩ := h hi
  exact ⟨fun j hj a b => hq _ (h1 j hj a b), fun j hj a => hq _ (h3 j hj a)⟩
/-- The search's invariant; x is being treated. -/
structure RI (l : List In) (fr : List Int) (Q : Nat → Bool) (O : List Int) (x : Int) : Prop where
  sound : ∀ i, Q i = true → Rch l fr i
  opens : ∀ k ∈ O, ∃ j : Nat, k = j ∧ Q j = true
  closed : ∀ i, Q i = true → (i : Int) ∉ O → (i : Int) ≠ x → DonB l Q i
  cnt : O.length + unB Q l.length ≤ l.length
theorem RI.start (l : List In) (fr : List Int) : RI l fr (fun _ => false) [] (-1) := ⟨fun _ h => (by cases h), fun _ h => (by cases h), fun _ h => (by cases h), by simpa using unB_le _ _⟩
theorem RI.push {l : List In} {fr : List Int} {Q : Nat → Bool} {O : List Int} {x : Int} (h : RI l fr Q O x) (i : Int) (hf : ∀ j : Nat, i = j → j < l.length → Rch l fr j) :
    RI l fr (pushF Q l.length O i).1 (pushF Q l.length O i).2 x ∧ LeB Q (pushF Q l.length O i).1 ∧ (∀ j : Nat, i = j → j < l.length → (pushF Q l.length O i).1 j = true) ∧ 2 * unB (pushF Q l.length O i).1 l.length + (pushF Q l.length O i).2.length ≤ 2 * unB Q l.length + O.length := by
  unfold pushF
  by_cases hi : 0 ≤ i ∧ i < l.length ∧ Q i.toNat = false
  · rw [if_pos hi]
    obtain ⟨k, rfl⟩ := Int.eq_ofNat_of_zero_le hi.1
    have hk : k < l.length := by omega
    have hq := hi.2.2
    rw [Int.toNat_natCast] at hq ⊢
    have hle : LeB Q (setB Q k) := fun j hj => by
      unfold setB
      split
      · rfl
      · exact hj
    have hun := unB_set Q k l.length hk hq
    refine ⟨⟨fun j hj => ?_, fun y hy => ?_, fun j hj hjo hjx => ?_, ?_⟩, hle, fun j hj hjl => ?_, ?_⟩
    · dsimp only at hj
      unfold setB at hj
      by_cases hjk : j = k
      · subst hjk
        exact hf j rfl hk
      · rw [if_neg hjk] at hj
        exact h.sound j hj
    · rcases List.mem_append.1 hy with hy | hy
      · obtain ⟨j, e, hu⟩ := h.opens y hy
        exact ⟨j, e, hle _ hu⟩
      · rw [List.mem_singleton] at hy
        exact ⟨k, hy, by simp [setB]⟩
    · rw [List.mem_append, not_or, List.mem_singleton] at hjo
      have hjk : j ≠ k := fun e => hjo.2 (by rw [e])
      simp only [setB] at hj
      rw [if_neg hjk] at hj
      exact (h.closed j hj hjo.1 hjx).le hle
    · have := h.cnt
      simp only [List.length_append, List.length_cons, List.length_nil]
      omega
    · obtain rfl : j = k := by omega
      simp [setB]
    · simp only [List.length_append, List.length_cons, List.length_nil]
      omega
  · rw [if_neg hi]
    refine ⟨h, LeB.refl _, fun j hj hjl => ?_, Nat.le_refl _⟩
    subst hj
    cases hq : Q j with
    | true => exact hq
    | false => exact absurd ⟨by omega, by omega, by rw [Int.toNat_natCast]; exact hq⟩ hi
theorem RI.pop {l : List In} {fr : List Int} {Q : Nat → Bool} {O : List Int} {y : Int} (h : RI l fr Q (O ++ [y]) (-1)) : ∃ j : Nat, y = j ∧ j < l.length ∧ Q j = true ∧ Rch l fr j ∧ RI l fr Q O j := by
  obtain ⟨j, e, ht⟩ := h.opens y (by simp)
  have hf := h.sound j ht
  refine ⟨j, e, hf.lt, ht, hf, ⟨h.sound, fun k hk => h.opens k (by simp [hk]), fun i hi ho hx => h.closed i hi (fun hm => ?_) (by omega), by have := h.cnt; simp at this; omega⟩⟩
  rw [List.mem_append, List.mem_singleton] at hm
  rcases hm with hm | hm
  · exact ho hm
  · exact hx (by rw [hm, e])
theorem RI.done {l : List In} {fr : List Int} {Q : Nat → Bool} {O : List Int} {j : Nat} (h : RI l fr Q O j) (hd : DonB l Q j) : RI l fr Q O (-1) :=
  ⟨h.sound, h.opens, fun i hi ho _ => by
    by_cases hij : i = j
    · subst hij
      exact hd
    · exact h.closed i hi ho (by omega), h.cnt⟩
theorem RI.fin {l : List In} {fr : List Int} {Q : Nat → Bool} (h : RI l fr Q [] (-1)) (he : ∀ i : Nat, (i : Int) ∈ fr → i < l.length → Q i = true) (i : Nat) : Q i = true ↔ Rch l fr i := by
  have hc : ∀ i, Q i = true → DonB l Q i := fun i hi => h.closed i hi (by simp) (by omega)
  exact ⟨h.sound i, fun hr => Rch.sub (fun i => Q i = true) he (fun i j hi hq hj ht => (hc i hq hi).2 j hj ht) (fun i j hi hq hj h1 h2 => (hc i hq hi).1 j hj h1 h2) i hr⟩
end Go.Proofs.YtekfnonjhcfdmaaDoor
namespace Go.Proofs.YtekfnonjhcfdmaaDoor
open Go Go.RowKit Go.Rt Go.Rw

def upd {α : Type} (f : Nat → α) (k : Nat) (v : α) : Nat → α := fun i => if i = k then v else f i
theorem upd_at {α : Type} (f : Nat → α) (k : Nat) (v : α) : upd f k v k = v := if_pos rfl
theorem upd_ne {α : Type} (f : Nat → α) {k i : Nat} (v : α) (h : i ≠ k) : upd f k v i = f i := if_neg h
def sp (b : Nat) : Value := .pointer (some ⟨b, 0, none⟩)
def own (b : Nat) (o : Option Nat) : List Nat := b :: o.toList
theorem SetAt.only {w w' : World} {base b : Nat} {o : Option Nat} {ws : List Nat} {bs : List Nat} (h : SetAt w base b o ws) (ho : Only bs w w') (hn : ∀ r ∈ own b o, r ∉ bs) : SetAt w' base b o ws := by
  obtain ⟨h0, h1, sa, co, h2, h3, h4⟩ := h
  exact ⟨h0, h1, sa, co, h2.only ho (hn _ (List.mem_cons_self ..)), h3.only ho (fun g hg => hn g (by rw [h4] at hg; unfold own; rw [List.mem_cons, Option.mem_toList]; exact .inr hg)), h4⟩
/-- The blocks of a set hold no pointers. -/
theorem SetAt.not {w : World} {base b g : Nat} {o : Option Nat} {ws : List Nat} {t : TypeId} {cs : Array Value} (h : SetAt w base b o ws) (hg : Blk w g t cs) (h1 : t ≠ 62) (h2 : t ≠ 95) : g ∉ own b o := by
  obtain ⟨h0, _, sa, co, hb, hs, hown⟩ := h
  intro hm
  unfold own at hm
  rw [List.mem_cons, Option.mem_toList] at hm
  rcases hm with rfl | hm
  · exact blk_ne hg hb h1 rfl
  · rw [← hown] at hm
    rcases hs.2 with ⟨q, _⟩ | ⟨g2, cap2, cur, q, _, q3, _⟩
    · rw [q] at hm
      simp [Value.ownBlock] at hm
    · rw [q] at hm
      simp only [Value.ownBlock, Option.some.injEq] at hm
      subst hm
      exact blk_ne hg (show Blk w g2 95 cur from q3) h2 rfl
theorem SetAt.lt {w : World} {base b : Nat} {o : Option Nat} {ws : List Nat} (h : SetAt w base b o ws) : ∀ r ∈ own b o, base ≤ r ∧ r < w.heap.size := h.lo
theorem SetAt.mono {w : World} {base base' b : Nat} {o : Option Nat} {ws : List Nat} (h : SetAt w base b o ws) (hb : base' ≤ base) : SetAt w base' b o ws := by
  obtain ⟨h0, h1, sa, co, h2, h3, h4⟩ := h
  exact ⟨Nat.le_trans hb h0, h1, sa, co, h2, h3.mono hb, h4⟩
/-- A row of sets, the first k of n. -/
structure Fam (W : World) (base n k g : Nat) (T : List Value) (b : Nat → Nat) (o : Nat → Option Nat) (s : Nat → List Nat) : Prop where
  len : T.length = n
  arr : Blk W g 59 T.toArray
  ptr : ∀ i, i < k → T[i]? = some (sp (b i))
  set : ∀ i, i < k → SetAt W base (b i) (o i) (s i)
  ne : ∀ i j, i < k → j < k → i ≠ j → ∀ r ∈ own (b i) (o i), r ∉ own (b j) (o j)
theorem Fam.only {W W' : World} {base n k g : Nat} {T : List Value} {b : Nat → Nat} {o : Nat → Option Nat} {s : Nat → List Nat} {bs : List Nat} (h : Fam W base n k g T b o s) (ho : Only bs W W') (hg : g ∉ bs) (hs : ∀ i, i < k → ∀ r ∈ own (b i) (o i), r ∉ bs) : Fam W' base n k g T b o s :=
  ⟨h.len, h.arr.only ho hg, h.ptr, fun i hi => (h.set i hi).only ho (hs i hi), h.ne⟩
theorem Fam.below {W W' : World} {base n k g : Nat} {T : List Value} {b : Nat → Nat} {o : Nat → Option Nat} {s : Nat → List Nat} {m : Nat} (h : Fam W base n k g T b o s) (hb : Below m W W') (hm : W.heap.size ≤ m) : Fam W' base n k g T b o s :=
  h.only (bs := []) (Only.of_below (hb.mono hm)) (by simp) (fun _ _ _ _ => by simp)
theorem Fam.cell {W : World} {base n k g : Nat} {T : List Value} {b : Nat → Nat} {o : Nat → Option Nat} {s : Nat → List Nat} (h : Fam W base n k g T b o s) {i : Nat} (hi : i < k) : W.cell? ⟨g, i, none⟩ = some (sp (b i)) := by
  rw [h.arr.cell i, List.getElem?_toArray, h.ptr i hi]
/-- One set is joined. -/
theorem Fam.join {W W' : World} {base n k g : Nat} {T : List Value} {b : Nat → Nat} {o : Nat → Option Nat} {s : Nat → List Nat} (h : Fam W base n k g T b o s) {i : Nat} (hi : i < k) {o' : Option Nat} {s' : List Nat} (hs : SetAt W' base (b i) o' s') (hm : Same W (o i) o') (ho : Only (own (b i) (o i)) W W') : Fam W' base n k g T b (upd o i o') (upd s i s') := by
  have hfar : ∀ j, j < k → j ≠ i → ∀ r ∈ own (b j) (o j), r ∉ own (b i) o' := fun j hj hji r hr hmem => by
    have h1 := h.ne j i hj hi hji r hr
    have h2 := ((h.set j hj).lt r hr).2
    unfold own at hmem h1
    rw [List.mem_cons, Option.mem_toList] at hmem h1
    rcases hmem with e | e
    · exact h1 (.inl e)
    · rcases hm with rfl | ⟨q, rfl, hq⟩
      · exact h1 (.inr e)
      · simp only [Option.some.injEq] at e
        omega
  refine ⟨h.len, h.arr.only ho ((h.set i hi).not h.arr (by decide) (by decide)), h.ptr, fun j hj => ?_, fun j j2 hj hj2 hne => ?_⟩
  · by_cases e : j = i
    · subst e
      rw [upd_at, upd_at]
      exact hs
    · rw [upd_ne _ _ e, upd_ne _ _ e]
      exact (h.set j hj).only ho (h.ne j i hj hi e)
  · by_cases e : j = i
    · subst e
      rw [upd_at, upd_ne _ _ (Ne.symm hne)]
      intro r hr hmem
      exact hfar j2 hj2 (Ne.symm hne) r hmem hr
    · rw [upd_ne _ _ e]
      by_cases e2 : j2 = i
      · subst e2
        rw [upd_at]
        exact hfar j hj e
      · rw [upd_ne _ _ e2]
        exact h.ne j j2 hj hj2 hne
/-- One set is put. -/
theorem Fam.make {W0 W : World} {base n k g : Nat} {T : List Value} {b : Nat → Nat} {o : Nat → Option Nat} {s : Nat → List Nat} (h : Fam W0 base n k g T b o s) {bs : List Nat} (ho : Only bs W0 W) (hs : ∀ i, i < k → ∀ r ∈ own (b i) (o i), r ∉ bs) {j k' : Nat} (hj : j < n) (hk : ∀ i, i < k' → i ≠ j → i < k)
    {bj : Nat} {oj : Option Nat} {sj : List Nat} (hb : Blk W g 59 (T.set j (sp bj)).toArray) (hn : SetAt W base bj oj sj) (hf : ∀ r ∈ own bj oj, W0.heap.size ≤ r) : Fam W base n k' g (T.set j (sp bj)) (upd b j bj) (upd o j oj) (upd s j sj) := by
  have hfar : ∀ i, i < k → ∀ r ∈ own (b i) (o i), r ∉ own bj oj := fun i hi r hr hm => by
    have h1 := ((h.set i hi).lt r hr).2
    have h2 := hf r hm
    omega
  refine ⟨by rw [List.length_set]; exact h.len, hb, fun i hi => ?_, fun i hi => ?_, fun i i2 hi hi2 hne => ?_⟩
  · by_cases e : i = j
    · subst e
      rw [upd_at, List.getElem?_set_self (by rw [h.len]; exact hj)]
    · rw [upd_ne _ _ e, List.getElem?_set_ne (Ne.symm e)]
      exact h.ptr i (hk i hi e)
  · by_cases e : i = j
    · subst e
      rw [upd_at, upd_at, upd_at]
      exact hn
    · rw [upd_ne _ _ e, upd_ne _ _ e, upd_ne _ _ e]
      exact (h.set i (hk i hi e)).only ho (hs i (hk i hi e))
  · by_cases e : i = j
    · subst e
      rw [upd_at, upd_at, upd_ne _ _ (Ne.symm hne), upd_ne _ _ (Ne.symm hne)]
      intro r hr hm
      exact hfar i2 (hk i2 hi2 (Ne.symm hne)) r hm hr
    · rw [upd_ne _ _ e, upd_ne _ _ e]
      by_cases e2 : i2 = j
      · subst e2
        rw [upd_at, upd_at]
        exact hfar i (hk i hi e)
      · rw [upd_ne _ _ e2, upd_ne _ _ e2]
        exact h.ne i i2 (hk i hi e) (hk i2 hi2 e2) hne
/-- Two rows share no block. -/
def Apart (kL kD : Nat) (bL : Nat → Nat) (oL : Nat → Option Nat) (bD : Nat → Nat) (oD : Nat → Option Nat) : Prop := ∀ i j, i < kL → j < kD → ∀ r ∈ own (bL i) (oL i), r ∉ own (bD j) (oD j)

/-! ### Plain -/
def sumN (f : Nat → Nat) (n : Nat) : Nat := match n with
  | 0 => 0
  | n + 1 => sumN f n + f n
theorem sumN_le {f g : Nat → Nat} : ∀ n, (∀ i, i < n → f i ≤ g i) → sumN f n ≤ sumN g n
  | 0, _ => Nat.le_refl _
  | n + 1, h => Nat.add_le_add (sumN_le n fun i hi => h i (by omega)) (h n (by omega))
theorem sumN_lt {f g : Nat → Nat} : ∀ n, (∀ i, i < n → f i ≤ g i) → (∃ i, i < n ∧ f i < g i) → sumN f n < sumN g n
  | 0, _, ⟨_, h, _⟩ => by omega
  | n + 1, h, ⟨i, hi, hlt⟩ => by
    have h1 := sumN_le n fun i hi => h i (by omega)
    have h2 := h n (by omega)
    unfold sumN
    by_cases e : i = n
    · subst e; omega
    · have := sumN_lt n (fun i hi => h i (by omega)) ⟨i, by omega, hlt⟩
      omega
theorem sumN_congr {f g : Nat → Nat} : ∀ n, (∀ i, i < n → f i = g i) → sumN f n = sumN g n
  | 0, _ => rfl
  | n + 1, h => by rw [sumN, sumN, sumN_congr n (fun i hi => h i (by omega)), h n (by omega)]
def lackN (f : Nat → Bool) (n : Nat) : Nat := sumN (fun k => if f k then 0 else 1) n
/-- How many numbers the sets lack. -/
def miss (n N : Nat) (s : Nat → List Nat) : Nat := sumN (fun i => lackN (hasF (s i)) N) n
theorem miss_lt {n N : Nat} {s : Nat → List Nat} {i : Nat} (hi : i < n) {x : List Nat} (hx : ∀ k, hasF (s i) k = true → hasF x k = true) (hk : ∃ k, k < N ∧ hasF x k = true ∧ hasF (s i) k = false) : miss n N (upd s i x) < miss n N s := by
  have hle : lackN (hasF x) N ≤ lackN (hasF (s i)) N := sumN_le N fun k _ => by
    by_cases h : hasF (s i) k = true
    · rw [if_pos h, if_pos (hx k h)]; exact Nat.le_refl _
    · rw [if_neg h]; split <;> omega
  refine sumN_lt n (fun j _ => ?_) ⟨i, hi, ?_⟩
  · by_cases e : j = i
    · subst e; simp only [upd_at]; exact hle
    · simp only [upd_ne _ _ e]; exact Nat.le_refl _
  · simp only [upd_at]
    obtain ⟨k, hkN, h1, h2⟩ := hk
    refine sumN_lt N (fun k _ => ?_) ⟨k, hkN, by rw [if_pos h1, if_neg (by rw [h2]; simp)]; omega⟩
    by_cases h : hasF (s i) k = true
    · rw [if_pos h, if_pos (hx k h)]; exact Nat.le_refl _
    · rw [if_neg h]; split <;> omega
/-- The same numbers. -/
def EqS (s s' : Nat → List Nat) : Prop := ∀ i k, hasF (s i) k = hasF (s' i) k
theorem miss_eq {n N : Nat} {s s' : Nat → List Nat} (h : EqS s s') : miss n N s = miss n N s' := sumN_congr n fun i _ => sumN_congr N fun k _ => by rw [h i k]
/-- What the sets hold is live; what is read is held. -/
structure LI (l : List In) (fr : List Int) (T : Nat → List Int) (kd : Int) (all : List Int) (s : Nat → List Nat) : Prop where
  sound : ∀ i k, i < l.length → hasF (s i) k = true → ∃ n, all[k]? = some n ∧ Lv l fr T kd i n
  uses : ∀ i (hi : i < l.length) n, Rch l fr i → ⟨kd, n⟩ ∈ usesF l[i] → ∃ k, all[k]? = some n ∧ hasF (s i) k = true
  size : ∀ i, i < l.length → (s i).length ≤ all.length / 64 + 1
/-- The sets of what is written. -/
structure DI (l : List In) (kd : Int) (all : List Int) (d : Nat → List Nat) : Prop where
  is : ∀ i (hi : i < l.length) k n, all[k]? = some n → (hasF (d i) k = true ↔ ⟨kd, n⟩ ∈ defsF l[i])
  size : ∀ i, i < l.length → (d i).length ≤ all.length / 64 + 1
/-- Nothing is lacking along a step. -/
def ClT (_ : List In) (d s : Nat → List Nat) (i j : Nat) : Prop := ∀ k, hasF (s j) k = true → hasF (d i) k = false → hasF (s i) k = true
def ClH (s : Nat → List Nat) (i j : Nat) : Prop := ∀ k, hasF (s j) k = true → hasF (s i) k = true
theorem ClT.eq {l : List In} {d s s' : Nat → List Nat} {i j : Nat} (h : ClT l d s i j) (e : EqS s s') : ClT l d s' i j := fun k h1 h2 => by rw [← e i k]; exact h k (by rw [e j k]; exact h1) h2
theorem ClH.eq {s s' : Nat → List Nat} {i j : Nat} (h : ClH s i j) (e : EqS s s') : ClH s' i j := fun k h1 => by rw [← e i k]; exact h k (by rw [e j k]; exact h1)
def AllT (l : List In) (d s : Nat → List Nat) (i : Nat) : Prop := ∀ (hi : i < l.length) (j : Nat), j < l.length → (j : Int) ∈ targF l[i] i → ClT l d s i j
def AllH (l : List In) (T : Nat → List Int) (s : Nat → List Nat) (i : Nat) : Prop := ∀ j : Nat, j < l.length → (T i).getLast? = some (j : Int) → ClH s i j
def Cl (l : List In) (fr : List Int) (T : Nat → List Int) (d s : Nat → List Nat) (i : Nat) : Prop := Rch l fr i → AllT l d s i ∧ AllH l T s i
theorem Cl.eq {l : List In} {fr : List Int} {T : Nat → List Int} {d s s' : Nat → List Nat} {i : Nat} (h : Cl l fr T d s i) (e : EqS s s') : Cl l fr T d s' i := fun hr => ⟨fun hi j hj hm => ((h hr).1 hi j hj hm).eq e, fun j hj hm => ((h hr).2 j hj hm).eq e⟩
/-- At the end the sets are what is live. -/
theorem LI.fin {l : List In} {fr : List Int} {T : Nat → List Int} {kd : Int} {all : List Int} {s d : Nat → List Nat} (h : LI l fr T kd all s) (hd : DI l kd all d) (hc : ∀ i, i < l.length → Cl l fr T d s i) (i : Nat) (n : Int) (hi : i < l.length) : Lv l fr T kd i n ↔ ∃ k, all[k]? = some n ∧ hasF (s i) k = true := by
  constructor
  · intro hL
    clear hi
    induction hL with
    | use i hi n hr hu => exact h.uses i hi n hr hu
    | step i j hi n hr hj ht hnd _ ih =>
      obtain ⟨k, h1, h2⟩ := ih
      refine ⟨k, h1, (hc i hi hr).1 hi j hj ht k h2 ?_⟩
      cases e : hasF (d i) k with
      | false => rfl
      | true => exact absurd ((hd.is i hi k n h1).1 e) hnd
    | hand i j hi n hr hj ht _ ih =>
      obtain ⟨k, h1, h2⟩ := ih
      exact ⟨k, h1, (hc i hi hr).2 j hj ht k h2⟩
  · rintro ⟨k, h1, h2⟩
    obtain ⟨m, h3, h4⟩ := h.sound i k hi h2
    rw [h1] at h3
    cases h3
    exact h4
/-- What a join does to the sets. -/
structure JoinR (n N : Nat) (s s' : Nat → List Nat) (r : Bool) : Prop where
  no : r = false → EqS s s'
  yes : r = true → miss n N s' < miss n N s
def joinS (us ds ws : List Nat) : List Nat := (joinK us ds ws us.length).1
def joinB (us ds ws : List Nat) : Bool := (joinK us ds ws us.length).2
theorem join_all {l : List In} {fr : List Int} {T : Nat → List Int} {kd : Int} {all : List Int} {s : Nat → List Nat} (h : LI l fr T kd all s) {i j : Nat} (hi : i < l.length) (hj : j < l.length) (ds : List Nat) (hw : ∀ x ∈ s j, x < 18446744073709551616)
    (hs : ∀ k n, all[k]? = some n → hasF (s j) k = true → hasF ds k = false → Lv l fr T kd j n → Lv l fr T kd i n) :
    LI l fr T kd all (upd s i (joinS (s j) ds (s i))) ∧ JoinR l.length all.length s (upd s i (joinS (s j) ds (s i))) (joinB (s j) ds (s i)) ∧ (joinB (s j) ds (s i) = false → ∀ k, hasF (s j) k = true → hasF ds k = false → hasF (s i) k = true) := by
  refine ⟨⟨fun i2 k hi2 hk => ?_, fun i2 hi2 n hr hu => ?_, fun i2 hi2 => ?_⟩, ⟨fun hr i2 k => ?_, fun hr => ?_⟩, fun hr k => join_same _ _ _ hr k⟩
  · by_cases e : i2 = i
    · subst e
      rw [upd_at, joinS, has_join] at hk
      simp only [Bool.or_eq_true, Bool.and_eq_true, Bool.not_eq_true'] at hk
      rcases hk with hk | ⟨h1, h2⟩
      · exact h.sound i2 k hi2 hk
      · obtain ⟨n, h3, h4⟩ := h.sound j k hj h1
        exact ⟨n, h3, hs k n h3 h1 h2 h4⟩
    · rw [upd_ne _ _ e] at hk
      exact h.sound i2 k hi2 hk
  · obtain ⟨k, h1, h2⟩ := h.uses i2 hi2 n hr hu
    refine ⟨k, h1, ?_⟩
    by_cases e : i2 = i
    · subst e
      rw [upd_at, joinS, has_join, h2, Bool.true_or]
    · rw [upd_ne _ _ e]
      exact h2
  · by_cases e : i2 = i
    · subst e
      rw [upd_at, joinS, joinK_len']
      have h1 := h.size i2 hi2
      have h2 := h.size j hj
      omega
    · rw [upd_ne _ _ e]
      exact h.size i2 hi2
  · by_cases e : i2 = i
    · subst e
      rw [upd_at, joinS, has_join]
      have := join_same _ _ _ hr k
      cases h1 : hasF (s j) k with
      | false => simp
      | true =>
        cases h2 : hasF ds k with
        | true => simp
        | false => simp [this h1 h2]
    · rw [upd_ne _ _ e]
  · obtain ⟨k, h1, h2, h3⟩ := join_new _ _ _ hw hr
    refine miss_lt hi (fun k h => ?_) ⟨k, ?_, ?_, h3⟩
    · rw [joinS, has_join, h, Bool.true_or]
    · obtain ⟨n, h4, _⟩ := h.sound j k hj h1
      exact (List.getElem?_eq_some_iff.1 h4).1
    · rw [joinS, has_join, h1, h2]
      simp
/-- What a pass keeps: while nothing has changed, what it has seen holds. -/
structure PI (n N M : Nat) (s : Nat → List Nat) (ch : Bool) (P : Prop) : Prop where
  no : ch = false → miss n N s = M ∧ P
  yes : ch = true → miss n N s < M
theorem PI.step {n N M : Nat} {s s' : Nat → List Nat} {ch r : Bool} {P P' : Prop} (h : PI n N M s ch P) (hj : JoinR n N s s' r) (hp : r = false → P → P') : PI n N M s' (ch || r) P' := by
  cases ch with
  | false =>
    cases r with
    | false => exact ⟨fun _ => ⟨by rw [← miss_eq (hj.no rfl)]; exact (h.no rfl).1, hp rfl (h.no rfl).2⟩, fun e => by cases e⟩
    | true => exact ⟨fun e => (by cases e), fun _ => by rw [← (h.no rfl).1]; exact hj.yes rfl⟩
  | true =>
    refine ⟨fun e => by simp at e, fun _ => ?_⟩
    have := h.yes rfl
    cases r with
    | false => rw [← miss_eq (hj.no rfl)]; exact this
    | true => exact Nat.lt_trans (hj.yes rfl) this
theorem PI.keep {n N M : Nat} {s : Nat → List Nat} {ch : Bool} {P P' : Prop} (h : PI n N M s ch P) (hp : P → P') : PI n N M s ch P' := ⟨fun e => ⟨(h.no e).1, hp (h.no e).2⟩, h.yes⟩
/-- The numbers of a kind. -/
def gat (kd : Int) (L : List Ar) : List Int := (L.filter fun a => decide (a.k = kd)).map (·.n)
theorem gat_append (kd : Int) (L M : List Ar) : gat kd (L ++ M) = gat kd L ++ gat kd M := by simp [gat]
theorem mem_gat (kd : Int) (L : List Ar) (n : Int) : n ∈ gat kd L ↔ ⟨kd, n⟩ ∈ L := by
  unfold gat
  rw [List.mem_map]
  constructor
  · rintro ⟨⟨k, m⟩, h, rfl⟩
    rw [List.mem_filter, decide_eq_true_eq] at h
    obtain ⟨h1, rfl⟩ := h
    exact h1
  · intro h
    exact ⟨_, List.mem_filter.2 ⟨h, by simp⟩, rfl⟩
theorem gat_len (kd : Int) (L : List Ar) : (gat kd L).length ≤ L.length := by
  unfold gat
  rw [List.length_map]
  exact List.length_filter_le _ _
theorem insF_len : ∀ (l : List Int) (n : Int), (insF l n).length ≤ l.length + 1
  | [], _ => Nat.le_refl _
  | a :: r, n => by
    unfold insF
    split
    · simp
    · split
      · simp
      · have := insF_len r n
        simp only [List.length_cons]
        omega
theorem asc_len (l : List Int) : (asc l).length ≤ l.length := by
  have h : ∀ (l a : List Int), (l.foldl insF a).length ≤ a.length + l.length := by
    intro l
    induction l with
    | nil => intro a; simp
    | cons b r ih =>
      intro a
      have h1 := ih (insF a b)
      have h2 := insF_len a b
      simp only [List.foldl_cons, List.length_cons]
      omega
  simpa [asc] using h l []
/-- All operands. -/
def argsF (l : List In) : List Ar := l.flatMap fun x => usesF x ++ defsF x
theorem argsF_take (l : List In) (k : Nat) (hk : k < l.length) : argsF (l.take (k + 1)) = argsF (l.take k) ++ (usesF l[k] ++ defsF l[k]) := by
  unfold argsF
  rw [List.take_succ_eq_append_getElem hk, List.flatMap_append]
  simp
theorem argsF_le (l : List In) (k : Nat) : (argsF (l.take k)).length ≤ (argsF l).length := by
  have : argsF l = argsF (l.take k) ++ argsF (l.drop k) := by
    unfold argsF
    rw [← List.flatMap_append, List.take_append_drop]
  rw [this, List.length_append]
  omega
/-- The map gives each number's place. -/
def IdxI (all : List Int) (j : Nat) (idx : List (Int × Nat)) : Prop := ∀ n k, Mp.get idx n = some k ↔ k < j ∧ all[k]? = some n
theorem IdxI.start (all : List Int) : IdxI all 0 [] := fun n k => by simp [Mp.get]
theorem up_inj {l : List Int} (h : Up l) {i j : Nat} {n : Int} (hi : l[i]? = some n) (hj : l[j]? = some n) : i = j := by
  obtain ⟨h1, e1⟩ := List.getElem?_eq_some_iff.1 hi
  obtain ⟨h2, e2⟩ := List.getElem?_eq_some_iff.1 hj
  rcases Nat.lt_trichotomy i j with q | q | q
  · have := List.pairwise_iff_getElem.1 h i j h1 h2 q
    omega
  · exact q
  · have := List.pairwise_iff_getElem.1 h j i h2 h1 q
    omega
theorem IdxI.step {all : List Int} {j : Nat} {idx : List (Int × Nat)} (h : IdxI all j idx) (hu : Up all) (hj : j < all.length) : IdxI all (j + 1) (Mp.put idx all[j] j) := fun n k => by
  rw [get_put]
  by_cases e : all[j] = n
  · rw [if_pos e]
    constructor
    · intro q
      cases q
      exact ⟨by omega, by rw [List.getElem?_eq_getElem hj, e]⟩
    · rintro ⟨_, q⟩
      rw [up_inj hu q (show all[j]? = some n by rw [List.getElem?_eq_getElem hj, e])]
  · rw [if_neg e, h n k]
    constructor
    · rintro ⟨h1, h2⟩
      exact ⟨by omega, h2⟩
    · rintro ⟨h1, h2⟩
      refine ⟨?_, h2⟩
      rcases Nat.lt_succ_iff_lt_or_eq.1 h1 with q | q
      · exact q
      · subst q
        rw [List.getElem?_eq_getElem hj] at h2
        exact absurd (Option.some.inj h2) e
theorem IdxI.ix {all : List Int} {idx : List (Int × Nat)} (h : IdxI all all.length idx) {k : Nat} {n : Int} (hk : all[k]? = some n) : ixF idx n = k := by
  unfold ixF
  rw [(h n k).2 ⟨(List.getElem?_eq_some_iff.1 hk).1, hk⟩]
  rfl
theorem IdxI.le {all : List Int} {j : Nat} {idx : List (Int × Nat)} (h : IdxI all j idx) (n : Int) : ixF idx n ≤ j := by
  unfold ixF
  cases e : Mp.get idx n with
  | none => exact Nat.zero_le _
  | some k => exact Nat.le_of_lt ((h n k).1 e).1
theorem IdxI.has {all : List Int} {idx : List (Int × Nat)} (h : IdxI all all.length idx) {kd : Int} {L : List Ar} (hL : ∀ a ∈ L, a.k = kd → a.n ∈ all) (k : Nat) : hasF (numF idx kd L []) k = true ↔ ∃ n, all[k]? = some n ∧ ⟨kd, n⟩ ∈ L := by
  rw [has_numF, has_nil]
  constructor
  · rintro (q | ⟨⟨ak, an⟩, h1, h2, h3⟩)
    · cases q
    · dsimp only at h2 h3
      subst h2
      obtain ⟨j, hj⟩ := List.getElem?_of_mem (hL _ h1 rfl)
      rw [h.ix hj] at h3
      subst h3
      exact ⟨an, hj, h1⟩
  · rintro ⟨n, h1, h2⟩
    exact .inr ⟨_, h2, rfl, h.ix h1⟩
theorem IdxI.size {all : List Int} {idx : List (Int × Nat)} (h : IdxI all all.length idx) (kd : Int) (L : List Ar) : (numF idx kd L []).length ≤ all.length / 64 + 1 :=
  numF_len idx kd _ L [] (Nat.zero_le _) (fun a _ => by have := h.le a.n; omega)
theorem DI.start {l : List In} {kd : Int} {all : List Int} {idx : List (Int × Nat)} {d : Nat → List Nat} (h : IdxI all all.length idx) (hL : ∀ a ∈ argsF l, a.k = kd → a.n ∈ all) (hd : ∀ i (hi : i < l.length), d i = numF idx kd (defsF l[i]) []) : DI l kd all d := by
  refine ⟨fun i hi k n hk => ?_, fun i hi => by rw [hd i hi]; exact h.size kd _⟩
  rw [hd i hi, h.has (fun a ha => hL a (List.mem_flatMap.2 ⟨l[i], List.getElem_mem _, List.mem_append_right _ ha⟩))]
  constructor
  · rintro ⟨m, h1, h2⟩
    rw [hk] at h1
    cases h1
    exact h2
  · intro h2
    exact ⟨n, hk, h2⟩
theorem LI.start {l : List In} {fr : List Int} {T : Nat → List Int} {kd : Int} {all : List Int} {idx : List (Int × Nat)} {s : Nat → List Nat} (h : IdxI all all.length idx) (hL : ∀ a ∈ argsF l, a.k = kd → a.n ∈ all)
    (hs : ∀ i (hi : i < l.length), (Rch l fr i → s i = numF idx kd (usesF l[i]) []) ∧ (¬ Rch l fr i → s i = [])) : LI l fr T kd all s := by
  have hin : ∀ i (hi : i < l.length), ∀ a ∈ usesF l[i], a.k = kd → a.n ∈ all := fun i hi a ha => hL a (List.mem_flatMap.2 ⟨l[i], List.getElem_mem _, List.mem_append_left _ ha⟩)
  refine ⟨fun i k hi hk => ?_, fun i hi n hr hu2 => ?_, fun i hi => ?_⟩
  · by_cases hr : Rch l fr i
    · rw [(hs i hi).1 hr, h.has (hin i hi)] at hk
      obtain ⟨n, h1, h2⟩ := hk
      exact ⟨n, h1, Lv.use i hi n hr h2⟩
    · rw [(hs i hi).2 hr, has_nil] at hk
      cases hk
  · obtain ⟨k, hk⟩ := List.getElem?_of_mem (hin i hi _ hu2 rfl)
    refine ⟨k, hk, ?_⟩
    rw [(hs i hi).1 hr, h.has (hin i hi)]
    exact ⟨n, hk, hu2⟩
  · by_cases hr : Rch l fr i
    · rw [(hs i hi).1 hr]
      exact h.size kd _
    · rw [(hs i hi).2 hr]
      exact Nat.zero_le _
/-- What Live answers: for each instruction the ascending list of what is live before it. -/
def LvL (l : List In) (fr : List Int) (T : Nat → List Int) (kd : Int) (R : List (List Int)) : Prop := R.length = l.length ∧ ∀ i (hi : i < R.length), Up R[i] ∧ ∀ n, n ∈ R[i] ↔ Lv l fr T kd i n
/-- The list of a set's numbers. -/
def namesF (all : List Int) (ws : List Nat) : List Int := (listK ws ws.length).map fun k => all.getD k.toNat 0
theorem names_up {all : List Int} {ws : List Nat} (hu : Up all) (hw : ∀ k, hasF ws k = true → k < all.length) : Up (namesF all ws) := by
  unfold Up namesF
  rw [List.pairwise_map]
  refine List.Pairwise.imp_of_mem (fun {a b} ha hb hab => ?_) (up_listK ws ws.length)
  obtain ⟨i, h1, rfl⟩ := (mem_list ws a).1 ha
  obtain ⟨j, h2, rfl⟩ := (mem_list ws b).1 hb
  have hi := hw i h1
  have hj := hw j h2
  rw [Int.toNat_natCast, Int.toNat_natCast, List.getD_eq_getElem?_getD, List.getD_eq_getElem?_getD, List.getElem?_eq_getElem hi, List.getElem?_eq_getElem hj]
  exact List.pairwise_iff_getElem.1 hu i j hi hj (by omega)
theorem mem_names {all : List Int} {ws : List Nat} (hw : ∀ k, hasF ws k = true → k < all.length) (n : Int) : n ∈ namesF all ws ↔ ∃ k, all[k]? = some n ∧ hasF ws k = true := by
  unfold namesF
  rw [List.mem_map]
  constructor
  · rintro ⟨a, ha, rfl⟩
    obtain ⟨i, h1, rfl⟩ := (mem_list ws a).1 ha
    have hi := hw i h1
    refine ⟨i, ?_, h1⟩
    rw [Int.toNat_natCast, List.getD_eq_getElem?_getD, List.getElem?_eq_getElem hi]
    rfl
  · rintro ⟨k, h1, h2⟩
    refine ⟨(k : Int), (mem_list ws _).2 ⟨k, h2, rfl⟩, ?_⟩
    rw [Int.toNat_natCast, List.getD_eq_getElem?_getD, h1]
    rfl
theorem LI.lvl {l : List In} {fr : List Int} {T : Nat → List Int} {kd : Int} {all : List Int} {s d : Nat → List Nat} (h : LI l fr T kd all s) (hd : DI l kd all d) (hu : Up all) (hc : ∀ i, i < l.length → Cl l fr T d s i) : LvL l fr T kd ((List.range l.length).map fun i => namesF all (s i)) := by
  refine ⟨by simp, fun i hi => ?_⟩
  have hil : i < l.length := by simpa using hi
  have hw : ∀ k, hasF (s i) k = true → k < all.length := fun k hk => by
    obtain ⟨n, h1, _⟩ := h.sound i k hil hk
    exact (List.getElem?_eq_some_iff.1 h1).1
  rw [List.getElem_map, List.getElem_range]
  exact ⟨names_up hu hw, fun n => by rw [mem_names hw, h.fin hd hc i n hil]⟩
end Go.Proofs.YtekfnonjhcfdmaaDoor
namespace Go.Proofs.YtekfnonjhcfdmaaDoor
open Go Go.RowKit Go.Rt Go.Rw

/-- A row: where each set lies, what it holds. -/
structure Row where
  b : Nat → Nat
  o : Nat → Option Nat
  s : Nat → List Nat
  T : List Value
def Row.put (R : Row) (j b : Nat) (o : Option Nat) (s : List Nat) : Row := ⟨upd R.b j b, upd R.o j o, upd R.s j s, R.T.set j (sp b)⟩
def Row.turn (R : Row) (j : Nat) (o : Option Nat) (s : List Nat) : Row := ⟨R.b, upd R.o j o, upd R.s j s, R.T⟩
def RowAt (W : World) (base n k g : Nat) (R : Row) : Prop := Fam W base n k g R.T R.b R.o R.s
/-- Both rows. -/
structure LD (m1 n k p1 p2 g1 g2 : Nat) (L D : Row) (W : World) : Prop where
  x1 : Blk W p1 58 #[.slice (some ⟨g1, 0, none⟩) n n]
  x2 : Blk W p2 58 #[.slice (some ⟨g2, 0, none⟩) n n]
  fl : RowAt W m1 n k g1 L
  fd : RowAt W m1 n k g2 D
  ap : Apart k k L.b L.o D.b D.o
  lo : m1 ≤ p1 ∧ m1 ≤ p2 ∧ m1 ≤ g1 ∧ m1 ≤ g2 ∧ g1 ≠ g2
theorem LD.below {m1 n k p1 p2 g1 g2 : Nat} {L D : Row} {W W' : World} (h : LD m1 n k p1 p2 g1 g2 L D W) {m : Nat} (hb : Below m W W') (hm : W.heap.size ≤ m) : LD m1 n k p1 p2 g1 g2 L D W' :=
  ⟨Blk.below h.x1 hb (Nat.lt_of_lt_of_le h.x1.lt hm), Blk.below h.x2 hb (Nat.lt_of_lt_of_le h.x2.lt hm), Fam.below h.fl hb hm, Fam.below h.fd hb hm, h.ap, h.lo⟩
/-- Blocks of other types turn. -/
theorem LD.far {m1 n k p1 p2 g1 g2 : Nat} {L D : Row} {W W' : World} (h : LD m1 n k p1 p2 g1 g2 L D W) {bs : List Nat} (ho : Only bs W W') (hb : ∀ r ∈ bs, ∀ t cs, Blk W r t cs → t ≠ 58 ∧ t ≠ 59 ∧ t ≠ 62 ∧ t ≠ 95) : LD m1 n k p1 p2 g1 g2 L D W' := by
  have hne : ∀ {g : Nat} {t : TypeId} {cs : Array Value}, Blk W g t cs → (t = 58 ∨ t = 59) → g ∉ bs := fun hg ht hm => by
    have := hb _ hm _ _ hg
    rcases ht with rfl | rfl
    · exact this.1 rfl
    · exact this.2.1 rfl
  have hset : ∀ {b : Nat} {o : Option Nat} {s : List Nat}, SetAt W m1 b o s → ∀ r ∈ own b o, r ∉ bs := by
    rintro b o s ⟨_, _, sa, co, h2, h3, h4⟩ r hr hm
    unfold own at hr
    rw [List.mem_cons, Option.mem_toList] at hr
    rcases hr with rfl | hr
    · exact (hb _ hm _ _ h2).2.2.1 rfl
    · rw [← h4] at hr
      rcases h3.2 with ⟨q, _⟩ | ⟨g, cap, cur, q, _, q3, _⟩
      · rw [q] at hr
        simp [Value.ownBlock] at hr
      · rw [q] at hr
        simp only [Value.ownBlock, Option.some.injEq] at hr
        subst hr
        exact (hb _ hm _ _ (show Blk W g 95 cur from q3)).2.2.2 rfl
  exact ⟨Blk.only h.x1 ho (hne h.x1 (.inl rfl)), Blk.only h.x2 ho (hne h.x2 (.inl rfl)), Fam.only h.fl ho (hne h.fl.arr (.inr rfl)) (fun i hi => hset (h.fl.set i hi)), Fam.only h.fd ho (hne h.fd.arr (.inr rfl)) (fun i hi => hset (h.fd.set i hi)), h.ap, h.lo⟩
/-- A cell of another type is set. -/
theorem LD.cell {m1 n k p1 p2 g1 g2 : Nat} {L D : Row} {W : World} (h : LD m1 n k p1 p2 g1 g2 L D W) {c : Nat} {t : TypeId} {cs : Array Value} (hc : Blk W c t cs) (ht : t ≠ 58 ∧ t ≠ 59 ∧ t ≠ 62 ∧ t ≠ 95) (v : Value) : LD m1 n k p1 p2 g1 g2 L D (W.setCell ⟨c, 0, none⟩ v) :=
  h.far (bs := [c]) (Only.setCell W _ v (by simp)) (fun r hr t' cs' hb => by
    rw [List.mem_singleton] at hr
    subst hr
    have := hc.symm.trans hb
    simp only [Option.some.injEq, Obj.cells.injEq] at this
    rw [← this.2.1]
    exact ht)
/-- One set of the first row is joined. -/
theorem LD.join {m1 n k p1 p2 g1 g2 : Nat} {L D : Row} {W W' : World} (h : LD m1 n k p1 p2 g1 g2 L D W) {i : Nat} (hi : i < k) {o' : Option Nat} {s' : List Nat} (hs : SetAt W' m1 (L.b i) o' s') (hm : Same W (L.o i) o') (ho : Only (own (L.b i) (L.o i)) W W') : LD m1 n k p1 p2 g1 g2 (L.turn i o' s') D W' := by
  refine ⟨h.x1.only ho ((h.fl.set i hi).not h.x1 (by decide) (by decide)), h.x2.only ho ((h.fl.set i hi).not h.x2 (by decide) (by decide)), Fam.join h.fl hi hs hm ho, Fam.only h.fd ho ((h.fl.set i hi).not h.fd.arr (by decide) (by decide)) (fun j hj r hr hr2 => h.ap i j hi hj r hr2 hr), fun a j ha hj r hr hr2 => ?_, h.lo⟩
  by_cases e : a = i
  · subst e
    simp only [Row.turn, upd_at] at hr
    unfold own at hr
    rw [List.mem_cons, Option.mem_toList] at hr
    have h1 := h.ap a j ha hj r
    unfold own at h1
    rw [List.mem_cons, Option.mem_toList] at h1
    rcases hr with q | q
    · exact h1 (.inl q) hr2
    · rcases hm with rfl | ⟨g, rfl, hg⟩
      · exact h1 (.inr q) hr2
      · simp only [Option.some.injEq] at q
        have := ((h.fd.set j hj).lt r hr2).2
        omega
  · simp only [Row.turn, upd_ne _ _ e] at hr
    exact h.ap a j ha hj r hr hr2
/-- One set of the first row is put anew. -/
theorem LD.put {m1 n k p1 p2 g1 g2 : Nat} {L D : Row} {W0 W : World} (h : LD m1 n k p1 p2 g1 g2 L D W0) (hb : Below W0.heap.size W0 W) {j b : Nat} {o : Option Nat} {s : List Nat} (hj : j < k) (hk : k ≤ n) (hs : SetAt W m1 b o s) (hf : ∀ r ∈ own b o, W0.heap.size ≤ r) :
    LD m1 n k p1 p2 g1 g2 (L.put j b o s) D (W.setCell ⟨g1, j, none⟩ (sp b)) := by
  have h1 := h.below hb (Nat.le_refl _)
  have hg : g1 ∉ own b o := hs.not h1.fl.arr (by decide) (by decide)
  have ho : Only [g1] W (W.setCell ⟨g1, j, none⟩ (sp b)) := Only.setCell W _ _ (by simp)
  have nin : ∀ {r : Nat} {t : TypeId} {cs : Array Value}, Blk W r t cs → t ≠ 59 → r ∉ [g1] := fun hr ht hm => by
    rw [List.mem_singleton] at hm
    exact blk_ne hr h1.fl.arr ht hm
  have sn : ∀ {b : Nat} {o : Option Nat} {s : List Nat}, SetAt W m1 b o s → ∀ r ∈ own b o, r ∉ [g1] := fun hs r hr hm => by
    rw [List.mem_singleton] at hm
    subst hm
    exact hs.not h1.fl.arr (by decide) (by decide) hr
  have hfar : ∀ {b2 : Nat} {o2 : Option Nat} {s2 : List Nat}, SetAt W0 m1 b2 o2 s2 → ∀ r ∈ own b2 o2, r ∉ own b o := fun hs2 r hr hm => by
    have := hf r hm
    have := (hs2.lt r hr).2
    omega
  have ho2 : Only [g1] W0 (W.setCell ⟨g1, j, none⟩ (sp b)) := (Only.of_below hb).trans ho
  refine ⟨h1.x1.only ho (nin h1.x1 (by decide)), h1.x2.only ho (nin h1.x2 (by decide)), Fam.make h.fl (bs := [g1]) ho2 (fun i hi r hr => sn (h1.fl.set i hi) r hr) (Nat.lt_of_lt_of_le hj hk) (fun i hi _ => hi) ?_ (hs.only ho (sn hs)) hf, Fam.only h1.fd ho (by rw [List.mem_singleton]; exact fun e => h.lo.2.2.2.2 e.symm) (fun i hi => sn (h1.fd.set i hi)), fun a c ha hc r hr hr2 => ?_, h.lo⟩
  · have := h1.fl.arr.set_ j (sp b)
    rwa [List.setIfInBounds_toArray] at this
  · by_cases e : a = j
    · subst e
      simp only [Row.put, upd_at] at hr
      exact hfar (h.fd.set c hc) r hr2 hr
    · simp only [Row.put, upd_ne _ _ e] at hr
      exact h.ap a c ha hc r hr hr2
/-- While both rows get one set more. -/
structure LG (m1 n k p1 p2 g1 g2 : Nat) (wr : World) (L D : Row) (z : Nat) (T1 T2 : List Value) (a : Option Nat) (c : Option (Nat × Option Nat × List Nat)) (W : World) : Prop where
  below : Below m1 wr W
  x1 : Blk W p1 58 #[.slice (some ⟨g1, 0, none⟩) n n]
  x2 : Blk W p2 58 #[.slice (some ⟨g2, 0, none⟩) n n]
  a1 : Blk W g1 59 T1.toArray
  a2 : Blk W g2 59 T2.toArray
  sl : ∀ i, i < k → SetAt W m1 (L.b i) (L.o i) (L.s i)
  sd : ∀ i, i < k → SetAt W m1 (D.b i) (D.o i) (D.s i)
  zz : z ≤ W.heap.size ∧ m1 ≤ z ∧ m1 ≤ wr.heap.size
  na : ∀ b, a = some b → z ≤ b ∧ SetAt W m1 b none []
  nc : ∀ b o s, c = some (b, o, s) → SetAt W m1 b o s ∧ ∀ r ∈ own b o, z ≤ r
  ac : ∀ b b' o s, a = some b → c = some (b', o, s) → b ∉ own b' o
theorem LG.start {m1 n k p1 p2 g1 g2 : Nat} {wr : World} {L D : Row} {W : World} (h : LD m1 n k p1 p2 g1 g2 L D W) (hb : Below m1 wr W) (h1 : m1 ≤ wr.heap.size) : LG m1 n k p1 p2 g1 g2 wr L D W.heap.size L.T D.T none none W :=
  ⟨hb, h.x1, h.x2, h.fl.arr, h.fd.arr, h.fl.set, h.fd.set, ⟨Nat.le_refl _, Nat.le_trans h1 hb.size, h1⟩, fun b e => (by cases e), fun b o s e => (by cases e), fun b b' o s e => (by cases e)⟩
section
variable {m1 n k p1 p2 g1 g2 : Nat} {wr : World} {L D : Row} {z : Nat} {T1 T2 : List Value} {a : Option Nat} {c : Option (Nat × Option Nat × List Nat)} {W : World}
theorem LG.grow {W' : World} (h : LG m1 n k p1 p2 g1 g2 wr L D z T1 T2 a c W) {m : Nat} (hb : Below m W W') (hm : W.heap.size ≤ m) : LG m1 n k p1 p2 g1 g2 wr L D z T1 T2 a c W' :=
  ⟨h.below.trans (hb.mono (by have := h.zz; omega)), h.x1.below hb (Nat.lt_of_lt_of_le h.x1.lt hm), h.x2.below hb (Nat.lt_of_lt_of_le h.x2.lt hm), h.a1.below hb (Nat.lt_of_lt_of_le h.a1.lt hm), h.a2.below hb (Nat.lt_of_lt_of_le h.a2.lt hm),
    fun i hi => (h.sl i hi).below hb hm, fun i hi => (h.sd i hi).below hb hm, ⟨Nat.le_trans h.zz.1 hb.size, h.zz.2⟩, fun b e => ⟨(h.na b e).1, (h.na b e).2.below hb hm⟩, fun b o s e => ⟨(h.nc b o s e).1.below hb hm, (h.nc b o s e).2⟩, h.ac⟩
theorem LG.box (h : LG m1 n k p1 p2 g1 g2 wr L D z T1 T2 none c W) {W' : World} (hW : W.alloc (.cells #[.slice none 0 0] 62) = W') : LG m1 n k p1 p2 g1 g2 wr L D z T1 T2 (some W.heap.size) c W' := by
  subst hW
  have h1 := h.grow (W' := W.alloc (.cells #[.slice none 0 0] 62)) ((Below.refl _ W).alloc (Nat.le_refl _) _) (Nat.le_refl _)
  refine ⟨h1.below, h1.x1, h1.x2, h1.a1, h1.a2, h1.sl, h1.sd, h1.zz, fun b e => ?_, h1.nc, fun b b' o s e e2 hm => ?_⟩
  · cases e
    exact ⟨h.zz.1, by have := h.zz; omega, fun x hx => (by cases hx), none, 0, Blk.new W 62 _, Sl.nil _ _ _ _ _, rfl⟩
  · cases e
    have := ((h.nc _ _ _ e2).1.lt _ hm).2
    omega
theorem LG.nums (h : LG m1 n k p1 p2 g1 g2 wr L D z T1 T2 a none W) {W' : World} {b : Nat} {o : Option Nat} {s : List Nat} (hb : Below W.heap.size W W') (hs : SetAt W' W.heap.size b o s) : LG m1 n k p1 p2 g1 g2 wr L D z T1 T2 a (some (b, o, s)) W' := by
  have h1 := h.grow hb (Nat.le_refl _)
  refine ⟨h1.below, h1.x1, h1.x2, h1.a1, h1.a2, h1.sl, h1.sd, h1.zz, h1.na, fun b2 o2 s2 e => ?_, fun b1 b2 o2 s2 e1 e2 hm => ?_⟩
  · cases e
    have := h.zz
    exact ⟨hs.mono (by omega), fun r hr => by have := (hs.lt r hr).1; omega⟩
  · cases e2
    have h2 := (hs.lt _ hm).1
    have h3 := ((h.na _ e1).2.lt b1 (by simp [own])).2
    omega
theorem LG.st1 (h : LG m1 n k p1 p2 g1 g2 wr L D z T1 T2 a c W) (hlo : m1 ≤ g1 ∧ g1 ≠ g2) (i b : Nat) {W' : World} (hW : W.setCell ⟨g1, i, none⟩ (sp b) = W') : LG m1 n k p1 p2 g1 g2 wr L D z (T1.set i (sp b)) T2 a c W' := by
  subst hW
  have ho : Only [g1] W (W.setCell ⟨g1, i, none⟩ (sp b)) := Only.setCell W _ _ (by simp)
  have nin : ∀ {r : Nat} {t : TypeId} {cs : Array Value}, Blk W r t cs → t ≠ 59 → r ∉ [g1] := fun hr ht hm => by
    rw [List.mem_singleton] at hm
    exact blk_ne hr h.a1 ht hm
  have sn : ∀ {b : Nat} {o : Option Nat} {s : List Nat}, SetAt W m1 b o s → ∀ r ∈ own b o, r ∉ [g1] := fun hs r hr hm => by
    rw [List.mem_singleton] at hm
    subst hm
    exact hs.not h.a1 (by decide) (by decide) hr
  refine ⟨h.below.setCell (p := ⟨g1, i, none⟩) hlo.1 _, h.x1.only ho (nin h.x1 (by decide)), h.x2.only ho (nin h.x2 (by decide)), ?_, h.a2.far (p := ⟨g1, i, none⟩) (Ne.symm hlo.2) _, fun i hi => (h.sl i hi).only ho (sn (h.sl i hi)), fun i hi => (h.sd i hi).only ho (sn (h.sd i hi)), ⟨Nat.le_trans h.zz.1 ho.size, h.zz.2⟩, fun b e => ⟨(h.na b e).1, (h.na b e).2.only ho (sn (h.na b e).2)⟩, fun b o s e => ⟨(h.nc b o s e).1.only ho (sn (h.nc b o s e).1), (h.nc b o s e).2⟩, h.ac⟩
  have := h.a1.set_ i (sp b)
  rwa [List.setIfInBounds_toArray] at this
theorem LG.st2 (h : LG m1 n k p1 p2 g1 g2 wr L D z T1 T2 a c W) (hlo : m1 ≤ g2 ∧ g1 ≠ g2) (i b : Nat) {W' : World} (hW : W.setCell ⟨g2, i, none⟩ (sp b) = W') : LG m1 n k p1 p2 g1 g2 wr L D z T1 (T2.set i (sp b)) a c W' := by
  subst hW
  have ho : Only [g2] W (W.setCell ⟨g2, i, none⟩ (sp b)) := Only.setCell W _ _ (by simp)
  have nin : ∀ {r : Nat} {t : TypeId} {cs : Array Value}, Blk W r t cs → t ≠ 59 → r ∉ [g2] := fun hr ht hm => by
    rw [List.mem_singleton] at hm
    exact blk_ne hr h.a2 ht hm
  have sn : ∀ {b : Nat} {o : Option Nat} {s : List Nat}, SetAt W m1 b o s → ∀ r ∈ own b o, r ∉ [g2] := fun hs r hr hm => by
    rw [List.mem_singleton] at hm
    subst hm
    exact hs.not h.a2 (by decide) (by decide) hr
  refine ⟨h.below.setCell (p := ⟨g2, i, none⟩) hlo.1 _, h.x1.only ho (nin h.x1 (by decide)), h.x2.only ho (nin h.x2 (by decide)), h.a1.far (p := ⟨g2, i, none⟩) hlo.2 _, ?_, fun i hi => (h.sl i hi).only ho (sn (h.sl i hi)), fun i hi => (h.sd i hi).only ho (sn (h.sd i hi)), ⟨Nat.le_trans h.zz.1 ho.size, h.zz.2⟩, fun b e => ⟨(h.na b e).1, (h.na b e).2.only ho (sn (h.na b e).2)⟩, fun b o s e => ⟨(h.nc b o s e).1.only ho (sn (h.nc b o s e).1), (h.nc b o s e).2⟩, h.ac⟩
  have := h.a2.set_ i (sp b)
  rwa [List.setIfInBounds_toArray] at this
/-- Both rows have it. -/
theorem LG.fin {W0 : World} {b1 b2 : Nat} {o2 : Option Nat} {s2 : List Nat} (h0 : LD m1 n k p1 p2 g1 g2 L D W0) (hk : k < n) (h : LG m1 n k p1 p2 g1 g2 wr L D W0.heap.size (L.T.set k (sp b1)) (D.T.set k (sp b2)) (some b1) (some (b2, o2, s2)) W) : LD m1 n (k + 1) p1 p2 g1 g2 (L.put k b1 none []) (D.put k b2 o2 s2) W := by
  obtain ⟨na1, na2⟩ := h.na _ rfl
  obtain ⟨nc1, nc2⟩ := h.nc _ _ _ rfl
  have hac := h.ac _ _ _ _ rfl rfl
  have row : ∀ {g b : Nat} {o : Option Nat} {s : List Nat} {R : Row}, RowAt W0 m1 n k g R → Blk W g 59 (R.T.set k (sp b)).toArray → (∀ i, i < k → SetAt W m1 (R.b i) (R.o i) (R.s i)) → SetAt W m1 b o s → (∀ r ∈ own b o, W0.heap.size ≤ r) → RowAt W m1 n (k + 1) g (R.put k b o s) := by
    intro g b o s R hR ha hse hs hf
    refine ⟨by show (R.T.set k (sp b)).length = n; rw [List.length_set]; exact hR.len, ha, fun i hi => ?_, fun i hi => ?_, fun i j hi hj hne r hr hr2 => ?_⟩
    · by_cases e : i = k
      · subst e
        show (R.T.set i (sp b))[i]? = some (sp (upd R.b i b i))
        rw [upd_at, List.getElem?_set_self (by rw [hR.len]; exact hk)]
      · show (R.T.set k (sp b))[i]? = some (sp (upd R.b k b i))
        rw [upd_ne _ _ e, List.getElem?_set_ne (Ne.symm e)]
        exact hR.ptr i (by omega)
    · by_cases e : i = k
      · subst e
        simp only [Row.put, upd_at]
        exact hs
      · simp only [Row.put, upd_ne _ _ e]
        exact hse i (by omega)
    · by_cases e : i = k
      · subst e
        simp only [Row.put, upd_at, upd_ne _ _ (Ne.symm hne)] at hr hr2
        have q1 := hf r hr
        have q2 := ((hR.set j (by omega)).lt r hr2).2
        omega
      · by_cases e2 : j = k
        · subst e2
          simp only [Row.put, upd_at, upd_ne _ _ e] at hr hr2
          have q1 := hf r hr2
          have q2 := ((hR.set i (by omega)).lt r hr).2
          omega
        · simp only [Row.put, upd_ne _ _ e, upd_ne _ _ e2] at hr hr2
          exact hR.ne i j (by omega) (by omega) hne r hr hr2
  have f1 : ∀ r ∈ own b1 none, W0.heap.size ≤ r := fun r hr => by
    simp [own] at hr
    omega
  refine ⟨h.x1, h.x2, row h0.fl h.a1 h.sl na2 f1, row h0.fd h.a2 h.sd nc1 nc2, fun i j hi hj r hr hr2 => ?_, h0.lo⟩
  by_cases e : i = k
  · subst e
    by_cases e2 : j = i
    · subst e2
      simp only [Row.put, upd_at] at hr hr2
      simp [own] at hr
      subst hr
      exact hac hr2
    · simp only [Row.put, upd_at, upd_ne _ _ e2] at hr hr2
      have q1 := f1 r hr
      have q2 := ((h0.fd.set j (by omega)).lt r hr2).2
      omega
  · by_cases e2 : j = k
    · subst e2
      simp only [Row.put, upd_at, upd_ne _ _ e] at hr hr2
      have q1 := nc2 r hr2
      have q2 := ((h0.fl.set i (by omega)).lt r hr).2
      omega
    · simp only [Row.put, upd_ne _ _ e, upd_ne _ _ e2] at hr hr2
      exact h0.ap i j (by omega) (by omega) r hr hr2
end
/-- No row yet. -/
theorem LD.start {m1 n p1 p2 g1 g2 : Nat} {W : World} (h1 : Blk W p1 58 #[.slice (some ⟨g1, 0, none⟩) n n]) (h2 : Blk W p2 58 #[.slice (some ⟨g2, 0, none⟩) n n]) (h3 : Blk W g1 59 (Array.replicate n (.pointer none))) (h4 : Blk W g2 59 (Array.replicate n (.pointer none))) (hlo : m1 ≤ p1 ∧ m1 ≤ p2 ∧ m1 ≤ g1 ∧ m1 ≤ g2 ∧ g1 ≠ g2) :
    LD m1 n 0 p1 p2 g1 g2 ⟨fun _ => 0, fun _ => none, fun _ => [], List.replicate n (.pointer none)⟩ ⟨fun _ => 0, fun _ => none, fun _ => [], List.replicate n (.pointer none)⟩ W :=
  ⟨h1, h2, ⟨by simp, by simpa using h3, fun _ h => by omega, fun _ h => by omega, fun _ _ h => by omega⟩, ⟨by simp, by simpa using h4, fun _ h => by omega, fun _ h => by omega, fun _ _ h => by omega⟩, fun _ _ h => by omega, hlo⟩
/-- The first sets are made. -/
def InitV (l : List In) (kd : Int) (idx : List (Int × Nat)) (Q : Nat → Option (List Int)) (i : Nat) (L D : Row) : Prop := ∀ (j : Nat) (h : j < l.length), j < i → ((Q j).isSome = true → L.s j = numF idx kd (usesF l[j]) []) ∧ ((Q j).isSome = false → L.s j = []) ∧ D.s j = numF idx kd (defsF l[j]) []
theorem InitV.put {l : List In} {kd : Int} {idx : List (Int × Nat)} {Q : Nat → Option (List Int)} {i : Nat} {L D : Row} (h : InitV l kd idx Q i L D) (hi : i < l.length) (b1 : Nat) (o1 : Option Nat) (s1 : List Nat) (b2 : Nat) (o2 : Option Nat) (s2 : List Nat)
    (h1 : (Q i).isSome = true → s1 = numF idx kd (usesF l[i]) []) (h2 : (Q i).isSome = false → s1 = []) (h3 : s2 = numF idx kd (defsF l[i]) []) : InitV l kd idx Q (i + 1) (L.put i b1 o1 s1) (D.put i b2 o2 s2) := fun j hj hji => by
  by_cases e : j = i
  · subst e
    simp only [Row.put, upd_at]
    exact ⟨h1, h2, h3⟩
  · simp only [Row.put, upd_ne _ _ e]
    exact h j hj (by omega)
/-- A set put again. -/
theorem InitV.again {l : List In} {kd : Int} {idx : List (Int × Nat)} {Q : Nat → Option (List Int)} {i : Nat} {L D : Row} (h : InitV l kd idx Q i L D) (hi : i < l.length) (b0 : Nat) (b1 : Nat) (o1 : Option Nat) (s1 : List Nat) (b2 : Nat) (o2 : Option Nat) (s2 : List Nat)
    (h1 : (Q i).isSome = true) (h2 : s1 = numF idx kd (usesF l[i]) []) (h3 : s2 = numF idx kd (defsF l[i]) []) : InitV l kd idx Q (i + 1) ((L.put i b0 none []).put i b1 o1 s1) (D.put i b2 o2 s2) := fun j hj hji => by
  by_cases e : j = i
  · subst e
    simp only [Row.put, upd_at]
    exact ⟨fun _ => h2, fun h => (by rw [h1] at h; cases h), h3⟩
  · simp only [Row.put, upd_ne _ _ e]
    exact h j hj (by omega)
end Go.Proofs.YtekfnonjhcfdmaaDoor
namespace Go.Proofs.YtekfnonjhcfdmaaDoor
open Go.RowKit Go.Rt Go.Rw

set_option maxRecDepth 100000 in
set_option maxHeartbeats 4000000 in
theorem join37s (b base : Nat) (o : Option Nat) (ws ds : List Nat) (dp : Value) (w : World) (h : SetAt w base b o ws) (hw : RdAt w dp ds) (hws : ws.length ≤ 1000000000) :
    Calls Tryd.prog 37 #[.pointer (some ⟨b, 0, none⟩), .pointer (some ⟨b, 0, none⟩), dp] w fun e w' => e = .returned (.bool false) ∧ w' = w := by
  obtain ⟨h0, h1, sa, co, hb, hs, hown⟩ := h
  obtain ⟨nu, hnu⟩ : ∃ q, q = ws.length := ⟨_, rfl⟩
  rw [← hnu] at hb hs hws
  have HNU := Lib.hid hnu
  have cb0 := hb.cell 0
  simp only [List.getElem?_toArray, List.getElem?_cons_zero] at cb0
  have H1 := Lib.hid h1
  have HS := Lib.hid hs
  have HRD := Lib.hid hw
  clear h1 hb hs hown hnu hw
  go_enter Tryd.func37, Tryd.ntmps37
  go_wp2_with fail
  go_loopw [7, 15] (fun z7 z wr => ∃ (i : Nat), i ≤ nu ∧ z = .int .i64 (i : Int) ∧ z7 = .bool false ∧ w = wr) (fun _ z _ => nu - (intOf z).toNat)
  case atStart => exact ⟨0, Nat.zero_le _, rfl, rfl, rfl⟩
  case round =>
    obtain ⟨i, hi, rfl, rfl, rfl⟩ := hrel
    by_cases hlt : i < nu
    · have hlti : (i : Int) < (nu : Int) := by omega
      obtain ⟨gt, rfl⟩ : ∃ g, sa = some ⟨g, 0, none⟩ := by
        rcases HS.out.form with ⟨e, _⟩ | ⟨g, cap, e, _⟩
        · simp only [Value.slice.injEq] at e
          omega
        · simp only [Value.slice.injEq] at e
          exact ⟨g, e.1⟩
      have hiu : i < ws.length := by rw [← HNU.out]; exact hlt
      have hgt := HS.out.cell wd_len i 0 hiu (by omega)
      simp only [Nat.mul_one, Nat.add_zero, wdC, List.getElem?_cons_zero] at hgt
      obtain ⟨x, hx⟩ : ∃ x, x = ws[i] := ⟨_, rfl⟩
      rw [← hx] at hgt
      have hx64 : x < 18446744073709551616 := by rw [hx]; exact H1.out _ (List.getElem_mem _)
      have hnle : ¬ (nu : Int) ≤ (i : Int) := by omega
      clear hx
      rcases HRD.out with ⟨rfl, hds⟩ | ⟨b3, base3, o3, rfl, d0, d1, s3, c3, hb3, hs3, hown3⟩
      · have hbn2 := bits_andN x x hx64 hx64
        rw [show andN x x = 0 by simp [andN]] at hbn2
        clear hds
        go_wp2_with fail
        go_roundw
        case rel => exact ⟨i + 1, by omega, by go_num, rfl, trivial⟩
        case measure => simp [intOf]; omega
      · obtain ⟨nd, hnd⟩ : ∃ q, q = ds.length := ⟨_, rfl⟩
        have cd := hb3.cell 0
        rw [← hnd] at cd hs3
        simp only [List.getElem?_toArray, List.getElem?_cons_zero] at cd
        by_cases hid : i < nd
        · have hidi : (i : Int) < (nd : Int) := by omega
          obtain ⟨g3, rfl⟩ : ∃ g, s3 = some ⟨g, 0, none⟩ := by
            rcases hs3.form with ⟨e, _⟩ | ⟨g, cap, e, _⟩
            · simp only [Value.slice.injEq] at e
              omega
            · simp only [Value.slice.injEq] at e
              exact ⟨g, e.1⟩
          have hdi : i < ds.length := by rw [← hnd]; exact hid
          have dcell := hs3.cell wd_len i 0 hdi (by omega)
          simp only [Nat.mul_one, Nat.add_zero, wdC, List.getElem?_cons_zero] at dcell
          obtain ⟨y, hy⟩ : ∃ y, y = ds[i] := ⟨_, rfl⟩
          rw [← hy] at dcell
          have hy64 : y < 18446744073709551616 := by rw [hy]; exact d1 _ (List.getElem_mem _)
          have hbn := bits_andN x y hx64 hy64
          obtain ⟨u, hu⟩ : ∃ u, u = andN x y := ⟨_, rfl⟩
          have hu64 : u < 18446744073709551616 := by rw [hu]; exact andN_lt _ _ hx64
          have hbn2 := bits_andN u x hu64 hx64
          rw [show andN u x = 0 by
            apply Nat.eq_of_testBit_eq
            intro j
            rw [hu, andN_bit, andN_bit, Nat.zero_testBit]
            cases x.testBit j <;> cases y.testBit j <;> rfl] at hbn2
          rw [← hu] at hbn
          clear hu hy hb3 hs3 hown3 hnd d0 d1
          go_wp2_with fail
          go_roundw
          case rel => exact ⟨i + 1, by omega, by go_num, rfl, trivial⟩
          case measure => simp [intOf]; omega
        · have hidi : ¬ (i : Int) < (nd : Int) := by omega
          have hbn2 := bits_andN x x hx64 hx64
          rw [show andN x x = 0 by simp [andN]] at hbn2
          clear hb3 hs3 hown3 hnd d0 d1
          go_wp2_with fail
          go_roundw
          case rel => exact ⟨i + 1, by omega, by go_num, rfl, trivial⟩
          case measure => simp [intOf]; omega
    · have hlti : ¬ (i : Int) < (nu : Int) := by omega
      clear hlt
      go_wp2_with fail
      go_ret
      exact ⟨rfl, rfl⟩
end Go.Proofs.YtekfnonjhcfdmaaDoor
