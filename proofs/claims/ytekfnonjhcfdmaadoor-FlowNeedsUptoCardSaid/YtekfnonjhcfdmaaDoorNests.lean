/- flow.nests. -/
import Derived.Test.YtekfnonjhcfdmaaDoorNest1
import Derived.Laws.EntriesVeiled
namespace Go.Proofs.YtekfnonjhcfdmaaDoor
open Go.RowKit Go.Shelf Go.Rt Go.Rw
attribute [local go_sem] Oper.semAt_some

/-- A function's end without a panic. -/
def bodyNP (F : Fence) (n : Nat) (P : Program) (fn : Func) (R : Ending → World → Prop) : Exit → Act → World → Prop
  | .panic _, _, _ => False
  | .normal, a, w => LeavesInM F n P fn a.tmps R a.defers .returning w
  | .ret, a, w => LeavesInM F n P fn a.tmps R a.defers .returning w
  | _, _, _ => False
theorem bodyNP_le {F : Fence} {n : Nat} {P : Program} {fn : Func} {R : Ending → World → Prop} : ∀ e a w, bodyNP F n P fn R e a w → bodyPostM F n P fn R e a w := by
  intro e a w h
  cases e with
  | normal => exact h
  | ret => exact h
  | panic _ => exact h.elim
  | exit _ => exact h.elim
  | goto _ => exact h.elim
  | outgrown => exact h.elim
/-- The blocks beside the search. -/
structure FBx (A1 A2 A3 Bp : Nat) (fv : Value) (Ds : List Nat) (W : World) : Prop where
  c1 : Boxed W A1 52 (.slice none 0 0)
  c2 : Boxed W A2 47 (.slice none 0 0)
  c3 : Boxed W A3 27 (.int .i64 0)
  cp : Boxed W Bp 89 fv
  ds : ∀ D ∈ Ds, W.heap[D]? = some (.deferred (some []))
theorem FBx.keep {A1 A2 A3 Bp : Nat} {fv : Value} {Ds : List Nat} {W W' : World} (h : FBx A1 A2 A3 Bp fv Ds W) (hk : ∀ r ∈ Ds ++ [A1, A2, A3, Bp], W'.heap[r]? = W.heap[r]?) : FBx A1 A2 A3 Bp fv Ds W' :=
  ⟨(hk _ (by simp)).trans h.c1, (hk _ (by simp)).trans h.c2, (hk _ (by simp)).trans h.c3, (hk _ (by simp)).trans h.cp, fun D hD => (hk D (by simp [hD])).trans (h.ds D hD)⟩
theorem three_set {W : World} {A1 A2 A3 : Nat} {u v x : Value} (h1 : Boxed W A1 52 u) (h2 : Boxed W A2 47 v) (h3 : Boxed W A3 27 x) (u' v' x' : Value) :
    Boxed (((W.setCell ⟨A1, 0, none⟩ u').setCell ⟨A2, 0, none⟩ v').setCell ⟨A3, 0, none⟩ x') A1 52 u' ∧ Boxed (((W.setCell ⟨A1, 0, none⟩ u').setCell ⟨A2, 0, none⟩ v').setCell ⟨A3, 0, none⟩ x') A2 47 v' ∧ Boxed (((W.setCell ⟨A1, 0, none⟩ u').setCell ⟨A2, 0, none⟩ v').setCell ⟨A3, 0, none⟩ x') A3 27 x' ∧
      Only [A1, A2, A3] W (((W.setCell ⟨A1, 0, none⟩ u').setCell ⟨A2, 0, none⟩ v').setCell ⟨A3, 0, none⟩ x') := by
  have n12 : A1 ≠ A2 := blk_ne h1 h2 (by decide)
  have n13 : A1 ≠ A3 := blk_ne h1 h3 (by decide)
  have n23 : A2 ≠ A3 := blk_ne h2 h3 (by decide)
  refine ⟨?_, ?_, ?_, ((Only.setCell W ⟨A1, 0, none⟩ u' (by simp)).trans (Only.setCell _ ⟨A2, 0, none⟩ v' (by simp))).trans (Only.setCell _ ⟨A3, 0, none⟩ x' (by simp))⟩
  · exact ((show Blk _ A1 52 _ from h1.set u').far (p := ⟨A2, 0, none⟩) n12 v').far (p := ⟨A3, 0, none⟩) n13 x'
  · exact (show Blk _ A2 47 _ from Boxed.set v' ((show Blk _ A2 47 _ from h2).far (p := ⟨A1, 0, none⟩) (Ne.symm n12) u')).far (p := ⟨A3, 0, none⟩) n23 x'
  · exact Boxed.set x' (((show Blk _ A3 27 _ from h3).far (p := ⟨A1, 0, none⟩) (Ne.symm n13) u').far (p := ⟨A2, 0, none⟩) (Ne.symm n23) v')
theorem three_facts {W : World} {A1 A2 A3 : Nat} {u v x : Value} (h1 : Boxed W A1 52 u) (h2 : Boxed W A2 47 v) (h3 : Boxed W A3 27 x) (u' v' : Value) :
    (W.setCell ⟨A1, 0, none⟩ u').cell? ⟨A2, 0, none⟩ = some v ∧ (W.setCell ⟨A1, 0, none⟩ u').frozen? ⟨A2, 0, none⟩ = false ∧ ((W.setCell ⟨A1, 0, none⟩ u').setCell ⟨A2, 0, none⟩ v').cell? ⟨A3, 0, none⟩ = some x ∧ ((W.setCell ⟨A1, 0, none⟩ u').setCell ⟨A2, 0, none⟩ v').frozen? ⟨A3, 0, none⟩ = false := by
  have n12 : A1 ≠ A2 := blk_ne h1 h2 (by decide)
  have n13 : A1 ≠ A3 := blk_ne h1 h3 (by decide)
  have n23 : A2 ≠ A3 := blk_ne h2 h3 (by decide)
  have a := (show Blk W A2 47 _ from h2).far (p := ⟨A1, 0, none⟩) (Ne.symm n12) u'
  have b := ((show Blk W A3 27 _ from h3).far (p := ⟨A1, 0, none⟩) (Ne.symm n13) u').far (p := ⟨A2, 0, none⟩) (Ne.symm n23) v'
  exact ⟨a.cell 0, a.frozen 0, b.cell 0, b.frozen 0⟩
theorem blk_replicate {W : World} {g : Nat} {t : TypeId} {n : Nat} {z : Value} (h : Blk W g t (Array.replicate n z)) : Blk W g t (List.replicate n z).toArray := by simpa using h
/-- The last one is taken off. -/
theorem NS.pop {Bl Bs Bb Bo gS gB base m : Nat} {lv : Value} {n : Nat} {F : List Nat} {Q : Nat → Option (List Int)} {O : List Int} {y : Int} {w : World} (h : NS Bl Bs Bb Bo gS gB base m lv n F Q (O ++ [y]) w) :
    ∃ g cap, Boxed w Bo 23 (.slice (some ⟨g, 0, none⟩) (O.length + 1) cap) ∧ O.length + 1 ≤ cap ∧ cap ≤ 9223372036854775807 ∧ w.cell? ⟨g, O.length, none⟩ = some (.int .i64 y) ∧
      NS Bl Bs Bb Bo gS gB base m lv n F Q O (w.setCell ⟨Bo, 0, none⟩ (.slice (some ⟨g, 0, none⟩) O.length cap)) ∧ NK base F w (w.setCell ⟨Bo, 0, none⟩ (.slice (some ⟨g, 0, none⟩) O.length cap)) := by
  obtain ⟨v, o1, o2, o3⟩ := h.op
  obtain ⟨T, t1, t2, t3⟩ := h.bef
  rcases o2.form with ⟨_, q⟩ | ⟨g, cap, rfl, hbg, hg, hc, hm, cur, hcur, hs⟩
  · simp at q
  · have hl : (O ++ [y]).length = O.length + 1 := by simp
    rw [hl] at o1 o2 hc
    have hcell := o2.cell in_len O.length 0 (by simp) (by omega)
    simp only [Nat.mul_one, Nat.add_zero, List.getElem_append_right (Nat.le_refl O.length), Nat.sub_self, List.getElem_cons_zero, inC, List.getElem?_cons_zero] at hcell
    have hno : ∀ {a : Nat} {ty : TypeId} {cs : Array Value}, Blk w a ty cs → ty ≠ 23 → Blk (w.setCell ⟨Bo, 0, none⟩ (.slice (some ⟨g, 0, none⟩) O.length cap)) a ty cs := fun {a ty cs} hb n1 => hb.far (p := ⟨Bo, 0, none⟩) (blk_ne hb o1 n1) _
    have K : Keep71 w (w.setCell ⟨Bo, 0, none⟩ (.slice (some ⟨g, 0, none⟩) O.length cap)) := fun a cs hb => hno hb (by decide)
    have hgo : g ≠ Bo := blk_ne (show Blk w g 3 cur from hcur) o1 (by decide)
    have hon : Only [Bo] w (w.setCell ⟨Bo, 0, none⟩ (.slice (some ⟨g, 0, none⟩) O.length cap)) := Only.setCell w ⟨Bo, 0, none⟩ _ (by simp)
    refine ⟨g, cap, o1, hc, by unfold maxLen at hm; omega, hcell, ⟨hno h.l (by decide), hno h.bs (by decide), hno h.bb (by decide), hno h.seen (by decide), ⟨T, t1, hno t2 (by decide), fun i hi => (t3 i hi).keep K⟩, ⟨_, o1.set _, ?_, fun g' hg' => o3 g' (by simpa [Value.ownBlock] using hg')⟩,
      ⟨h.lo.1, h.lo.2.1, h.lo.2.2.1, Nat.le_trans h.lo.2.2.2 hon.size⟩, fun r hr => ⟨Nat.lt_of_lt_of_le (h.fr r hr).1 hon.size, (h.fr r hr).2⟩⟩, ⟨hon.below (by intro b hb; simp at hb; subst hb; exact h.lo.1) h.lo.2.2.2, fun r hr => hon.block r (h.fr r hr).1 (by simp; exact (h.fr r hr).2.2.2), K⟩⟩
    have hcur' : (w.setCell ⟨Bo, 0, none⟩ (.slice (some ⟨g, 0, none⟩) O.length cap)).heap[g]? = some (.cells cur 3 (0, 0)) := (hon.block g hg (by simpa using hgo)).trans hcur
    refine ⟨by simp [flat_in], .inr ⟨g, cap, cur, rfl, hbg, hcur', by omega, hm, hs, ?_⟩⟩
    rcases o2.2 with ⟨q, _⟩ | ⟨g', cap', cur', q, _, q3, _, _, _, q7⟩
    · cases q
    · simp only [Value.slice.injEq, Option.some.injEq, Addr.mk.injEq, and_true] at q
      obtain ⟨rfl, _, rfl⟩ := q
      rw [hcur] at q3
      cases q3
      rw [Nat.mul_one, flat_in, hl] at q7
      rw [Nat.mul_one, flat_in]
      have := congrArg (List.take O.length) q7
      rw [List.take_take, Nat.min_eq_left (by omega)] at this
      rw [this]
      simp
/-- What nests returns. -/
def NeR (l : List In) (fr : List Int) (w : World) (e : Ending) (w' : World) : Prop := Below w.heap.size w w' ∧
  ((∃ er : Int, er ≠ 0 ∧ triesF l fr = ([], er) ∧ e = .returned (.tuple #[.slice none 0 0, .slice none 0 0, .int .i64 er])) ∨
   (∃ (gB gS : Nat) (Q : Nat → Option (List Int)) (T : List Value), (∀ k, k ∈ fr → inR l k = true) ∧ Shut l fr Q ∧ e = .returned (.tuple #[.slice (some ⟨gB, 0, none⟩) l.length l.length, .slice (some ⟨gS, 0, none⟩) l.length l.length, .int .i64 0]) ∧
      Blk w' gS 4 ((List.range l.length).map fun i => Value.bool (Q i).isSome).toArray ∧ T.length = l.length ∧ Blk w' gB 69 T.toArray ∧ (∀ (i : Nat) (h : i < T.length), NestAt w' ((Q i).getD []).reverse T[i]) ∧ w.heap.size ≤ gB ∧ w.heap.size ≤ gS))
theorem not_mark {W : World} {D A : Nat} {t : TypeId} {cs : Array Value} (h : W.heap[D]? = some (.deferred (some []))) (k : Blk W A t cs) : A ≠ D := by
  rintro rfl
  have := h.symm.trans k
  simp at this
/-- The end with an error. -/
theorem end_err {l : List In} {fr : List Int} {w W : World} {Ds : List Nat} {tm : Array Value} {A1 A2 A3 : Nat} {er : Int} (ha : tm.getD 4 undef = .pointer (some ⟨A1, 0, none⟩)) (hb : tm.getD 5 undef = .pointer (some ⟨A2, 0, none⟩)) (hc : tm.getD 6 undef = .pointer (some ⟨A3, 0, none⟩))
    (b1 : Boxed W A1 52 (.slice none 0 0)) (b2 : Boxed W A2 47 (.slice none 0 0)) (b3 : Boxed W A3 27 (.int .i64 er)) (hnd : Ds.Nodup) (hds : ∀ D ∈ Ds, W.heap[D]? = some (.deferred (some []))) (hlo : ∀ D ∈ Ds, w.heap.size ≤ D) (hB : Below w.heap.size w W) (her : er ≠ 0) (ht : triesF l fr = ([], er)) :
    LeavesInM Fence.wide 3 Tryd.prog Tryd.f32 tm (NeR l fr w) (Ds.map rmark) .returning W := by
  refine leaves_marks Ds W hnd hds fun w' ho => ?_
  have hk : ∀ {A : Nat} {t : TypeId} {cs : Array Value}, Blk W A t cs → Blk w' A t cs := fun {A t cs} h => h.only ho (fun hm => not_mark (hds A hm) h rfl)
  exact ⟨_, results_ccc (fn := Tryd.f32) rfl tm w' A1 A2 A3 _ _ _ ha hb hc (hk b1) (hk b2) (hk b3), hB.trans (ho.below hlo hB.size), .inl ⟨er, her, ht, rfl⟩⟩
/-- The good end. -/
theorem end_ok {l : List In} {fr : List Int} {w W : World} {Ds : List Nat} {tm : Array Value} {A1 A2 A3 Bl Bs Bb Bo gS gB m : Nat} {lv : Value} {F : List Nat} {Q : Nat → Option (List Int)} {O : List Int} (ha : tm.getD 4 undef = .pointer (some ⟨A1, 0, none⟩)) (hb : tm.getD 5 undef = .pointer (some ⟨A2, 0, none⟩)) (hc : tm.getD 6 undef = .pointer (some ⟨A3, 0, none⟩))
    (b1 : Boxed W A1 52 (.slice (some ⟨gB, 0, none⟩) l.length l.length)) (b2 : Boxed W A2 47 (.slice (some ⟨gS, 0, none⟩) l.length l.length)) (b3 : Boxed W A3 27 (.int .i64 0)) (hnd : Ds.Nodup) (hds : ∀ D ∈ Ds, W.heap[D]? = some (.deferred (some []))) (hlo : ∀ D ∈ Ds, w.heap.size ≤ D) (hB : Below w.heap.size w W)
    (hn : NS Bl Bs Bb Bo gS gB w.heap.size m lv l.length F Q O W) (hin : ∀ k, k ∈ fr → inR l k = true) (hs : Shut l fr Q) :
    LeavesInM Fence.wide 3 Tryd.prog Tryd.f32 tm (NeR l fr w) (Ds.map rmark) .returning W := by
  refine leaves_marks Ds W hnd hds fun w' ho => ?_
  have hk : ∀ {A : Nat} {t : TypeId} {cs : Array Value}, Blk W A t cs → Blk w' A t cs := fun {A t cs} h => h.only ho (fun hm => not_mark (hds A hm) h rfl)
  obtain ⟨T, t1, t2, t3⟩ := hn.bef
  exact ⟨_, results_ccc (fn := Tryd.f32) rfl tm w' A1 A2 A3 _ _ _ ha hb hc (hk b1) (hk b2) (hk b3), hB.trans (ho.below hlo hB.size), .inr ⟨gB, gS, Q, T, hin, hs, rfl, hk hn.seen, t1, hk t2, fun i hi => (t3 i hi).at.keep (fun g cs h => hk h), hn.lo.2.2.1, hn.lo.2.1⟩⟩
/-- The search's state beside other stores. -/
theorem NS.aside {Bl Bs Bb Bo gS gB base m : Nat} {lv : Value} {n : Nat} {F : List Nat} {Q : Nat → Option (List Int)} {O : List Int} {w w' : World} {A1 A2 A3 : Nat} {u v x : Value} (h : NS Bl Bs Bb Bo gS gB base m lv n F Q O w) (b1 : Boxed w A1 52 u) (b2 : Boxed w A2 47 v) (b3 : Boxed w A3 27 x) (ho : Only [A1, A2, A3] w w') (n1 : A1 ≠ Bb) (n2 : A2 ≠ Bs) : NS Bl Bs Bb Bo gS gB base m lv n F Q O w' := by
  obtain ⟨y, o1, o2, o3⟩ := h.op
  obtain ⟨T, t1, t2, t3⟩ := h.bef
  have hk : ∀ {A : Nat} {t : TypeId} {cs : Array Value}, Blk w A t cs → t ≠ 52 → t ≠ 47 → t ≠ 27 → Blk w' A t cs := fun {A t cs} hb q1 q2 q3 => hb.only ho (by
    simp only [List.mem_cons, List.not_mem_nil, or_false, not_or]
    exact ⟨blk_ne hb b1 q1, blk_ne hb b2 q2, blk_ne hb b3 q3⟩)
  refine ⟨hk h.l (by decide) (by decide) (by decide), (show Blk w Bs 47 _ from h.bs).only ho ?_, (show Blk w Bb 52 _ from h.bb).only ho ?_, hk h.seen (by decide) (by decide) (by decide), ⟨T, t1, hk t2 (by decide) (by decide) (by decide), fun i hi => (t3 i hi).keep (fun g cs hb => hk hb (by decide) (by decide) (by decide))⟩, ⟨y, hk o1 (by decide) (by decide) (by decide), o2.only ho ?_, o3⟩, ⟨h.lo.1, h.lo.2.1, h.lo.2.2.1, Nat.le_trans h.lo.2.2.2 ho.size⟩, fun r hr => ⟨Nat.lt_of_lt_of_le (h.fr r hr).1 ho.size, (h.fr r hr).2⟩⟩
  · simp only [List.mem_cons, List.not_mem_nil, or_false, not_or]
    exact ⟨blk_ne h.bs b1 (by decide), Ne.symm n2, blk_ne h.bs b3 (by decide)⟩
  · simp only [List.mem_cons, List.not_mem_nil, or_false, not_or]
    exact ⟨Ne.symm n1, blk_ne h.bb b2 (by decide), blk_ne h.bb b3 (by decide)⟩
  · intro g hg hm
    rcases o2.2 with ⟨q, _⟩ | ⟨g2, cap2, cur, q, _, q3, _⟩
    · rw [q] at hg
      simp [Value.ownBlock] at hg
    · rw [q] at hg
      simp only [Value.ownBlock, Option.some.injEq] at hg
      subst hg
      simp only [List.mem_cons, List.not_mem_nil, or_false] at hm
      rcases hm with e | e | e
      · exact blk_ne (show Blk w g2 3 cur from q3) b1 (by decide) e
      · exact blk_ne (show Blk w g2 3 cur from q3) b2 (by decide) e
      · exact blk_ne (show Blk w g2 3 cur from q3) b3 (by decide) e
theorem NS.setF {Bl Bs Bb Bo gS gB base m : Nat} {lv : Value} {n : Nat} {F : List Nat} {Q : Nat → Option (List Int)} {O : List Int} {w : World} (h : NS Bl Bs Bb Bo gS gB base m lv n F Q O w) {B : Nat} (hB : B ∈ F) {u : Value} (hx : Boxed w B 69 u) (v : Value) :
    NS Bl Bs Bb Bo gS gB base m lv n F Q O (w.setCell ⟨B, 0, none⟩ v) ∧ Keep71 w (w.setCell ⟨B, 0, none⟩ v) ∧ Only [B] w (w.setCell ⟨B, 0, none⟩ v) := by
  have ho : Only [B] w (w.setCell ⟨B, 0, none⟩ v) := Only.setCell w ⟨B, 0, none⟩ v (by simp)
  have hk : ∀ {A : Nat} {t : TypeId} {cs : Array Value}, Blk w A t cs → A ≠ B → Blk (w.setCell ⟨B, 0, none⟩ v) A t cs := fun {A t cs} hb hne => hb.far (p := ⟨B, 0, none⟩) hne v
  have K : Keep71 w (w.setCell ⟨B, 0, none⟩ v) := fun g cs hb => hk hb (blk_ne hb hx (by decide))
  obtain ⟨y, o1, o2, o3⟩ := h.op
  obtain ⟨T, t1, t2, t3⟩ := h.bef
  obtain ⟨f0, f1, f2, f3⟩ := h.fr B hB
  refine ⟨⟨hk h.l (blk_ne h.l hx (by decide)), hk h.bs (blk_ne h.bs hx (by decide)), hk h.bb (blk_ne h.bb hx (by decide)), hk h.seen (Ne.symm f1), ⟨T, t1, hk t2 (Ne.symm f2), fun i hi => (t3 i hi).keep K⟩, ⟨y, hk o1 (Ne.symm f3), o2.only ho (fun g hg hm => by
    simp only [List.mem_singleton] at hm
    subst hm
    exact o3 g hg hB), o3⟩, ⟨h.lo.1, h.lo.2.1, h.lo.2.2.1, Nat.le_trans h.lo.2.2.2 ho.size⟩, fun r hr => ⟨Nat.lt_of_lt_of_le (h.fr r hr).1 ho.size, (h.fr r hr).2⟩⟩, K, ho⟩
/-- What a round over the targets keeps. -/
structure RgI (l : List In) (fr : List Int) (w : World) (A0 A1 A2 A3 p1 p2 Bo Bp g1 g2 B16 D b o n jn : Nat) (f : Im) (lv FV : Value) (Ds : List Nat) (o2 : List Int) (pr : Option Addr) (QR : Nat → Option (List Int)) (mu : Nat) (Q : Nat → Option (List Int)) (O : List Int) (k : Nat) (W : World) : Prop where
  ns : NS A0 p2 p1 Bo g2 g1 w.heap.size D lv n ([D - 2, D - 1, B16] ++ (Ds ++ [A1, A2, A3, Bp])) Q O W
  off : OffO Bo [D, D + 1] W
  pre : TPre (D - 2) (D - 1) b (o + jn * 10) f jn W
  fb : FBx A1 A2 A3 Bp FV Ds W
  box : Boxed W B16 69 (.pointer pr)
  nest : NestB W D o2.reverse (.pointer pr)
  below : Below w.heap.size w W
  si : SI l fr Q O jn
  le : LeQ QR Q
  done : ∀ (i : Nat) (hi : i < (targF f.x jn).length) (j : Nat), i < k → (targF f.x jn)[i] = j → j < l.length → Q j = some o2
  cnt : 2 * un Q n + O.length ≤ mu
theorem RgI.only {l : List In} {fr : List Int} {w : World} {A0 A1 A2 A3 p1 p2 Bo Bp g1 g2 B16 D b o n jn : Nat} {f : Im} {lv FV : Value} {Ds : List Nat} {o2 : List Int} {pr : Option Addr} {QR : Nat → Option (List Int)} {mu : Nat} {Q : Nat → Option (List Int)} {O : List Int} {k : Nat} {W W' : World}
    (h : RgI l fr w A0 A1 A2 A3 p1 p2 Bo Bp g1 g2 B16 D b o n jn f lv FV Ds o2 pr QR mu Q O k W) (ho : Only [D, D + 1] W W') (hD : w.heap.size + 2 ≤ D) (hlt : A0 < D ∧ p2 < D ∧ p1 < D ∧ Bo < D ∧ g2 < D ∧ g1 < D) (hF : ∀ r ∈ B16 :: (Ds ++ [A1, A2, A3, Bp]), r < D) (hb : b < w.heap.size) (hc : SlAt w 2 csC f.cv f.x.cases) :
    RgI l fr w A0 A1 A2 A3 p1 p2 Bo Bp g1 g2 B16 D b o n jn f lv FV Ds o2 pr QR mu Q O k W' := by
  have hn : ∀ r, r < D → r ∉ [D, D + 1] := fun r hr => nin2 hr
  obtain ⟨n1, n2⟩ := h.ns.only ho (by intro r hr; simp at hr; omega) h.off hlt
  have hz := h.below.size
  refine ⟨n1, n2, h.pre.later hc hb hz ho (by intro r hr; simp at hr; omega) (hn _ (by omega)) (hn _ (by omega)), h.fb.keep (fun r hr => ?_), (ho.block _ h.box.lt (hn _ (hF _ (by simp)))).trans h.box, h.nest.only ho (by intro r hr; simp at hr; omega), h.below.trans (ho.below (by intro r hr; simp at hr; omega) hz), h.si, h.le, h.done, h.cnt⟩
  have := h.ns.fr r (by simp only [List.mem_append] at hr ⊢; exact .inr hr)
  exact ho.block r this.1 (hn _ (hF r (by simp only [List.mem_cons]; exact .inr hr)))
/-- The round that failed. -/
structure RgX (l : List In) (fr : List Int) (w : World) (A1 A2 A3 : Nat) (Ds : List Nat) (c : Code) (W : World) : Prop where
  ret : c = .ret
  b1 : Boxed W A1 52 (.slice none 0 0)
  b2 : Boxed W A2 47 (.slice none 0 0)
  b3 : Boxed W A3 27 (.int .i64 182)
  ds : ∀ D ∈ Ds, W.heap[D]? = some (.deferred (some []))
  below : Below w.heap.size w W
  no : ¬ ∃ T, Fits l fr T
theorem RgX.only {l : List In} {fr : List Int} {w : World} {A1 A2 A3 D : Nat} {Ds : List Nat} {c : Code} {W W' : World} (h : RgX l fr w A1 A2 A3 Ds c W) (ho : Only [D, D + 1] W W') (hD : w.heap.size ≤ D) (hF : ∀ r ∈ Ds ++ [A1, A2, A3], r < D) : RgX l fr w A1 A2 A3 Ds c W' :=
  ⟨h.ret, (ho.block _ h.b1.lt (nin2 (hF _ (by simp)))).trans h.b1, (ho.block _ h.b2.lt (nin2 (hF _ (by simp)))).trans h.b2, (ho.block _ h.b3.lt (nin2 (hF _ (by simp)))).trans h.b3, fun E hE => (ho.block _ (Array.getElem?_eq_some_iff.1 (h.ds E hE)).1 (nin2 (hF _ (by simp [hE])))).trans (h.ds E hE), h.below.trans (ho.below (by intro r hr; simp at hr; omega) h.below.size), h.no⟩
set_option maxRecDepth 100000 in
set_option maxHeartbeats 8000000 in
theorem nests32 (l : List In) (fr : List Int) (v fv : Value) (w : World) (h : InsAt w l v) (hfv : SlAt w 1 inC fv fr) (hb1 : l.length ≤ 9000000000000) (hb2 : ∀ x ∈ l, x.cases.length ≤ 8999999999998) :
    Calls Tryd.prog 32 #[v, fv] w (NeR l fr w) := by
  obtain ⟨_, sa, cap, rfl⟩ := h.form
  obtain ⟨_, sf, cf, ef⟩ := hfv.len
  obtain ⟨n, hn⟩ : ∃ n, n = l.length := ⟨_, rfl⟩
  obtain ⟨nf, hnf⟩ : ∃ n, n = fr.length := ⟨_, rfl⟩
  rw [← hnf] at ef
  subst ef
  rw [← hn] at h hb1 ⊢
  have HH := Lib.hid h
  have HN := Lib.hid hn
  have HNF := Lib.hid hnf
  have HFV := Lib.hid hfv
  have HB2 := Lib.hid hb2
  clear h hfv hn hnf hb2
  refine (callsIn_wide (n := 3)).1 ?_
  refine callsIn_of_wp_marks Tryd.func32 rfl trivial ?_ rfl
  refine wpIn_wide.2 ?_
  refine wp_mono (Q := bodyNP Fence.wide 3 Tryd.prog Tryd.f32 (NeR l fr w)) ?_ bodyNP_le
  simp only [Tryd.ntmps32, List.size_toArray, List.length_cons, List.length_nil, Nat.reduceAdd, Nat.reduceSub, Array.replicate_succ, Array.replicate_zero, List.push_toArray, List.append_toArray, List.nil_append, List.cons_append]
  obtain ⟨W0, hW0⟩ : ∃ W0, (((w.alloc (.cells #[.slice sa n cap] 22)).alloc (.cells #[.slice none 0 0] 52)).alloc (.cells #[.slice none 0 0] 47)).alloc (.cells #[.int .i64 0] 27) = W0 := ⟨_, rfl⟩
  have hsz : W0.heap.size = w.heap.size + 4 := by rw [← hW0]; simp
  have hB0 : Below w.heap.size w W0 := by
    rw [← hW0]; exact ((((Below.refl _ w).alloc (Nat.le_refl _) _).alloc (by simp) _).alloc (by simp; omega) _).alloc (by simp; omega) _
  have b0 : Boxed W0 w.heap.size 22 (.slice sa n cap) := by rw [← hW0]; exact (((Boxed.new w 22 _).alloc _).alloc _).alloc _
  have b1 : Boxed W0 (w.heap.size + 1) 52 (.slice none 0 0) := by
    rw [← hW0]; have := Boxed.new (w.alloc (.cells #[.slice sa n cap] 22)) 52 (.slice none 0 0); rw [World.size_alloc] at this; exact (this.alloc _).alloc _
  have b2 : Boxed W0 (w.heap.size + 2) 47 (.slice none 0 0) := by
    rw [← hW0]; have := Boxed.new ((w.alloc (.cells #[.slice sa n cap] 22)).alloc (.cells #[.slice none 0 0] 52)) 47 (.slice none 0 0); rw [World.size_alloc, World.size_alloc] at this; exact this.alloc _
  have b3 : Boxed W0 (w.heap.size + 3) 27 (.int .i64 0) := by
    rw [← hW0]; have := Boxed.new (((w.alloc (.cells #[.slice sa n cap] 22)).alloc (.cells #[.slice none 0 0] 52)).alloc (.cells #[.slice none 0 0] 47)) 27 (.int .i64 0); rw [World.size_alloc, World.size_alloc, World.size_alloc] at this; exact this
  have BO := Lib.hid hB0
  have X0 := Lib.hid b0
  have X1 := Lib.hid b1
  have X2 := Lib.hid b2
  have X3 := Lib.hid b3
  have HSZ := Lib.hid hsz
  clear hB0 b0 b1 b2 b3 hsz
  go_upto_region 1 with fail
  clear hW0
  obtain ⟨A3, hA3⟩ : ∃ A, A = w.heap.size + 1 + 1 + 1 := ⟨_, rfl⟩
  obtain ⟨A2, hA2⟩ : ∃ A, A = w.heap.size + 1 + 1 := ⟨_, rfl⟩
  obtain ⟨A1, hA1⟩ : ∃ A, A = w.heap.size + 1 := ⟨_, rfl⟩
  rw [← hA3, ← hA2, ← hA1]
  rw [show w.heap.size + 1 = A1 from hA1.symm] at X1
  rw [show w.heap.size + 2 = A2 from hA2.symm] at X2
  rw [show w.heap.size + 3 = A3 from hA3.symm] at X3
  have HA1 := Lib.hid hA1
  have HA2 := Lib.hid hA2
  have HA3 := Lib.hid hA3
  obtain ⟨A0, hA0⟩ : ∃ A, A = w.heap.size := ⟨_, rfl⟩
  rw [← hA0]
  rw [← hA0] at X0
  have HA0 := Lib.hid hA0
  clear hA0 hA1 hA2 hA3
  go_wp2_with fail
  go_loopw [20] (fun z wr => ∃ k : Nat, k ≤ nf ∧ z = .int .i64 (k : Int) ∧ Hid (∀ j (hj : j < fr.length), j < k → inR l fr[j] = true) ∧ W0 = wr) (fun z _ => nf - (intOf z).toNat)
  case atStart => exact ⟨0, Nat.zero_le _, rfl, Lib.hid (fun j _ hj => by omega), rfl⟩
  case round =>
    obtain ⟨k, hk, rfl, HI, rfl⟩ := hrel
    by_cases hlt : k < nf
    · have hlti : (k : Int) < (nf : Int) := by omega
      obtain ⟨bf, of, rfl, hbf, hcf⟩ := HFV.out.get (by rw [← HNF.out]; omega)
      have hkf : k < fr.length := by rw [← HNF.out]; exact hlt
      have ck := hcf k 0 hkf (by omega)
      obtain ⟨x, hx⟩ : ∃ x, x = fr[k] := ⟨_, rfl⟩
      rw [← hx] at ck
      simp only [inC, List.getElem?_cons_zero, Nat.add_zero, Nat.mul_one] at ck
      have ck' := (BO.out.cell (p := ⟨bf, _, none⟩) hbf).trans ck
      have c0 := X0.out.cell
      have c1 := X1.out.cell
      have c2 := X2.out.cell
      have c3 := X3.out.cell
      have f1 := X1.out.frozen
      have f2 := X2.out.frozen
      have f3 := X3.out.frozen
      have HX := Lib.hid hx
      clear ck hcf hx
      by_cases hx0 : x < 0
      · have HBad : Hid (triesF l fr = ([], 2)) := Lib.hid (triesF_arg (k := x) (by rw [HX.out]; exact List.getElem_mem _) (by unfold inR; simp; omega))
        obtain ⟨e2, v2, e4, v3⟩ := three_facts X1.out X2.out X3.out (.slice none 0 0) (.slice none 0 0)
        go_wp2_with fail
        have bb := three_set X1.out X2.out X3.out (.slice none 0 0) (.slice none 0 0) (.int .i64 2)
        exact end_err (Ds := []) rfl rfl rfl bb.1 bb.2.1 bb.2.2.1 List.nodup_nil (fun _ h => by cases h) (fun _ h => by cases h) (BO.out.trans (bb.2.2.2.below (by intro r hr; simp only [List.mem_cons, List.not_mem_nil, or_false] at hr; have := HA1.out; have := HA2.out; have := HA3.out; omega) BO.out.size)) (by decide) HBad.out
      · by_cases hx1 : (n : Int) ≤ x
        · have HBad : Hid (triesF l fr = ([], 2)) := Lib.hid (triesF_arg (k := x) (by rw [HX.out]; exact List.getElem_mem _) (by unfold inR; rw [← HN.out]; simp; omega))
          obtain ⟨e2, v2, e4, v3⟩ := three_facts X1.out X2.out X3.out (.slice none 0 0) (.slice none 0 0)
          go_wp2_with fail
          have bb := three_set X1.out X2.out X3.out (.slice none 0 0) (.slice none 0 0) (.int .i64 2)
          exact end_err (Ds := []) rfl rfl rfl bb.1 bb.2.1 bb.2.2.1 List.nodup_nil (fun _ h => by cases h) (fun _ h => by cases h) (BO.out.trans (bb.2.2.2.below (by intro r hr; simp only [List.mem_cons, List.not_mem_nil, or_false] at hr; have := HA1.out; have := HA2.out; have := HA3.out; omega) BO.out.size)) (by decide) HBad.out
        · have HG : Hid (inR l x = true) := Lib.hid (by unfold inR; rw [← HN.out]; simp; omega)
          clear c1 c2 c3 f1 f2 f3
          go_wp2_with fail
          go_roundw
          case rel => exact ⟨k + 1, by omega, by go_num, Lib.hid (fun j hj hjk => by
            rcases Nat.lt_succ_iff_lt_or_eq.1 hjk with q | q
            · exact HI.out j hj q
            · subst q; rw [← HX.out]; exact HG.out), trivial⟩
          case measure => simp [intOf]; omega
    · have hlti : ¬ (k : Int) < (nf : Int) := by omega
      have HIN : Hid (∀ y, y ∈ fr → inR l y = true) := Lib.hid (fun y hy => by
        obtain ⟨j, hj, rfl⟩ := List.getElem_of_mem hy
        exact HI.out j hj (by have := HNF.out; omega))
      clear HI hlt
      go_upto_region 7 with fail
      have c0 := X0.out.cell
      have mk1 := fun (W : World) => mk52 n (by omega) W
      have mk2 := fun (W : World) => mk47 n (by omega) W
      have Hbx : Hid (A0 < W0.heap.size) := Lib.hid X0.out.lt
      go_cut [9, 10] from 999 (fun z9 z10 wx => ∃ p1 p2 g1 g2, z9 = .pointer (some ⟨p1, 0, none⟩) ∧ z10 = .pointer (some ⟨p2, 0, none⟩) ∧ Hid (W0.heap.size ≤ p1 ∧ W0.heap.size ≤ p2 ∧ W0.heap.size ≤ g1 ∧ W0.heap.size ≤ g2) ∧ Hid (Boxed wx p1 52 (.slice (some ⟨g1, 0, none⟩) n n)) ∧ Hid (Boxed wx p2 47 (.slice (some ⟨g2, 0, none⟩) n n)) ∧ Hid (Blk wx g1 69 (Array.replicate n (.pointer none))) ∧ Hid (Blk wx g2 4 (Array.replicate n (.bool false))) ∧ Hid (Below W0.heap.size W0 wx))
      case first =>
        refine wp_region_held_drew (S := (fun w' => w'.cell? ⟨A0, 0, none⟩ = some (.slice sa n cap))) (by kernel_rfl) (c0) (fun hS => ?_)
        have BB := Lib.hid ((Below.refl W0.heap.size W0).drew)
        generalize hz0 : W0.heap.size = z0 at BB
        have hz1 : W0.drew.heap.size = z0 := hz0
        replace hz0 := Lib.hid hz0
        generalize W0.drew = w0 at *
        have M := Lib.hid (MkF.start hz1)
        clear hz1
        refine wpAnyH_take (i := 0) (v := ?_) rfl (by kernel_rfl) (by kernel_rfl) (by kernel_rfl) (fun _ _ _ h => h) (Or.inl ⟨by rfl, ?_⟩) (by assumption) ?_
        rotate_left
        · intro w hSw
          go_simp
          with_reducible rfl
        change wpAnyH _ _ _ _ _ _ _ (Act.put _ (some 33) _) _
        simp only [Act.put, List.setIfInBounds_toArray, List.set_cons_zero, List.set_cons_succ]
        refine wpAnyH_take (i := 1) (v := ?_) rfl (by kernel_rfl) (by kernel_rfl) (by kernel_rfl) (fun _ _ _ h => h) (Or.inl ⟨by rfl, ?_⟩) (by assumption) ?_
        rotate_left
        · intro w hSw
          go_simp
          with_reducible rfl
        change wpAnyH _ _ _ _ _ _ _ (Act.put _ (some 34) _) _
        simp only [Act.put, List.setIfInBounds_toArray, List.set_cons_zero, List.set_cons_succ]
        refine wpAnyH_take (i := 3) (v := ?_) rfl (by kernel_rfl) (by kernel_rfl) (by kernel_rfl) (fun _ _ _ h => h) (Or.inl ⟨by rfl, ?_⟩) (by assumption) ?_
        rotate_left
        · intro w hSw
          go_simp
          with_reducible rfl
        change wpAnyH _ _ _ _ _ _ _ (Act.put _ (some 36) _) _
        simp only [Act.put, List.setIfInBounds_toArray, List.set_cons_zero, List.set_cons_succ]
        refine wpAnyH_take (i := 4) (v := ?_) rfl (by kernel_rfl) (by kernel_rfl) (by kernel_rfl) (fun _ _ _ h => h) (Or.inl ⟨by rfl, ?_⟩) (by assumption) ?_
        rotate_left
        · intro w hSw
          go_simp
          with_reducible rfl
        change wpAnyH _ _ _ _ _ _ _ (Act.put _ (some 37) _) _
        simp only [Act.put, List.setIfInBounds_toArray, List.set_cons_zero, List.set_cons_succ]
        refine wpAnyH_ready (rs := [2, 5, 6, 7]) (by kernel_rfl) (by simp) ?_
        refine AllReadyH.cons rfl (fun K hK => ?_) (AllReadyH.cons rfl (fun K hK => ?_) (AllReadyH.cons rfl (fun K hK => ?_) (AllReadyH.cons rfl (fun K hK => ?_) AllReadyH.nil)))
        · go_simp
          obtain ⟨g1, hg1⟩ : ∃ q, q = w0.heap.size := ⟨_, rfl⟩
          rw [← hg1]
          obtain ⟨w1, hw, hS', M⟩ := M.out.alloc hS 69 (Array.replicate n (.pointer none)) hg1
          rw [hw]
          clear hw hg1
          refine hK.out _ _ hS' (fun hS => ?_)
          clear hK K hS'
          try simp only [Act.put, List.setIfInBounds_toArray, List.set_cons_zero, List.set_cons_succ]
          refine wpAnyH_ready (rs := [5, 6, 7]) (by kernel_rfl) (by simp) ?_
          refine AllReadyH.cons rfl (fun K hK => ?_) (AllReadyH.cons rfl (fun K hK => ?_) (AllReadyH.cons rfl (fun K hK => ?_) AllReadyH.nil))
          · go_simp
            obtain ⟨g2, hg2⟩ : ∃ q, q = w1.heap.size := ⟨_, rfl⟩
            rw [← hg2]
            obtain ⟨w2, hw, hS', M⟩ := M.out.alloc hS 4 (Array.replicate n (.bool false)) hg2
            rw [hw]
            clear hw hg2
            refine hK.out _ _ hS' (fun hS => ?_)
            clear hK K hS'
            try simp only [Act.put, List.setIfInBounds_toArray, List.set_cons_zero, List.set_cons_succ]
            refine wpAnyH_ready (rs := [6, 7]) (by kernel_rfl) (by simp) ?_
            refine AllReadyH.cons rfl (fun K hK => ?_) (AllReadyH.cons rfl (fun K hK => ?_) AllReadyH.nil)
            · go_simp
              obtain ⟨p1, hp1⟩ : ∃ q, q = w2.heap.size := ⟨_, rfl⟩
              rw [← hp1]
              obtain ⟨w3, hw, hS', M⟩ := M.out.alloc hS 52 #[.slice none 0 0] hp1
              rw [hw]
              clear hw hp1
              refine hK.out _ _ hS' (fun hS => ?_)
              clear hK K hS'
              try simp only [Act.put, List.setIfInBounds_toArray, List.set_cons_zero, List.set_cons_succ]
              refine wpAnyH_ready (rs := [7]) (by kernel_rfl) (by simp) ?_
              refine AllReadyH.cons rfl (fun K hK => ?_) AllReadyH.nil
              go_simp
              obtain ⟨p2, hp2⟩ : ∃ q, q = w3.heap.size := ⟨_, rfl⟩
              rw [← hp2]
              obtain ⟨w4, hw, hS', M⟩ := M.out.alloc hS 47 #[.slice none 0 0] hp2
              rw [hw]
              clear hw hp2
              refine hK.out _ _ hS' (fun hS => ?_)
              clear hK K hS'
              try simp only [Act.put, List.setIfInBounds_toArray, List.set_cons_zero, List.set_cons_succ]
              refine wpAnyH_ready (rs := [8]) (by kernel_rfl) (by simp) ?_
              refine AllReadyH.cons rfl (fun K hK => ?_) AllReadyH.nil
              obtain ⟨cc, ff⟩ := M.out.one (p := p1) (T := 52) (v := .slice none 0 0) (List.Mem.tail _ (List.Mem.head _))
              go_simp
              obtain ⟨w5, hw, hS', M⟩ := M.out.store hS (by have := Hbx.out; have := hz0.out; omega) (p := p1) (T := 52) (cs := #[.slice none 0 0]) (List.Mem.tail _ (List.Mem.head _)) rfl (.slice (some ⟨g1, 0, none⟩) n n)
              rw [hw]
              clear hw cc ff
              refine hK.out _ _ hS' (fun hS => ?_)
              clear hK K hS'
              try simp only [Act.put, List.setIfInBounds_toArray, List.set_cons_zero, List.set_cons_succ]
              refine wpAnyH_ready (rs := [9]) (by kernel_rfl) (by simp) ?_
              refine AllReadyH.cons rfl (fun K hK => ?_) AllReadyH.nil
              obtain ⟨cc, ff⟩ := M.out.one (p := p2) (T := 47) (v := .slice none 0 0) (List.Mem.tail _ (List.Mem.head _))
              go_simp
              obtain ⟨w6, hw, hS', M⟩ := M.out.store hS (by have := Hbx.out; have := hz0.out; omega) (p := p2) (T := 47) (cs := #[.slice none 0 0]) (List.Mem.tail _ (List.Mem.head _)) rfl (.slice (some ⟨g2, 0, none⟩) n n)
              rw [hw]
              clear hw cc ff
              refine hK.out _ _ hS' (fun hS => ?_)
              clear hK K hS'
              try simp only [Act.put, List.setIfInBounds_toArray, List.set_cons_zero, List.set_cons_succ]
              refine wpAnyH_done (by kernel_rfl) ?_ _
              have q1 := M.out.at (p := p1) (T := 52) (cs := #[.slice (some ⟨g1, 0, none⟩) n n]) (List.Mem.tail _ (List.Mem.head _))
              have q2 := M.out.at (p := p2) (T := 47) (cs := #[.slice (some ⟨g2, 0, none⟩) n n]) (List.Mem.head _)
              have q3 := M.out.at (p := g1) (T := 69) (cs := Array.replicate n (.pointer none)) (List.Mem.tail _ (List.Mem.tail _ (List.Mem.tail _ (List.Mem.head _))))
              have q4 := M.out.at (p := g2) (T := 4) (cs := Array.replicate n (.bool false)) (List.Mem.tail _ (List.Mem.tail _ (List.Mem.head _)))
              have LO : Hid (W0.heap.size ≤ p1 ∧ W0.heap.size ≤ p2 ∧ W0.heap.size ≤ g1 ∧ W0.heap.size ≤ g2) := Lib.hid (by rw [hz0.out]; exact ⟨q1.1, q2.1, q3.1, q4.1⟩)
              replace q1 := Lib.hid q1.2
              replace q2 := Lib.hid q2.2
              replace q3 := Lib.hid q3.2
              replace q4 := Lib.hid q4.2
              go_wp2_with fail
              go_meet
              exact ⟨p1, p2, g1, g2, rfl, rfl, LO, q1, q2, q3, q4, Lib.hid (by rw [hz0.out]; exact BB.out.trans M.out.2.1)⟩
            · go_simp
              obtain ⟨p2, hp2⟩ : ∃ q, q = w2.heap.size := ⟨_, rfl⟩
              rw [← hp2]
              obtain ⟨w3, hw, hS', M⟩ := M.out.alloc hS 47 #[.slice none 0 0] hp2
              rw [hw]
              clear hw hp2
              refine hK.out _ _ hS' (fun hS => ?_)
              clear hK K hS'
              try simp only [Act.put, List.setIfInBounds_toArray, List.set_cons_zero, List.set_cons_succ]
              refine wpAnyH_ready (rs := [6]) (by kernel_rfl) (by simp) ?_
              refine AllReadyH.cons rfl (fun K hK => ?_) AllReadyH.nil
              go_simp
              obtain ⟨p1, hp1⟩ : ∃ q, q = w3.heap.size := ⟨_, rfl⟩
              rw [← hp1]
              obtain ⟨w4, hw, hS', M⟩ := M.out.alloc hS 52 #[.slice none 0 0] hp1
              rw [hw]
              clear hw hp1
              refine hK.out _ _ hS' (fun hS => ?_)
              clear hK K hS'
              try simp only [Act.put, List.setIfInBounds_toArray, List.set_cons_zero, List.set_cons_succ]
              refine wpAnyH_ready (rs := [8]) (by kernel_rfl) (by simp) ?_
              refine AllReadyH.cons rfl (fun K hK => ?_) AllReadyH.nil
              obtain ⟨cc, ff⟩ := M.out.one (p := p1) (T := 52) (v := .slice none 0 0) (List.Mem.head _)
              go_simp
              obtain ⟨w5, hw, hS', M⟩ := M.out.store hS (by have := Hbx.out; have := hz0.out; omega) (p := p1) (T := 52) (cs := #[.slice none 0 0]) (List.Mem.head _) rfl (.slice (some ⟨g1, 0, none⟩) n n)
              rw [hw]
              clear hw cc ff
              refine hK.out _ _ hS' (fun hS => ?_)
              clear hK K hS'
              try simp only [Act.put, List.setIfInBounds_toArray, List.set_cons_zero, List.set_cons_succ]
              refine wpAnyH_ready (rs := [9]) (by kernel_rfl) (by simp) ?_
              refine AllReadyH.cons rfl (fun K hK => ?_) AllReadyH.nil
              obtain ⟨cc, ff⟩ := M.out.one (p := p2) (T := 47) (v := .slice none 0 0) (List.Mem.tail _ (List.Mem.head _))
              go_simp
              obtain ⟨w6, hw, hS', M⟩ := M.out.store hS (by have := Hbx.out; have := hz0.out; omega) (p := p2) (T := 47) (cs := #[.slice none 0 0]) (List.Mem.tail _ (List.Mem.head _)) rfl (.slice (some ⟨g2, 0, none⟩) n n)
              rw [hw]
              clear hw cc ff
              refine hK.out _ _ hS' (fun hS => ?_)
              clear hK K hS'
              try simp only [Act.put, List.setIfInBounds_toArray, List.set_cons_zero, List.set_cons_succ]
              refine wpAnyH_done (by kernel_rfl) ?_ _
              have q1 := M.out.at (p := p1) (T := 52) (cs := #[.slice (some ⟨g1, 0, none⟩) n n]) (List.Mem.tail _ (List.Mem.head _))
              have q2 := M.out.at (p := p2) (T := 47) (cs := #[.slice (some ⟨g2, 0, none⟩) n n]) (List.Mem.head _)
              have q3 := M.out.at (p := g1) (T := 69) (cs := Array.replicate n (.pointer none)) (List.Mem.tail _ (List.Mem.tail _ (List.Mem.tail _ (List.Mem.head _))))
              have q4 := M.out.at (p := g2) (T := 4) (cs := Array.replicate n (.bool false)) (List.Mem.tail _ (List.Mem.tail _ (List.Mem.head _)))
              have LO : Hid (W0.heap.size ≤ p1 ∧ W0.heap.size ≤ p2 ∧ W0.heap.size ≤ g1 ∧ W0.heap.size ≤ g2) := Lib.hid (by rw [hz0.out]; exact ⟨q1.1, q2.1, q3.1, q4.1⟩)
              replace q1 := Lib.hid q1.2
              replace q2 := Lib.hid q2.2
              replace q3 := Lib.hid q3.2
              replace q4 := Lib.hid q4.2
              go_wp2_with fail
              go_meet
              exact ⟨p1, p2, g1, g2, rfl, rfl, LO, q1, q2, q3, q4, Lib.hid (by rw [hz0.out]; exact BB.out.trans M.out.2.1)⟩
          · go_simp
            obtain ⟨p1, hp1⟩ : ∃ q, q = w1.heap.size := ⟨_, rfl⟩
            rw [← hp1]
            obtain ⟨w2, hw, hS', M⟩ := M.out.alloc hS 52 #[.slice none 0 0] hp1
            rw [hw]
            clear hw hp1
            refine hK.out _ _ hS' (fun hS => ?_)
            clear hK K hS'
            try simp only [Act.put, List.setIfInBounds_toArray, List.set_cons_zero, List.set_cons_succ]
            refine wpAnyH_ready (rs := [5, 7]) (by kernel_rfl) (by simp) ?_
            refine AllReadyH.cons rfl (fun K hK => ?_) (AllReadyH.cons rfl (fun K hK => ?_) AllReadyH.nil)
            · go_simp
              obtain ⟨g2, hg2⟩ : ∃ q, q = w2.heap.size := ⟨_, rfl⟩
              rw [← hg2]
              obtain ⟨w3, hw, hS', M⟩ := M.out.alloc hS 4 (Array.replicate n (.bool false)) hg2
              rw [hw]
              clear hw hg2
              refine hK.out _ _ hS' (fun hS => ?_)
              clear hK K hS'
              try simp only [Act.put, List.setIfInBounds_toArray, List.set_cons_zero, List.set_cons_succ]
              refine wpAnyH_ready (rs := [7]) (by kernel_rfl) (by simp) ?_
              refine AllReadyH.cons rfl (fun K hK => ?_) AllReadyH.nil
              go_simp
              obtain ⟨p2, hp2⟩ : ∃ q, q = w3.heap.size := ⟨_, rfl⟩
              rw [← hp2]
              obtain ⟨w4, hw, hS', M⟩ := M.out.alloc hS 47 #[.slice none 0 0] hp2
              rw [hw]
              clear hw hp2
              refine hK.out _ _ hS' (fun hS => ?_)
              clear hK K hS'
              try simp only [Act.put, List.setIfInBounds_toArray, List.set_cons_zero, List.set_cons_succ]
              refine wpAnyH_ready (rs := [8]) (by kernel_rfl) (by simp) ?_
              refine AllReadyH.cons rfl (fun K hK => ?_) AllReadyH.nil
              obtain ⟨cc, ff⟩ := M.out.one (p := p1) (T := 52) (v := .slice none 0 0) (List.Mem.tail _ (List.Mem.tail _ (List.Mem.head _)))
              go_simp
              obtain ⟨w5, hw, hS', M⟩ := M.out.store hS (by have := Hbx.out; have := hz0.out; omega) (p := p1) (T := 52) (cs := #[.slice none 0 0]) (List.Mem.tail _ (List.Mem.tail _ (List.Mem.head _))) rfl (.slice (some ⟨g1, 0, none⟩) n n)
              rw [hw]
              clear hw cc ff
              refine hK.out _ _ hS' (fun hS => ?_)
              clear hK K hS'
              try simp only [Act.put, List.setIfInBounds_toArray, List.set_cons_zero, List.set_cons_succ]
              refine wpAnyH_ready (rs := [9]) (by kernel_rfl) (by simp) ?_
              refine AllReadyH.cons rfl (fun K hK => ?_) AllReadyH.nil
              obtain ⟨cc, ff⟩ := M.out.one (p := p2) (T := 47) (v := .slice none 0 0) (List.Mem.tail _ (List.Mem.head _))
              go_simp
              obtain ⟨w6, hw, hS', M⟩ := M.out.store hS (by have := Hbx.out; have := hz0.out; omega) (p := p2) (T := 47) (cs := #[.slice none 0 0]) (List.Mem.tail _ (List.Mem.head _)) rfl (.slice (some ⟨g2, 0, none⟩) n n)
              rw [hw]
              clear hw cc ff
              refine hK.out _ _ hS' (fun hS => ?_)
              clear hK K hS'
              try simp only [Act.put, List.setIfInBounds_toArray, List.set_cons_zero, List.set_cons_succ]
              refine wpAnyH_done (by kernel_rfl) ?_ _
              have q1 := M.out.at (p := p1) (T := 52) (cs := #[.slice (some ⟨g1, 0, none⟩) n n]) (List.Mem.tail _ (List.Mem.head _))
              have q2 := M.out.at (p := p2) (T := 47) (cs := #[.slice (some ⟨g2, 0, none⟩) n n]) (List.Mem.head _)
              have q3 := M.out.at (p := g1) (T := 69) (cs := Array.replicate n (.pointer none)) (List.Mem.tail _ (List.Mem.tail _ (List.Mem.tail _ (List.Mem.head _))))
              have q4 := M.out.at (p := g2) (T := 4) (cs := Array.replicate n (.bool false)) (List.Mem.tail _ (List.Mem.tail _ (List.Mem.head _)))
              have LO : Hid (W0.heap.size ≤ p1 ∧ W0.heap.size ≤ p2 ∧ W0.heap.size ≤ g1 ∧ W0.heap.size ≤ g2) := Lib.hid (by rw [hz0.out]; exact ⟨q1.1, q2.1, q3.1, q4.1⟩)
              replace q1 := Lib.hid q1.2
              replace q2 := Lib.hid q2.2
              replace q3 := Lib.hid q3.2
              replace q4 := Lib.hid q4.2
              go_wp2_with fail
              go_meet
              exact ⟨p1, p2, g1, g2, rfl, rfl, LO, q1, q2, q3, q4, Lib.hid (by rw [hz0.out]; exact BB.out.trans M.out.2.1)⟩
            · go_simp
              obtain ⟨p2, hp2⟩ : ∃ q, q = w2.heap.size := ⟨_, rfl⟩
              rw [← hp2]
              obtain ⟨w3, hw, hS', M⟩ := M.out.alloc hS 47 #[.slice none 0 0] hp2
              rw [hw]
              clear hw hp2
              refine hK.out _ _ hS' (fun hS => ?_)
              clear hK K hS'
              try simp only [Act.put, List.setIfInBounds_toArray, List.set_cons_zero, List.set_cons_succ]
              refine wpAnyH_ready (rs := [5, 8]) (by kernel_rfl) (by simp) ?_
              refine AllReadyH.cons rfl (fun K hK => ?_) (AllReadyH.cons rfl (fun K hK => ?_) AllReadyH.nil)
              · go_simp
                obtain ⟨g2, hg2⟩ : ∃ q, q = w3.heap.size := ⟨_, rfl⟩
                rw [← hg2]
                obtain ⟨w4, hw, hS', M⟩ := M.out.alloc hS 4 (Array.replicate n (.bool false)) hg2
                rw [hw]
                clear hw hg2
                refine hK.out _ _ hS' (fun hS => ?_)
                clear hK K hS'
                try simp only [Act.put, List.setIfInBounds_toArray, List.set_cons_zero, List.set_cons_succ]
                refine wpAnyH_ready (rs := [8]) (by kernel_rfl) (by simp) ?_
                refine AllReadyH.cons rfl (fun K hK => ?_) AllReadyH.nil
                obtain ⟨cc, ff⟩ := M.out.one (p := p1) (T := 52) (v := .slice none 0 0) (List.Mem.tail _ (List.Mem.tail _ (List.Mem.head _)))
                go_simp
                obtain ⟨w5, hw, hS', M⟩ := M.out.store hS (by have := Hbx.out; have := hz0.out; omega) (p := p1) (T := 52) (cs := #[.slice none 0 0]) (List.Mem.tail _ (List.Mem.tail _ (List.Mem.head _))) rfl (.slice (some ⟨g1, 0, none⟩) n n)
                rw [hw]
                clear hw cc ff
                refine hK.out _ _ hS' (fun hS => ?_)
                clear hK K hS'
                try simp only [Act.put, List.setIfInBounds_toArray, List.set_cons_zero, List.set_cons_succ]
                refine wpAnyH_ready (rs := [9]) (by kernel_rfl) (by simp) ?_
                refine AllReadyH.cons rfl (fun K hK => ?_) AllReadyH.nil
                obtain ⟨cc, ff⟩ := M.out.one (p := p2) (T := 47) (v := .slice none 0 0) (List.Mem.tail _ (List.Mem.tail _ (List.Mem.head _)))
                go_simp
                obtain ⟨w6, hw, hS', M⟩ := M.out.store hS (by have := Hbx.out; have := hz0.out; omega) (p := p2) (T := 47) (cs := #[.slice none 0 0]) (List.Mem.tail _ (List.Mem.tail _ (List.Mem.head _))) rfl (.slice (some ⟨g2, 0, none⟩) n n)
                rw [hw]
                clear hw cc ff
                refine hK.out _ _ hS' (fun hS => ?_)
                clear hK K hS'
                try simp only [Act.put, List.setIfInBounds_toArray, List.set_cons_zero, List.set_cons_succ]
                refine wpAnyH_done (by kernel_rfl) ?_ _
                have q1 := M.out.at (p := p1) (T := 52) (cs := #[.slice (some ⟨g1, 0, none⟩) n n]) (List.Mem.tail _ (List.Mem.head _))
                have q2 := M.out.at (p := p2) (T := 47) (cs := #[.slice (some ⟨g2, 0, none⟩) n n]) (List.Mem.head _)
                have q3 := M.out.at (p := g1) (T := 69) (cs := Array.replicate n (.pointer none)) (List.Mem.tail _ (List.Mem.tail _ (List.Mem.tail _ (List.Mem.head _))))
                have q4 := M.out.at (p := g2) (T := 4) (cs := Array.replicate n (.bool false)) (List.Mem.tail _ (List.Mem.tail _ (List.Mem.head _)))
                have LO : Hid (W0.heap.size ≤ p1 ∧ W0.heap.size ≤ p2 ∧ W0.heap.size ≤ g1 ∧ W0.heap.size ≤ g2) := Lib.hid (by rw [hz0.out]; exact ⟨q1.1, q2.1, q3.1, q4.1⟩)
                replace q1 := Lib.hid q1.2
                replace q2 := Lib.hid q2.2
                replace q3 := Lib.hid q3.2
                replace q4 := Lib.hid q4.2
                go_wp2_with fail
                go_meet
                exact ⟨p1, p2, g1, g2, rfl, rfl, LO, q1, q2, q3, q4, Lib.hid (by rw [hz0.out]; exact BB.out.trans M.out.2.1)⟩
              · obtain ⟨cc, ff⟩ := M.out.one (p := p1) (T := 52) (v := .slice none 0 0) (List.Mem.tail _ (List.Mem.head _))
                go_simp
                obtain ⟨w4, hw, hS', M⟩ := M.out.store hS (by have := Hbx.out; have := hz0.out; omega) (p := p1) (T := 52) (cs := #[.slice none 0 0]) (List.Mem.tail _ (List.Mem.head _)) rfl (.slice (some ⟨g1, 0, none⟩) n n)
                rw [hw]
                clear hw cc ff
                refine hK.out _ _ hS' (fun hS => ?_)
                clear hK K hS'
                try simp only [Act.put, List.setIfInBounds_toArray, List.set_cons_zero, List.set_cons_succ]
                refine wpAnyH_ready (rs := [5]) (by kernel_rfl) (by simp) ?_
                refine AllReadyH.cons rfl (fun K hK => ?_) AllReadyH.nil
                go_simp
                obtain ⟨g2, hg2⟩ : ∃ q, q = w4.heap.size := ⟨_, rfl⟩
                rw [← hg2]
                obtain ⟨w5, hw, hS', M⟩ := M.out.alloc hS 4 (Array.replicate n (.bool false)) hg2
                rw [hw]
                clear hw hg2
                refine hK.out _ _ hS' (fun hS => ?_)
                clear hK K hS'
                try simp only [Act.put, List.setIfInBounds_toArray, List.set_cons_zero, List.set_cons_succ]
                refine wpAnyH_ready (rs := [9]) (by kernel_rfl) (by simp) ?_
                refine AllReadyH.cons rfl (fun K hK => ?_) AllReadyH.nil
                obtain ⟨cc, ff⟩ := M.out.one (p := p2) (T := 47) (v := .slice none 0 0) (List.Mem.tail _ (List.Mem.tail _ (List.Mem.head _)))
                go_simp
                obtain ⟨w6, hw, hS', M⟩ := M.out.store hS (by have := Hbx.out; have := hz0.out; omega) (p := p2) (T := 47) (cs := #[.slice none 0 0]) (List.Mem.tail _ (List.Mem.tail _ (List.Mem.head _))) rfl (.slice (some ⟨g2, 0, none⟩) n n)
                rw [hw]
                clear hw cc ff
                refine hK.out _ _ hS' (fun hS => ?_)
                clear hK K hS'
                try simp only [Act.put, List.setIfInBounds_toArray, List.set_cons_zero, List.set_cons_succ]
                refine wpAnyH_done (by kernel_rfl) ?_ _
                have q1 := M.out.at (p := p1) (T := 52) (cs := #[.slice (some ⟨g1, 0, none⟩) n n]) (List.Mem.tail _ (List.Mem.tail _ (List.Mem.head _)))
                have q2 := M.out.at (p := p2) (T := 47) (cs := #[.slice (some ⟨g2, 0, none⟩) n n]) (List.Mem.head _)
                have q3 := M.out.at (p := g1) (T := 69) (cs := Array.replicate n (.pointer none)) (List.Mem.tail _ (List.Mem.tail _ (List.Mem.tail _ (List.Mem.head _))))
                have q4 := M.out.at (p := g2) (T := 4) (cs := Array.replicate n (.bool false)) (List.Mem.tail _ (List.Mem.head _))
                have LO : Hid (W0.heap.size ≤ p1 ∧ W0.heap.size ≤ p2 ∧ W0.heap.size ≤ g1 ∧ W0.heap.size ≤ g2) := Lib.hid (by rw [hz0.out]; exact ⟨q1.1, q2.1, q3.1, q4.1⟩)
                replace q1 := Lib.hid q1.2
                replace q2 := Lib.hid q2.2
                replace q3 := Lib.hid q3.2
                replace q4 := Lib.hid q4.2
                go_wp2_with fail
                go_meet
                exact ⟨p1, p2, g1, g2, rfl, rfl, LO, q1, q2, q3, q4, Lib.hid (by rw [hz0.out]; exact BB.out.trans M.out.2.1)⟩
          · go_simp
            obtain ⟨p2, hp2⟩ : ∃ q, q = w1.heap.size := ⟨_, rfl⟩
            rw [← hp2]
            obtain ⟨w2, hw, hS', M⟩ := M.out.alloc hS 47 #[.slice none 0 0] hp2
            rw [hw]
            clear hw hp2
            refine hK.out _ _ hS' (fun hS => ?_)
            clear hK K hS'
            try simp only [Act.put, List.setIfInBounds_toArray, List.set_cons_zero, List.set_cons_succ]
            refine wpAnyH_ready (rs := [5, 6]) (by kernel_rfl) (by simp) ?_
            refine AllReadyH.cons rfl (fun K hK => ?_) (AllReadyH.cons rfl (fun K hK => ?_) AllReadyH.nil)
            · go_simp
              obtain ⟨g2, hg2⟩ : ∃ q, q = w2.heap.size := ⟨_, rfl⟩
              rw [← hg2]
              obtain ⟨w3, hw, hS', M⟩ := M.out.alloc hS 4 (Array.replicate n (.bool false)) hg2
              rw [hw]
              clear hw hg2
              refine hK.out _ _ hS' (fun hS => ?_)
              clear hK K hS'
              try simp only [Act.put, List.setIfInBounds_toArray, List.set_cons_zero, List.set_cons_succ]
              refine wpAnyH_ready (rs := [6]) (by kernel_rfl) (by simp) ?_
              refine AllReadyH.cons rfl (fun K hK => ?_) AllReadyH.nil
              go_simp
              obtain ⟨p1, hp1⟩ : ∃ q, q = w3.heap.size := ⟨_, rfl⟩
              rw [← hp1]
              obtain ⟨w4, hw, hS', M⟩ := M.out.alloc hS 52 #[.slice none 0 0] hp1
              rw [hw]
              clear hw hp1
              refine hK.out _ _ hS' (fun hS => ?_)
              clear hK K hS'
              try simp only [Act.put, List.setIfInBounds_toArray, List.set_cons_zero, List.set_cons_succ]
              refine wpAnyH_ready (rs := [8]) (by kernel_rfl) (by simp) ?_
              refine AllReadyH.cons rfl (fun K hK => ?_) AllReadyH.nil
              obtain ⟨cc, ff⟩ := M.out.one (p := p1) (T := 52) (v := .slice none 0 0) (List.Mem.head _)
              go_simp
              obtain ⟨w5, hw, hS', M⟩ := M.out.store hS (by have := Hbx.out; have := hz0.out; omega) (p := p1) (T := 52) (cs := #[.slice none 0 0]) (List.Mem.head _) rfl (.slice (some ⟨g1, 0, none⟩) n n)
              rw [hw]
              clear hw cc ff
              refine hK.out _ _ hS' (fun hS => ?_)
              clear hK K hS'
              try simp only [Act.put, List.setIfInBounds_toArray, List.set_cons_zero, List.set_cons_succ]
              refine wpAnyH_ready (rs := [9]) (by kernel_rfl) (by simp) ?_
              refine AllReadyH.cons rfl (fun K hK => ?_) AllReadyH.nil
              obtain ⟨cc, ff⟩ := M.out.one (p := p2) (T := 47) (v := .slice none 0 0) (List.Mem.tail _ (List.Mem.tail _ (List.Mem.head _)))
              go_simp
              obtain ⟨w6, hw, hS', M⟩ := M.out.store hS (by have := Hbx.out; have := hz0.out; omega) (p := p2) (T := 47) (cs := #[.slice none 0 0]) (List.Mem.tail _ (List.Mem.tail _ (List.Mem.head _))) rfl (.slice (some ⟨g2, 0, none⟩) n n)
              rw [hw]
              clear hw cc ff
              refine hK.out _ _ hS' (fun hS => ?_)
              clear hK K hS'
              try simp only [Act.put, List.setIfInBounds_toArray, List.set_cons_zero, List.set_cons_succ]
              refine wpAnyH_done (by kernel_rfl) ?_ _
              have q1 := M.out.at (p := p1) (T := 52) (cs := #[.slice (some ⟨g1, 0, none⟩) n n]) (List.Mem.tail _ (List.Mem.head _))
              have q2 := M.out.at (p := p2) (T := 47) (cs := #[.slice (some ⟨g2, 0, none⟩) n n]) (List.Mem.head _)
              have q3 := M.out.at (p := g1) (T := 69) (cs := Array.replicate n (.pointer none)) (List.Mem.tail _ (List.Mem.tail _ (List.Mem.tail _ (List.Mem.head _))))
              have q4 := M.out.at (p := g2) (T := 4) (cs := Array.replicate n (.bool false)) (List.Mem.tail _ (List.Mem.tail _ (List.Mem.head _)))
              have LO : Hid (W0.heap.size ≤ p1 ∧ W0.heap.size ≤ p2 ∧ W0.heap.size ≤ g1 ∧ W0.heap.size ≤ g2) := Lib.hid (by rw [hz0.out]; exact ⟨q1.1, q2.1, q3.1, q4.1⟩)
              replace q1 := Lib.hid q1.2
              replace q2 := Lib.hid q2.2
              replace q3 := Lib.hid q3.2
              replace q4 := Lib.hid q4.2
              go_wp2_with fail
              go_meet
              exact ⟨p1, p2, g1, g2, rfl, rfl, LO, q1, q2, q3, q4, Lib.hid (by rw [hz0.out]; exact BB.out.trans M.out.2.1)⟩
            · go_simp
              obtain ⟨p1, hp1⟩ : ∃ q, q = w2.heap.size := ⟨_, rfl⟩
              rw [← hp1]
              obtain ⟨w3, hw, hS', M⟩ := M.out.alloc hS 52 #[.slice none 0 0] hp1
              rw [hw]
              clear hw hp1
              refine hK.out _ _ hS' (fun hS => ?_)
              clear hK K hS'
              try simp only [Act.put, List.setIfInBounds_toArray, List.set_cons_zero, List.set_cons_succ]
              refine wpAnyH_ready (rs := [5, 8]) (by kernel_rfl) (by simp) ?_
              refine AllReadyH.cons rfl (fun K hK => ?_) (AllReadyH.cons rfl (fun K hK => ?_) AllReadyH.nil)
              · go_simp
                obtain ⟨g2, hg2⟩ : ∃ q, q = w3.heap.size := ⟨_, rfl⟩
                rw [← hg2]
                obtain ⟨w4, hw, hS', M⟩ := M.out.alloc hS 4 (Array.replicate n (.bool false)) hg2
                rw [hw]
                clear hw hg2
                refine hK.out _ _ hS' (fun hS => ?_)
                clear hK K hS'
                try simp only [Act.put, List.setIfInBounds_toArray, List.set_cons_zero, List.set_cons_succ]
                refine wpAnyH_ready (rs := [8]) (by kernel_rfl) (by simp) ?_
                refine AllReadyH.cons rfl (fun K hK => ?_) AllReadyH.nil
                obtain ⟨cc, ff⟩ := M.out.one (p := p1) (T := 52) (v := .slice none 0 0) (List.Mem.tail _ (List.Mem.head _))
                go_simp
                obtain ⟨w5, hw, hS', M⟩ := M.out.store hS (by have := Hbx.out; have := hz0.out; omega) (p := p1) (T := 52) (cs := #[.slice none 0 0]) (List.Mem.tail _ (List.Mem.head _)) rfl (.slice (some ⟨g1, 0, none⟩) n n)
                rw [hw]
                clear hw cc ff
                refine hK.out _ _ hS' (fun hS => ?_)
                clear hK K hS'
                try simp only [Act.put, List.setIfInBounds_toArray, List.set_cons_zero, List.set_cons_succ]
                refine wpAnyH_ready (rs := [9]) (by kernel_rfl) (by simp) ?_
                refine AllReadyH.cons rfl (fun K hK => ?_) AllReadyH.nil
                obtain ⟨cc, ff⟩ := M.out.one (p := p2) (T := 47) (v := .slice none 0 0) (List.Mem.tail _ (List.Mem.tail _ (List.Mem.head _)))
                go_simp
                obtain ⟨w6, hw, hS', M⟩ := M.out.store hS (by have := Hbx.out; have := hz0.out; omega) (p := p2) (T := 47) (cs := #[.slice none 0 0]) (List.Mem.tail _ (List.Mem.tail _ (List.Mem.head _))) rfl (.slice (some ⟨g2, 0, none⟩) n n)
                rw [hw]
                clear hw cc ff
                refine hK.out _ _ hS' (fun hS => ?_)
                clear hK K hS'
                try simp only [Act.put, List.setIfInBounds_toArray, List.set_cons_zero, List.set_cons_succ]
                refine wpAnyH_done (by kernel_rfl) ?_ _
                have q1 := M.out.at (p := p1) (T := 52) (cs := #[.slice (some ⟨g1, 0, none⟩) n n]) (List.Mem.tail _ (List.Mem.head _))
                have q2 := M.out.at (p := p2) (T := 47) (cs := #[.slice (some ⟨g2, 0, none⟩) n n]) (List.Mem.head _)
                have q3 := M.out.at (p := g1) (T := 69) (cs := Array.replicate n (.pointer none)) (List.Mem.tail _ (List.Mem.tail _ (List.Mem.tail _ (List.Mem.head _))))
                have q4 := M.out.at (p := g2) (T := 4) (cs := Array.replicate n (.bool false)) (List.Mem.tail _ (List.Mem.tail _ (List.Mem.head _)))
                have LO : Hid (W0.heap.size ≤ p1 ∧ W0.heap.size ≤ p2 ∧ W0.heap.size ≤ g1 ∧ W0.heap.size ≤ g2) := Lib.hid (by rw [hz0.out]; exact ⟨q1.1, q2.1, q3.1, q4.1⟩)
                replace q1 := Lib.hid q1.2
                replace q2 := Lib.hid q2.2
                replace q3 := Lib.hid q3.2
                replace q4 := Lib.hid q4.2
                go_wp2_with fail
                go_meet
                exact ⟨p1, p2, g1, g2, rfl, rfl, LO, q1, q2, q3, q4, Lib.hid (by rw [hz0.out]; exact BB.out.trans M.out.2.1)⟩
              · obtain ⟨cc, ff⟩ := M.out.one (p := p1) (T := 52) (v := .slice none 0 0) (List.Mem.head _)
                go_simp
                obtain ⟨w4, hw, hS', M⟩ := M.out.store hS (by have := Hbx.out; have := hz0.out; omega) (p := p1) (T := 52) (cs := #[.slice none 0 0]) (List.Mem.head _) rfl (.slice (some ⟨g1, 0, none⟩) n n)
                rw [hw]
                clear hw cc ff
                refine hK.out _ _ hS' (fun hS => ?_)
                clear hK K hS'
                try simp only [Act.put, List.setIfInBounds_toArray, List.set_cons_zero, List.set_cons_succ]
                refine wpAnyH_ready (rs := [5]) (by kernel_rfl) (by simp) ?_
                refine AllReadyH.cons rfl (fun K hK => ?_) AllReadyH.nil
                go_simp
                obtain ⟨g2, hg2⟩ : ∃ q, q = w4.heap.size := ⟨_, rfl⟩
                rw [← hg2]
                obtain ⟨w5, hw, hS', M⟩ := M.out.alloc hS 4 (Array.replicate n (.bool false)) hg2
                rw [hw]
                clear hw hg2
                refine hK.out _ _ hS' (fun hS => ?_)
                clear hK K hS'
                try simp only [Act.put, List.setIfInBounds_toArray, List.set_cons_zero, List.set_cons_succ]
                refine wpAnyH_ready (rs := [9]) (by kernel_rfl) (by simp) ?_
                refine AllReadyH.cons rfl (fun K hK => ?_) AllReadyH.nil
                obtain ⟨cc, ff⟩ := M.out.one (p := p2) (T := 47) (v := .slice none 0 0) (List.Mem.tail _ (List.Mem.tail _ (List.Mem.head _)))
                go_simp
                obtain ⟨w6, hw, hS', M⟩ := M.out.store hS (by have := Hbx.out; have := hz0.out; omega) (p := p2) (T := 47) (cs := #[.slice none 0 0]) (List.Mem.tail _ (List.Mem.tail _ (List.Mem.head _))) rfl (.slice (some ⟨g2, 0, none⟩) n n)
                rw [hw]
                clear hw cc ff
                refine hK.out _ _ hS' (fun hS => ?_)
                clear hK K hS'
                try simp only [Act.put, List.setIfInBounds_toArray, List.set_cons_zero, List.set_cons_succ]
                refine wpAnyH_done (by kernel_rfl) ?_ _
                have q1 := M.out.at (p := p1) (T := 52) (cs := #[.slice (some ⟨g1, 0, none⟩) n n]) (List.Mem.tail _ (List.Mem.tail _ (List.Mem.head _)))
                have q2 := M.out.at (p := p2) (T := 47) (cs := #[.slice (some ⟨g2, 0, none⟩) n n]) (List.Mem.head _)
                have q3 := M.out.at (p := g1) (T := 69) (cs := Array.replicate n (.pointer none)) (List.Mem.tail _ (List.Mem.tail _ (List.Mem.tail _ (List.Mem.head _))))
                have q4 := M.out.at (p := g2) (T := 4) (cs := Array.replicate n (.bool false)) (List.Mem.tail _ (List.Mem.head _))
                have LO : Hid (W0.heap.size ≤ p1 ∧ W0.heap.size ≤ p2 ∧ W0.heap.size ≤ g1 ∧ W0.heap.size ≤ g2) := Lib.hid (by rw [hz0.out]; exact ⟨q1.1, q2.1, q3.1, q4.1⟩)
                replace q1 := Lib.hid q1.2
                replace q2 := Lib.hid q2.2
                replace q3 := Lib.hid q3.2
                replace q4 := Lib.hid q4.2
                go_wp2_with fail
                go_meet
                exact ⟨p1, p2, g1, g2, rfl, rfl, LO, q1, q2, q3, q4, Lib.hid (by rw [hz0.out]; exact BB.out.trans M.out.2.1)⟩
        · go_simp
          obtain ⟨g2, hg2⟩ : ∃ q, q = w0.heap.size := ⟨_, rfl⟩
          rw [← hg2]
          obtain ⟨w1, hw, hS', M⟩ := M.out.alloc hS 4 (Array.replicate n (.bool false)) hg2
          rw [hw]
          clear hw hg2
          refine hK.out _ _ hS' (fun hS => ?_)
          clear hK K hS'
          try simp only [Act.put, List.setIfInBounds_toArray, List.set_cons_zero, List.set_cons_succ]
          refine wpAnyH_ready (rs := [2, 6, 7]) (by kernel_rfl) (by simp) ?_
          refine AllReadyH.cons rfl (fun K hK => ?_) (AllReadyH.cons rfl (fun K hK => ?_) (AllReadyH.cons rfl (fun K hK => ?_) AllReadyH.nil))
          · go_simp
            obtain ⟨g1, hg1⟩ : ∃ q, q = w1.heap.size := ⟨_, rfl⟩
            rw [← hg1]
            obtain ⟨w2, hw, hS', M⟩ := M.out.alloc hS 69 (Array.replicate n (.pointer none)) hg1
            rw [hw]
            clear hw hg1
            refine hK.out _ _ hS' (fun hS => ?_)
            clear hK K hS'
            try simp only [Act.put, List.setIfInBounds_toArray, List.set_cons_zero, List.set_cons_succ]
            refine wpAnyH_ready (rs := [6, 7]) (by kernel_rfl) (by simp) ?_
            refine AllReadyH.cons rfl (fun K hK => ?_) (AllReadyH.cons rfl (fun K hK => ?_) AllReadyH.nil)
            · go_simp
              obtain ⟨p1, hp1⟩ : ∃ q, q = w2.heap.size := ⟨_, rfl⟩
              rw [← hp1]
              obtain ⟨w3, hw, hS', M⟩ := M.out.alloc hS 52 #[.slice none 0 0] hp1
              rw [hw]
              clear hw hp1
              refine hK.out _ _ hS' (fun hS => ?_)
              clear hK K hS'
              try simp only [Act.put, List.setIfInBounds_toArray, List.set_cons_zero, List.set_cons_succ]
              refine wpAnyH_ready (rs := [7]) (by kernel_rfl) (by simp) ?_
              refine AllReadyH.cons rfl (fun K hK => ?_) AllReadyH.nil
              go_simp
              obtain ⟨p2, hp2⟩ : ∃ q, q = w3.heap.size := ⟨_, rfl⟩
              rw [← hp2]
              obtain ⟨w4, hw, hS', M⟩ := M.out.alloc hS 47 #[.slice none 0 0] hp2
              rw [hw]
              clear hw hp2
              refine hK.out _ _ hS' (fun hS => ?_)
              clear hK K hS'
              try simp only [Act.put, List.setIfInBounds_toArray, List.set_cons_zero, List.set_cons_succ]
              refine wpAnyH_ready (rs := [8]) (by kernel_rfl) (by simp) ?_
              refine AllReadyH.cons rfl (fun K hK => ?_) AllReadyH.nil
              obtain ⟨cc, ff⟩ := M.out.one (p := p1) (T := 52) (v := .slice none 0 0) (List.Mem.tail _ (List.Mem.head _))
              go_simp
              obtain ⟨w5, hw, hS', M⟩ := M.out.store hS (by have := Hbx.out; have := hz0.out; omega) (p := p1) (T := 52) (cs := #[.slice none 0 0]) (List.Mem.tail _ (List.Mem.head _)) rfl (.slice (some ⟨g1, 0, none⟩) n n)
              rw [hw]
              clear hw cc ff
              refine hK.out _ _ hS' (fun hS => ?_)
              clear hK K hS'
              try simp only [Act.put, List.setIfInBounds_toArray, List.set_cons_zero, List.set_cons_succ]
              refine wpAnyH_ready (rs := [9]) (by kernel_rfl) (by simp) ?_
              refine AllReadyH.cons rfl (fun K hK => ?_) AllReadyH.nil
              obtain ⟨cc, ff⟩ := M.out.one (p := p2) (T := 47) (v := .slice none 0 0) (List.Mem.tail _ (List.Mem.head _))
              go_simp
              obtain ⟨w6, hw, hS', M⟩ := M.out.store hS (by have := Hbx.out; have := hz0.out; omega) (p := p2) (T := 47) (cs := #[.slice none 0 0]) (List.Mem.tail _ (List.Mem.head _)) rfl (.slice (some ⟨g2, 0, none⟩) n n)
              rw [hw]
              clear hw cc ff
              refine hK.out _ _ hS' (fun hS => ?_)
              clear hK K hS'
              try simp only [Act.put, List.setIfInBounds_toArray, List.set_cons_zero, List.set_cons_succ]
              refine wpAnyH_done (by kernel_rfl) ?_ _
              have q1 := M.out.at (p := p1) (T := 52) (cs := #[.slice (some ⟨g1, 0, none⟩) n n]) (List.Mem.tail _ (List.Mem.head _))
              have q2 := M.out.at (p := p2) (T := 47) (cs := #[.slice (some ⟨g2, 0, none⟩) n n]) (List.Mem.head _)
              have q3 := M.out.at (p := g1) (T := 69) (cs := Array.replicate n (.pointer none)) (List.Mem.tail _ (List.Mem.tail _ (List.Mem.head _)))
              have q4 := M.out.at (p := g2) (T := 4) (cs := Array.replicate n (.bool false)) (List.Mem.tail _ (List.Mem.tail _ (List.Mem.tail _ (List.Mem.head _))))
              have LO : Hid (W0.heap.size ≤ p1 ∧ W0.heap.size ≤ p2 ∧ W0.heap.size ≤ g1 ∧ W0.heap.size ≤ g2) := Lib.hid (by rw [hz0.out]; exact ⟨q1.1, q2.1, q3.1, q4.1⟩)
              replace q1 := Lib.hid q1.2
              replace q2 := Lib.hid q2.2
              replace q3 := Lib.hid q3.2
              replace q4 := Lib.hid q4.2
              go_wp2_with fail
              go_meet
              exact ⟨p1, p2, g1, g2, rfl, rfl, LO, q1, q2, q3, q4, Lib.hid (by rw [hz0.out]; exact BB.out.trans M.out.2.1)⟩
            · go_simp
              obtain ⟨p2, hp2⟩ : ∃ q, q = w2.heap.size := ⟨_, rfl⟩
              rw [← hp2]
              obtain ⟨w3, hw, hS', M⟩ := M.out.alloc hS 47 #[.slice none 0 0] hp2
              rw [hw]
              clear hw hp2
              refine hK.out _ _ hS' (fun hS => ?_)
              clear hK K hS'
              try simp only [Act.put, List.setIfInBounds_toArray, List.set_cons_zero, List.set_cons_succ]
              refine wpAnyH_ready (rs := [6]) (by kernel_rfl) (by simp) ?_
              refine AllReadyH.cons rfl (fun K hK => ?_) AllReadyH.nil
              go_simp
              obtain ⟨p1, hp1⟩ : ∃ q, q = w3.heap.size := ⟨_, rfl⟩
              rw [← hp1]
              obtain ⟨w4, hw, hS', M⟩ := M.out.alloc hS 52 #[.slice none 0 0] hp1
              rw [hw]
              clear hw hp1
              refine hK.out _ _ hS' (fun hS => ?_)
              clear hK K hS'
              try simp only [Act.put, List.setIfInBounds_toArray, List.set_cons_zero, List.set_cons_succ]
              refine wpAnyH_ready (rs := [8]) (by kernel_rfl) (by simp) ?_
              refine AllReadyH.cons rfl (fun K hK => ?_) AllReadyH.nil
              obtain ⟨cc, ff⟩ := M.out.one (p := p1) (T := 52) (v := .slice none 0 0) (List.Mem.head _)
              go_simp
              obtain ⟨w5, hw, hS', M⟩ := M.out.store hS (by have := Hbx.out; have := hz0.out; omega) (p := p1) (T := 52) (cs := #[.slice none 0 0]) (List.Mem.head _) rfl (.slice (some ⟨g1, 0, none⟩) n n)
              rw [hw]
              clear hw cc ff
              refine hK.out _ _ hS' (fun hS => ?_)
              clear hK K hS'
              try simp only [Act.put, List.setIfInBounds_toArray, List.set_cons_zero, List.set_cons_succ]
              refine wpAnyH_ready (rs := [9]) (by kernel_rfl) (by simp) ?_
              refine AllReadyH.cons rfl (fun K hK => ?_) AllReadyH.nil
              obtain ⟨cc, ff⟩ := M.out.one (p := p2) (T := 47) (v := .slice none 0 0) (List.Mem.tail _ (List.Mem.head _))
              go_simp
              obtain ⟨w6, hw, hS', M⟩ := M.out.store hS (by have := Hbx.out; have := hz0.out; omega) (p := p2) (T := 47) (cs := #[.slice none 0 0]) (List.Mem.tail _ (List.Mem.head _)) rfl (.slice (some ⟨g2, 0, none⟩) n n)
              rw [hw]
              clear hw cc ff
              refine hK.out _ _ hS' (fun hS => ?_)
              clear hK K hS'
              try simp only [Act.put, List.setIfInBounds_toArray, List.set_cons_zero, List.set_cons_succ]
              refine wpAnyH_done (by kernel_rfl) ?_ _
              have q1 := M.out.at (p := p1) (T := 52) (cs := #[.slice (some ⟨g1, 0, none⟩) n n]) (List.Mem.tail _ (List.Mem.head _))
              have q2 := M.out.at (p := p2) (T := 47) (cs := #[.slice (some ⟨g2, 0, none⟩) n n]) (List.Mem.head _)
              have q3 := M.out.at (p := g1) (T := 69) (cs := Array.replicate n (.pointer none)) (List.Mem.tail _ (List.Mem.tail _ (List.Mem.head _)))
              have q4 := M.out.at (p := g2) (T := 4) (cs := Array.replicate n (.bool false)) (List.Mem.tail _ (List.Mem.tail _ (List.Mem.tail _ (List.Mem.head _))))
              have LO : Hid (W0.heap.size ≤ p1 ∧ W0.heap.size ≤ p2 ∧ W0.heap.size ≤ g1 ∧ W0.heap.size ≤ g2) := Lib.hid (by rw [hz0.out]; exact ⟨q1.1, q2.1, q3.1, q4.1⟩)
              replace q1 := Lib.hid q1.2
              replace q2 := Lib.hid q2.2
              replace q3 := Lib.hid q3.2
              replace q4 := Lib.hid q4.2
              go_wp2_with fail
              go_meet
              exact ⟨p1, p2, g1, g2, rfl, rfl, LO, q1, q2, q3, q4, Lib.hid (by rw [hz0.out]; exact BB.out.trans M.out.2.1)⟩
          · go_simp
            obtain ⟨p1, hp1⟩ : ∃ q, q = w1.heap.size := ⟨_, rfl⟩
            rw [← hp1]
            obtain ⟨w2, hw, hS', M⟩ := M.out.alloc hS 52 #[.slice none 0 0] hp1
            rw [hw]
            clear hw hp1
            refine hK.out _ _ hS' (fun hS => ?_)
            clear hK K hS'
            try simp only [Act.put, List.setIfInBounds_toArray, List.set_cons_zero, List.set_cons_succ]
            refine wpAnyH_ready (rs := [2, 7]) (by kernel_rfl) (by simp) ?_
            refine AllReadyH.cons rfl (fun K hK => ?_) (AllReadyH.cons rfl (fun K hK => ?_) AllReadyH.nil)
            · go_simp
              obtain ⟨g1, hg1⟩ : ∃ q, q = w2.heap.size := ⟨_, rfl⟩
              rw [← hg1]
              obtain ⟨w3, hw, hS', M⟩ := M.out.alloc hS 69 (Array.replicate n (.pointer none)) hg1
              rw [hw]
              clear hw hg1
              refine hK.out _ _ hS' (fun hS => ?_)
              clear hK K hS'
              try simp only [Act.put, List.setIfInBounds_toArray, List.set_cons_zero, List.set_cons_succ]
              refine wpAnyH_ready (rs := [7]) (by kernel_rfl) (by simp) ?_
              refine AllReadyH.cons rfl (fun K hK => ?_) AllReadyH.nil
              go_simp
              obtain ⟨p2, hp2⟩ : ∃ q, q = w3.heap.size := ⟨_, rfl⟩
              rw [← hp2]
              obtain ⟨w4, hw, hS', M⟩ := M.out.alloc hS 47 #[.slice none 0 0] hp2
              rw [hw]
              clear hw hp2
              refine hK.out _ _ hS' (fun hS => ?_)
              clear hK K hS'
              try simp only [Act.put, List.setIfInBounds_toArray, List.set_cons_zero, List.set_cons_succ]
              refine wpAnyH_ready (rs := [8]) (by kernel_rfl) (by simp) ?_
              refine AllReadyH.cons rfl (fun K hK => ?_) AllReadyH.nil
              obtain ⟨cc, ff⟩ := M.out.one (p := p1) (T := 52) (v := .slice none 0 0) (List.Mem.tail _ (List.Mem.tail _ (List.Mem.head _)))
              go_simp
              obtain ⟨w5, hw, hS', M⟩ := M.out.store hS (by have := Hbx.out; have := hz0.out; omega) (p := p1) (T := 52) (cs := #[.slice none 0 0]) (List.Mem.tail _ (List.Mem.tail _ (List.Mem.head _))) rfl (.slice (some ⟨g1, 0, none⟩) n n)
              rw [hw]
              clear hw cc ff
              refine hK.out _ _ hS' (fun hS => ?_)
              clear hK K hS'
              try simp only [Act.put, List.setIfInBounds_toArray, List.set_cons_zero, List.set_cons_succ]
              refine wpAnyH_ready (rs := [9]) (by kernel_rfl) (by simp) ?_
              refine AllReadyH.cons rfl (fun K hK => ?_) AllReadyH.nil
              obtain ⟨cc, ff⟩ := M.out.one (p := p2) (T := 47) (v := .slice none 0 0) (List.Mem.tail _ (List.Mem.head _))
              go_simp
              obtain ⟨w6, hw, hS', M⟩ := M.out.store hS (by have := Hbx.out; have := hz0.out; omega) (p := p2) (T := 47) (cs := #[.slice none 0 0]) (List.Mem.tail _ (List.Mem.head _)) rfl (.slice (some ⟨g2, 0, none⟩) n n)
              rw [hw]
              clear hw cc ff
              refine hK.out _ _ hS' (fun hS => ?_)
              clear hK K hS'
              try simp only [Act.put, List.setIfInBounds_toArray, List.set_cons_zero, List.set_cons_succ]
              refine wpAnyH_done (by kernel_rfl) ?_ _
              have q1 := M.out.at (p := p1) (T := 52) (cs := #[.slice (some ⟨g1, 0, none⟩) n n]) (List.Mem.tail _ (List.Mem.head _))
              have q2 := M.out.at (p := p2) (T := 47) (cs := #[.slice (some ⟨g2, 0, none⟩) n n]) (List.Mem.head _)
              have q3 := M.out.at (p := g1) (T := 69) (cs := Array.replicate n (.pointer none)) (List.Mem.tail _ (List.Mem.tail _ (List.Mem.head _)))
              have q4 := M.out.at (p := g2) (T := 4) (cs := Array.replicate n (.bool false)) (List.Mem.tail _ (List.Mem.tail _ (List.Mem.tail _ (List.Mem.head _))))
              have LO : Hid (W0.heap.size ≤ p1 ∧ W0.heap.size ≤ p2 ∧ W0.heap.size ≤ g1 ∧ W0.heap.size ≤ g2) := Lib.hid (by rw [hz0.out]; exact ⟨q1.1, q2.1, q3.1, q4.1⟩)
              replace q1 := Lib.hid q1.2
              replace q2 := Lib.hid q2.2
              replace q3 := Lib.hid q3.2
              replace q4 := Lib.hid q4.2
              go_wp2_with fail
              go_meet
              exact ⟨p1, p2, g1, g2, rfl, rfl, LO, q1, q2, q3, q4, Lib.hid (by rw [hz0.out]; exact BB.out.trans M.out.2.1)⟩
            · go_simp
              obtain ⟨p2, hp2⟩ : ∃ q, q = w2.heap.size := ⟨_, rfl⟩
              rw [← hp2]
              obtain ⟨w3, hw, hS', M⟩ := M.out.alloc hS 47 #[.slice none 0 0] hp2
              rw [hw]
              clear hw hp2
              refine hK.out _ _ hS' (fun hS => ?_)
              clear hK K hS'
              try simp only [Act.put, List.setIfInBounds_toArray, List.set_cons_zero, List.set_cons_succ]
              refine wpAnyH_ready (rs := [2]) (by kernel_rfl) (by simp) ?_
              refine AllReadyH.cons rfl (fun K hK => ?_) AllReadyH.nil
              go_simp
              obtain ⟨g1, hg1⟩ : ∃ q, q = w3.heap.size := ⟨_, rfl⟩
              rw [← hg1]
              obtain ⟨w4, hw, hS', M⟩ := M.out.alloc hS 69 (Array.replicate n (.pointer none)) hg1
              rw [hw]
              clear hw hg1
              refine hK.out _ _ hS' (fun hS => ?_)
              clear hK K hS'
              try simp only [Act.put, List.setIfInBounds_toArray, List.set_cons_zero, List.set_cons_succ]
              refine wpAnyH_ready (rs := [8]) (by kernel_rfl) (by simp) ?_
              refine AllReadyH.cons rfl (fun K hK => ?_) AllReadyH.nil
              obtain ⟨cc, ff⟩ := M.out.one (p := p1) (T := 52) (v := .slice none 0 0) (List.Mem.tail _ (List.Mem.tail _ (List.Mem.head _)))
              go_simp
              obtain ⟨w5, hw, hS', M⟩ := M.out.store hS (by have := Hbx.out; have := hz0.out; omega) (p := p1) (T := 52) (cs := #[.slice none 0 0]) (List.Mem.tail _ (List.Mem.tail _ (List.Mem.head _))) rfl (.slice (some ⟨g1, 0, none⟩) n n)
              rw [hw]
              clear hw cc ff
              refine hK.out _ _ hS' (fun hS => ?_)
              clear hK K hS'
              try simp only [Act.put, List.setIfInBounds_toArray, List.set_cons_zero, List.set_cons_succ]
              refine wpAnyH_ready (rs := [9]) (by kernel_rfl) (by simp) ?_
              refine AllReadyH.cons rfl (fun K hK => ?_) AllReadyH.nil
              obtain ⟨cc, ff⟩ := M.out.one (p := p2) (T := 47) (v := .slice none 0 0) (List.Mem.tail _ (List.Mem.tail _ (List.Mem.head _)))
              go_simp
              obtain ⟨w6, hw, hS', M⟩ := M.out.store hS (by have := Hbx.out; have := hz0.out; omega) (p := p2) (T := 47) (cs := #[.slice none 0 0]) (List.Mem.tail _ (List.Mem.tail _ (List.Mem.head _))) rfl (.slice (some ⟨g2, 0, none⟩) n n)
              rw [hw]
              clear hw cc ff
              refine hK.out _ _ hS' (fun hS => ?_)
              clear hK K hS'
              try simp only [Act.put, List.setIfInBounds_toArray, List.set_cons_zero, List.set_cons_succ]
              refine wpAnyH_done (by kernel_rfl) ?_ _
              have q1 := M.out.at (p := p1) (T := 52) (cs := #[.slice (some ⟨g1, 0, none⟩) n n]) (List.Mem.tail _ (List.Mem.head _))
              have q2 := M.out.at (p := p2) (T := 47) (cs := #[.slice (some ⟨g2, 0, none⟩) n n]) (List.Mem.head _)
              have q3 := M.out.at (p := g1) (T := 69) (cs := Array.replicate n (.pointer none)) (List.Mem.tail _ (List.Mem.tail _ (List.Mem.head _)))
              have q4 := M.out.at (p := g2) (T := 4) (cs := Array.replicate n (.bool false)) (List.Mem.tail _ (List.Mem.tail _ (List.Mem.tail _ (List.Mem.head _))))
              have LO : Hid (W0.heap.size ≤ p1 ∧ W0.heap.size ≤ p2 ∧ W0.heap.size ≤ g1 ∧ W0.heap.size ≤ g2) := Lib.hid (by rw [hz0.out]; exact ⟨q1.1, q2.1, q3.1, q4.1⟩)
              replace q1 := Lib.hid q1.2
              replace q2 := Lib.hid q2.2
              replace q3 := Lib.hid q3.2
              replace q4 := Lib.hid q4.2
              go_wp2_with fail
              go_meet
              exact ⟨p1, p2, g1, g2, rfl, rfl, LO, q1, q2, q3, q4, Lib.hid (by rw [hz0.out]; exact BB.out.trans M.out.2.1)⟩
          · go_simp
            obtain ⟨p2, hp2⟩ : ∃ q, q = w1.heap.size := ⟨_, rfl⟩
            rw [← hp2]
            obtain ⟨w2, hw, hS', M⟩ := M.out.alloc hS 47 #[.slice none 0 0] hp2
            rw [hw]
            clear hw hp2
            refine hK.out _ _ hS' (fun hS => ?_)
            clear hK K hS'
            try simp only [Act.put, List.setIfInBounds_toArray, List.set_cons_zero, List.set_cons_succ]
            refine wpAnyH_ready (rs := [2, 6]) (by kernel_rfl) (by simp) ?_
            refine AllReadyH.cons rfl (fun K hK => ?_) (AllReadyH.cons rfl (fun K hK => ?_) AllReadyH.nil)
            · go_simp
              obtain ⟨g1, hg1⟩ : ∃ q, q = w2.heap.size := ⟨_, rfl⟩
              rw [← hg1]
              obtain ⟨w3, hw, hS', M⟩ := M.out.alloc hS 69 (Array.replicate n (.pointer none)) hg1
              rw [hw]
              clear hw hg1
              refine hK.out _ _ hS' (fun hS => ?_)
              clear hK K hS'
              try simp only [Act.put, List.setIfInBounds_toArray, List.set_cons_zero, List.set_cons_succ]
              refine wpAnyH_ready (rs := [6]) (by kernel_rfl) (by simp) ?_
              refine AllReadyH.cons rfl (fun K hK => ?_) AllReadyH.nil
              go_simp
              obtain ⟨p1, hp1⟩ : ∃ q, q = w3.heap.size := ⟨_, rfl⟩
              rw [← hp1]
              obtain ⟨w4, hw, hS', M⟩ := M.out.alloc hS 52 #[.slice none 0 0] hp1
              rw [hw]
              clear hw hp1
              refine hK.out _ _ hS' (fun hS => ?_)
              clear hK K hS'
              try simp only [Act.put, List.setIfInBounds_toArray, List.set_cons_zero, List.set_cons_succ]
              refine wpAnyH_ready (rs := [8]) (by kernel_rfl) (by simp) ?_
              refine AllReadyH.cons rfl (fun K hK => ?_) AllReadyH.nil
              obtain ⟨cc, ff⟩ := M.out.one (p := p1) (T := 52) (v := .slice none 0 0) (List.Mem.head _)
              go_simp
              obtain ⟨w5, hw, hS', M⟩ := M.out.store hS (by have := Hbx.out; have := hz0.out; omega) (p := p1) (T := 52) (cs := #[.slice none 0 0]) (List.Mem.head _) rfl (.slice (some ⟨g1, 0, none⟩) n n)
              rw [hw]
              clear hw cc ff
              refine hK.out _ _ hS' (fun hS => ?_)
              clear hK K hS'
              try simp only [Act.put, List.setIfInBounds_toArray, List.set_cons_zero, List.set_cons_succ]
              refine wpAnyH_ready (rs := [9]) (by kernel_rfl) (by simp) ?_
              refine AllReadyH.cons rfl (fun K hK => ?_) AllReadyH.nil
              obtain ⟨cc, ff⟩ := M.out.one (p := p2) (T := 47) (v := .slice none 0 0) (List.Mem.tail _ (List.Mem.tail _ (List.Mem.head _)))
              go_simp
              obtain ⟨w6, hw, hS', M⟩ := M.out.store hS (by have := Hbx.out; have := hz0.out; omega) (p := p2) (T := 47) (cs := #[.slice none 0 0]) (List.Mem.tail _ (List.Mem.tail _ (List.Mem.head _))) rfl (.slice (some ⟨g2, 0, none⟩) n n)
              rw [hw]
              clear hw cc ff
              refine hK.out _ _ hS' (fun hS => ?_)
              clear hK K hS'
              try simp only [Act.put, List.setIfInBounds_toArray, List.set_cons_zero, List.set_cons_succ]
              refine wpAnyH_done (by kernel_rfl) ?_ _
              have q1 := M.out.at (p := p1) (T := 52) (cs := #[.slice (some ⟨g1, 0, none⟩) n n]) (List.Mem.tail _ (List.Mem.head _))
              have q2 := M.out.at (p := p2) (T := 47) (cs := #[.slice (some ⟨g2, 0, none⟩) n n]) (List.Mem.head _)
              have q3 := M.out.at (p := g1) (T := 69) (cs := Array.replicate n (.pointer none)) (List.Mem.tail _ (List.Mem.tail _ (List.Mem.head _)))
              have q4 := M.out.at (p := g2) (T := 4) (cs := Array.replicate n (.bool false)) (List.Mem.tail _ (List.Mem.tail _ (List.Mem.tail _ (List.Mem.head _))))
              have LO : Hid (W0.heap.size ≤ p1 ∧ W0.heap.size ≤ p2 ∧ W0.heap.size ≤ g1 ∧ W0.heap.size ≤ g2) := Lib.hid (by rw [hz0.out]; exact ⟨q1.1, q2.1, q3.1, q4.1⟩)
              replace q1 := Lib.hid q1.2
              replace q2 := Lib.hid q2.2
              replace q3 := Lib.hid q3.2
              replace q4 := Lib.hid q4.2
              go_wp2_with fail
              go_meet
              exact ⟨p1, p2, g1, g2, rfl, rfl, LO, q1, q2, q3, q4, Lib.hid (by rw [hz0.out]; exact BB.out.trans M.out.2.1)⟩
            · go_simp
              obtain ⟨p1, hp1⟩ : ∃ q, q = w2.heap.size := ⟨_, rfl⟩
              rw [← hp1]
              obtain ⟨w3, hw, hS', M⟩ := M.out.alloc hS 52 #[.slice none 0 0] hp1
              rw [hw]
              clear hw hp1
              refine hK.out _ _ hS' (fun hS => ?_)
              clear hK K hS'
              try simp only [Act.put, List.setIfInBounds_toArray, List.set_cons_zero, List.set_cons_succ]
              refine wpAnyH_ready (rs := [2]) (by kernel_rfl) (by simp) ?_
              refine AllReadyH.cons rfl (fun K hK => ?_) AllReadyH.nil
              go_simp
              obtain ⟨g1, hg1⟩ : ∃ q, q = w3.heap.size := ⟨_, rfl⟩
              rw [← hg1]
              obtain ⟨w4, hw, hS', M⟩ := M.out.alloc hS 69 (Array.replicate n (.pointer none)) hg1
              rw [hw]
              clear hw hg1
              refine hK.out _ _ hS' (fun hS => ?_)
              clear hK K hS'
              try simp only [Act.put, List.setIfInBounds_toArray, List.set_cons_zero, List.set_cons_succ]
              refine wpAnyH_ready (rs := [8]) (by kernel_rfl) (by simp) ?_
              refine AllReadyH.cons rfl (fun K hK => ?_) AllReadyH.nil
              obtain ⟨cc, ff⟩ := M.out.one (p := p1) (T := 52) (v := .slice none 0 0) (List.Mem.tail _ (List.Mem.head _))
              go_simp
              obtain ⟨w5, hw, hS', M⟩ := M.out.store hS (by have := Hbx.out; have := hz0.out; omega) (p := p1) (T := 52) (cs := #[.slice none 0 0]) (List.Mem.tail _ (List.Mem.head _)) rfl (.slice (some ⟨g1, 0, none⟩) n n)
              rw [hw]
              clear hw cc ff
              refine hK.out _ _ hS' (fun hS => ?_)
              clear hK K hS'
              try simp only [Act.put, List.setIfInBounds_toArray, List.set_cons_zero, List.set_cons_succ]
              refine wpAnyH_ready (rs := [9]) (by kernel_rfl) (by simp) ?_
              refine AllReadyH.cons rfl (fun K hK => ?_) AllReadyH.nil
              obtain ⟨cc, ff⟩ := M.out.one (p := p2) (T := 47) (v := .slice none 0 0) (List.Mem.tail _ (List.Mem.tail _ (List.Mem.head _)))
              go_simp
              obtain ⟨w6, hw, hS', M⟩ := M.out.store hS (by have := Hbx.out; have := hz0.out; omega) (p := p2) (T := 47) (cs := #[.slice none 0 0]) (List.Mem.tail _ (List.Mem.tail _ (List.Mem.head _))) rfl (.slice (some ⟨g2, 0, none⟩) n n)
              rw [hw]
              clear hw cc ff
              refine hK.out _ _ hS' (fun hS => ?_)
              clear hK K hS'
              try simp only [Act.put, List.setIfInBounds_toArray, List.set_cons_zero, List.set_cons_succ]
              refine wpAnyH_done (by kernel_rfl) ?_ _
              have q1 := M.out.at (p := p1) (T := 52) (cs := #[.slice (some ⟨g1, 0, none⟩) n n]) (List.Mem.tail _ (List.Mem.head _))
              have q2 := M.out.at (p := p2) (T := 47) (cs := #[.slice (some ⟨g2, 0, none⟩) n n]) (List.Mem.head _)
              have q3 := M.out.at (p := g1) (T := 69) (cs := Array.replicate n (.pointer none)) (List.Mem.tail _ (List.Mem.tail _ (List.Mem.head _)))
              have q4 := M.out.at (p := g2) (T := 4) (cs := Array.replicate n (.bool false)) (List.Mem.tail _ (List.Mem.tail _ (List.Mem.tail _ (List.Mem.head _))))
              have LO : Hid (W0.heap.size ≤ p1 ∧ W0.heap.size ≤ p2 ∧ W0.heap.size ≤ g1 ∧ W0.heap.size ≤ g2) := Lib.hid (by rw [hz0.out]; exact ⟨q1.1, q2.1, q3.1, q4.1⟩)
              replace q1 := Lib.hid q1.2
              replace q2 := Lib.hid q2.2
              replace q3 := Lib.hid q3.2
              replace q4 := Lib.hid q4.2
              go_wp2_with fail
              go_meet
              exact ⟨p1, p2, g1, g2, rfl, rfl, LO, q1, q2, q3, q4, Lib.hid (by rw [hz0.out]; exact BB.out.trans M.out.2.1)⟩
        · go_simp
          obtain ⟨p1, hp1⟩ : ∃ q, q = w0.heap.size := ⟨_, rfl⟩
          rw [← hp1]
          obtain ⟨w1, hw, hS', M⟩ := M.out.alloc hS 52 #[.slice none 0 0] hp1
          rw [hw]
          clear hw hp1
          refine hK.out _ _ hS' (fun hS => ?_)
          clear hK K hS'
          try simp only [Act.put, List.setIfInBounds_toArray, List.set_cons_zero, List.set_cons_succ]
          refine wpAnyH_ready (rs := [2, 5, 7]) (by kernel_rfl) (by simp) ?_
          refine AllReadyH.cons rfl (fun K hK => ?_) (AllReadyH.cons rfl (fun K hK => ?_) (AllReadyH.cons rfl (fun K hK => ?_) AllReadyH.nil))
          · go_simp
            obtain ⟨g1, hg1⟩ : ∃ q, q = w1.heap.size := ⟨_, rfl⟩
            rw [← hg1]
            obtain ⟨w2, hw, hS', M⟩ := M.out.alloc hS 69 (Array.replicate n (.pointer none)) hg1
            rw [hw]
            clear hw hg1
            refine hK.out _ _ hS' (fun hS => ?_)
            clear hK K hS'
            try simp only [Act.put, List.setIfInBounds_toArray, List.set_cons_zero, List.set_cons_succ]
            refine wpAnyH_ready (rs := [5, 7]) (by kernel_rfl) (by simp) ?_
            refine AllReadyH.cons rfl (fun K hK => ?_) (AllReadyH.cons rfl (fun K hK => ?_) AllReadyH.nil)
            · go_simp
              obtain ⟨g2, hg2⟩ : ∃ q, q = w2.heap.size := ⟨_, rfl⟩
              rw [← hg2]
              obtain ⟨w3, hw, hS', M⟩ := M.out.alloc hS 4 (Array.replicate n (.bool false)) hg2
              rw [hw]
              clear hw hg2
              refine hK.out _ _ hS' (fun hS => ?_)
              clear hK K hS'
              try simp only [Act.put, List.setIfInBounds_toArray, List.set_cons_zero, List.set_cons_succ]
              refine wpAnyH_ready (rs := [7]) (by kernel_rfl) (by simp) ?_
              refine AllReadyH.cons rfl (fun K hK => ?_) AllReadyH.nil
              go_simp
              obtain ⟨p2, hp2⟩ : ∃ q, q = w3.heap.size := ⟨_, rfl⟩
              rw [← hp2]
              obtain ⟨w4, hw, hS', M⟩ := M.out.alloc hS 47 #[.slice none 0 0] hp2
              rw [hw]
              clear hw hp2
              refine hK.out _ _ hS' (fun hS => ?_)
              clear hK K hS'
              try simp only [Act.put, List.setIfInBounds_toArray, List.set_cons_zero, List.set_cons_succ]
              refine wpAnyH_ready (rs := [8]) (by kernel_rfl) (by simp) ?_
              refine AllReadyH.cons rfl (fun K hK => ?_) AllReadyH.nil
              obtain ⟨cc, ff⟩ := M.out.one (p := p1) (T := 52) (v := .slice none 0 0) (List.Mem.tail _ (List.Mem.tail _ (List.Mem.tail _ (List.Mem.head _))))
              go_simp
              obtain ⟨w5, hw, hS', M⟩ := M.out.store hS (by have := Hbx.out; have := hz0.out; omega) (p := p1) (T := 52) (cs := #[.slice none 0 0]) (List.Mem.tail _ (List.Mem.tail _ (List.Mem.tail _ (List.Mem.head _)))) rfl (.slice (some ⟨g1, 0, none⟩) n n)
              rw [hw]
              clear hw cc ff
              refine hK.out _ _ hS' (fun hS => ?_)
              clear hK K hS'
              try simp only [Act.put, List.setIfInBounds_toArray, List.set_cons_zero, List.set_cons_succ]
              refine wpAnyH_ready (rs := [9]) (by kernel_rfl) (by simp) ?_
              refine AllReadyH.cons rfl (fun K hK => ?_) AllReadyH.nil
              obtain ⟨cc, ff⟩ := M.out.one (p := p2) (T := 47) (v := .slice none 0 0) (List.Mem.tail _ (List.Mem.head _))
              go_simp
              obtain ⟨w6, hw, hS', M⟩ := M.out.store hS (by have := Hbx.out; have := hz0.out; omega) (p := p2) (T := 47) (cs := #[.slice none 0 0]) (List.Mem.tail _ (List.Mem.head _)) rfl (.slice (some ⟨g2, 0, none⟩) n n)
              rw [hw]
              clear hw cc ff
              refine hK.out _ _ hS' (fun hS => ?_)
              clear hK K hS'
              try simp only [Act.put, List.setIfInBounds_toArray, List.set_cons_zero, List.set_cons_succ]
              refine wpAnyH_done (by kernel_rfl) ?_ _
              have q1 := M.out.at (p := p1) (T := 52) (cs := #[.slice (some ⟨g1, 0, none⟩) n n]) (List.Mem.tail _ (List.Mem.head _))
              have q2 := M.out.at (p := p2) (T := 47) (cs := #[.slice (some ⟨g2, 0, none⟩) n n]) (List.Mem.head _)
              have q3 := M.out.at (p := g1) (T := 69) (cs := Array.replicate n (.pointer none)) (List.Mem.tail _ (List.Mem.tail _ (List.Mem.tail _ (List.Mem.head _))))
              have q4 := M.out.at (p := g2) (T := 4) (cs := Array.replicate n (.bool false)) (List.Mem.tail _ (List.Mem.tail _ (List.Mem.head _)))
              have LO : Hid (W0.heap.size ≤ p1 ∧ W0.heap.size ≤ p2 ∧ W0.heap.size ≤ g1 ∧ W0.heap.size ≤ g2) := Lib.hid (by rw [hz0.out]; exact ⟨q1.1, q2.1, q3.1, q4.1⟩)
              replace q1 := Lib.hid q1.2
              replace q2 := Lib.hid q2.2
              replace q3 := Lib.hid q3.2
              replace q4 := Lib.hid q4.2
              go_wp2_with fail
              go_meet
              exact ⟨p1, p2, g1, g2, rfl, rfl, LO, q1, q2, q3, q4, Lib.hid (by rw [hz0.out]; exact BB.out.trans M.out.2.1)⟩
            · go_simp
              obtain ⟨p2, hp2⟩ : ∃ q, q = w2.heap.size := ⟨_, rfl⟩
              rw [← hp2]
              obtain ⟨w3, hw, hS', M⟩ := M.out.alloc hS 47 #[.slice none 0 0] hp2
              rw [hw]
              clear hw hp2
              refine hK.out _ _ hS' (fun hS => ?_)
              clear hK K hS'
              try simp only [Act.put, List.setIfInBounds_toArray, List.set_cons_zero, List.set_cons_succ]
              refine wpAnyH_ready (rs := [5, 8]) (by kernel_rfl) (by simp) ?_
              refine AllReadyH.cons rfl (fun K hK => ?_) (AllReadyH.cons rfl (fun K hK => ?_) AllReadyH.nil)
              · go_simp
                obtain ⟨g2, hg2⟩ : ∃ q, q = w3.heap.size := ⟨_, rfl⟩
                rw [← hg2]
                obtain ⟨w4, hw, hS', M⟩ := M.out.alloc hS 4 (Array.replicate n (.bool false)) hg2
                rw [hw]
                clear hw hg2
                refine hK.out _ _ hS' (fun hS => ?_)
                clear hK K hS'
                try simp only [Act.put, List.setIfInBounds_toArray, List.set_cons_zero, List.set_cons_succ]
                refine wpAnyH_ready (rs := [8]) (by kernel_rfl) (by simp) ?_
                refine AllReadyH.cons rfl (fun K hK => ?_) AllReadyH.nil
                obtain ⟨cc, ff⟩ := M.out.one (p := p1) (T := 52) (v := .slice none 0 0) (List.Mem.tail _ (List.Mem.tail _ (List.Mem.tail _ (List.Mem.head _))))
                go_simp
                obtain ⟨w5, hw, hS', M⟩ := M.out.store hS (by have := Hbx.out; have := hz0.out; omega) (p := p1) (T := 52) (cs := #[.slice none 0 0]) (List.Mem.tail _ (List.Mem.tail _ (List.Mem.tail _ (List.Mem.head _)))) rfl (.slice (some ⟨g1, 0, none⟩) n n)
                rw [hw]
                clear hw cc ff
                refine hK.out _ _ hS' (fun hS => ?_)
                clear hK K hS'
                try simp only [Act.put, List.setIfInBounds_toArray, List.set_cons_zero, List.set_cons_succ]
                refine wpAnyH_ready (rs := [9]) (by kernel_rfl) (by simp) ?_
                refine AllReadyH.cons rfl (fun K hK => ?_) AllReadyH.nil
                obtain ⟨cc, ff⟩ := M.out.one (p := p2) (T := 47) (v := .slice none 0 0) (List.Mem.tail _ (List.Mem.tail _ (List.Mem.head _)))
                go_simp
                obtain ⟨w6, hw, hS', M⟩ := M.out.store hS (by have := Hbx.out; have := hz0.out; omega) (p := p2) (T := 47) (cs := #[.slice none 0 0]) (List.Mem.tail _ (List.Mem.tail _ (List.Mem.head _))) rfl (.slice (some ⟨g2, 0, none⟩) n n)
                rw [hw]
                clear hw cc ff
                refine hK.out _ _ hS' (fun hS => ?_)
                clear hK K hS'
                try simp only [Act.put, List.setIfInBounds_toArray, List.set_cons_zero, List.set_cons_succ]
                refine wpAnyH_done (by kernel_rfl) ?_ _
                have q1 := M.out.at (p := p1) (T := 52) (cs := #[.slice (some ⟨g1, 0, none⟩) n n]) (List.Mem.tail _ (List.Mem.head _))
                have q2 := M.out.at (p := p2) (T := 47) (cs := #[.slice (some ⟨g2, 0, none⟩) n n]) (List.Mem.head _)
                have q3 := M.out.at (p := g1) (T := 69) (cs := Array.replicate n (.pointer none)) (List.Mem.tail _ (List.Mem.tail _ (List.Mem.tail _ (List.Mem.head _))))
                have q4 := M.out.at (p := g2) (T := 4) (cs := Array.replicate n (.bool false)) (List.Mem.tail _ (List.Mem.tail _ (List.Mem.head _)))
                have LO : Hid (W0.heap.size ≤ p1 ∧ W0.heap.size ≤ p2 ∧ W0.heap.size ≤ g1 ∧ W0.heap.size ≤ g2) := Lib.hid (by rw [hz0.out]; exact ⟨q1.1, q2.1, q3.1, q4.1⟩)
                replace q1 := Lib.hid q1.2
                replace q2 := Lib.hid q2.2
                replace q3 := Lib.hid q3.2
                replace q4 := Lib.hid q4.2
                go_wp2_with fail
                go_meet
                exact ⟨p1, p2, g1, g2, rfl, rfl, LO, q1, q2, q3, q4, Lib.hid (by rw [hz0.out]; exact BB.out.trans M.out.2.1)⟩
              · obtain ⟨cc, ff⟩ := M.out.one (p := p1) (T := 52) (v := .slice none 0 0) (List.Mem.tail _ (List.Mem.tail _ (List.Mem.head _)))
                go_simp
                obtain ⟨w4, hw, hS', M⟩ := M.out.store hS (by have := Hbx.out; have := hz0.out; omega) (p := p1) (T := 52) (cs := #[.slice none 0 0]) (List.Mem.tail _ (List.Mem.tail _ (List.Mem.head _))) rfl (.slice (some ⟨g1, 0, none⟩) n n)
                rw [hw]
                clear hw cc ff
                refine hK.out _ _ hS' (fun hS => ?_)
                clear hK K hS'
                try simp only [Act.put, List.setIfInBounds_toArray, List.set_cons_zero, List.set_cons_succ]
                refine wpAnyH_ready (rs := [5]) (by kernel_rfl) (by simp) ?_
                refine AllReadyH.cons rfl (fun K hK => ?_) AllReadyH.nil
                go_simp
                obtain ⟨g2, hg2⟩ : ∃ q, q = w4.heap.size := ⟨_, rfl⟩
                rw [← hg2]
                obtain ⟨w5, hw, hS', M⟩ := M.out.alloc hS 4 (Array.replicate n (.bool false)) hg2
                rw [hw]
                clear hw hg2
                refine hK.out _ _ hS' (fun hS => ?_)
                clear hK K hS'
                try simp only [Act.put, List.setIfInBounds_toArray, List.set_cons_zero, List.set_cons_succ]
                refine wpAnyH_ready (rs := [9]) (by kernel_rfl) (by simp) ?_
                refine AllReadyH.cons rfl (fun K hK => ?_) AllReadyH.nil
                obtain ⟨cc, ff⟩ := M.out.one (p := p2) (T := 47) (v := .slice none 0 0) (List.Mem.tail _ (List.Mem.tail _ (List.Mem.head _)))
                go_simp
                obtain ⟨w6, hw, hS', M⟩ := M.out.store hS (by have := Hbx.out; have := hz0.out; omega) (p := p2) (T := 47) (cs := #[.slice none 0 0]) (List.Mem.tail _ (List.Mem.tail _ (List.Mem.head _))) rfl (.slice (some ⟨g2, 0, none⟩) n n)
                rw [hw]
                clear hw cc ff
                refine hK.out _ _ hS' (fun hS => ?_)
                clear hK K hS'
                try simp only [Act.put, List.setIfInBounds_toArray, List.set_cons_zero, List.set_cons_succ]
                refine wpAnyH_done (by kernel_rfl) ?_ _
                have q1 := M.out.at (p := p1) (T := 52) (cs := #[.slice (some ⟨g1, 0, none⟩) n n]) (List.Mem.tail _ (List.Mem.tail _ (List.Mem.head _)))
                have q2 := M.out.at (p := p2) (T := 47) (cs := #[.slice (some ⟨g2, 0, none⟩) n n]) (List.Mem.head _)
                have q3 := M.out.at (p := g1) (T := 69) (cs := Array.replicate n (.pointer none)) (List.Mem.tail _ (List.Mem.tail _ (List.Mem.tail _ (List.Mem.head _))))
                have q4 := M.out.at (p := g2) (T := 4) (cs := Array.replicate n (.bool false)) (List.Mem.tail _ (List.Mem.head _))
                have LO : Hid (W0.heap.size ≤ p1 ∧ W0.heap.size ≤ p2 ∧ W0.heap.size ≤ g1 ∧ W0.heap.size ≤ g2) := Lib.hid (by rw [hz0.out]; exact ⟨q1.1, q2.1, q3.1, q4.1⟩)
                replace q1 := Lib.hid q1.2
                replace q2 := Lib.hid q2.2
                replace q3 := Lib.hid q3.2
                replace q4 := Lib.hid q4.2
                go_wp2_with fail
                go_meet
                exact ⟨p1, p2, g1, g2, rfl, rfl, LO, q1, q2, q3, q4, Lib.hid (by rw [hz0.out]; exact BB.out.trans M.out.2.1)⟩
          · go_simp
            obtain ⟨g2, hg2⟩ : ∃ q, q = w1.heap.size := ⟨_, rfl⟩
            rw [← hg2]
            obtain ⟨w2, hw, hS', M⟩ := M.out.alloc hS 4 (Array.replicate n (.bool false)) hg2
            rw [hw]
            clear hw hg2
            refine hK.out _ _ hS' (fun hS => ?_)
            clear hK K hS'
            try simp only [Act.put, List.setIfInBounds_toArray, List.set_cons_zero, List.set_cons_succ]
            refine wpAnyH_ready (rs := [2, 7]) (by kernel_rfl) (by simp) ?_
            refine AllReadyH.cons rfl (fun K hK => ?_) (AllReadyH.cons rfl (fun K hK => ?_) AllReadyH.nil)
            · go_simp
              obtain ⟨g1, hg1⟩ : ∃ q, q = w2.heap.size := ⟨_, rfl⟩
              rw [← hg1]
              obtain ⟨w3, hw, hS', M⟩ := M.out.alloc hS 69 (Array.replicate n (.pointer none)) hg1
              rw [hw]
              clear hw hg1
              refine hK.out _ _ hS' (fun hS => ?_)
              clear hK K hS'
              try simp only [Act.put, List.setIfInBounds_toArray, List.set_cons_zero, List.set_cons_succ]
              refine wpAnyH_ready (rs := [7]) (by kernel_rfl) (by simp) ?_
              refine AllReadyH.cons rfl (fun K hK => ?_) AllReadyH.nil
              go_simp
              obtain ⟨p2, hp2⟩ : ∃ q, q = w3.heap.size := ⟨_, rfl⟩
              rw [← hp2]
              obtain ⟨w4, hw, hS', M⟩ := M.out.alloc hS 47 #[.slice none 0 0] hp2
              rw [hw]
              clear hw hp2
              refine hK.out _ _ hS' (fun hS => ?_)
              clear hK K hS'
              try simp only [Act.put, List.setIfInBounds_toArray, List.set_cons_zero, List.set_cons_succ]
              refine wpAnyH_ready (rs := [8]) (by kernel_rfl) (by simp) ?_
              refine AllReadyH.cons rfl (fun K hK => ?_) AllReadyH.nil
              obtain ⟨cc, ff⟩ := M.out.one (p := p1) (T := 52) (v := .slice none 0 0) (List.Mem.tail _ (List.Mem.tail _ (List.Mem.tail _ (List.Mem.head _))))
              go_simp
              obtain ⟨w5, hw, hS', M⟩ := M.out.store hS (by have := Hbx.out; have := hz0.out; omega) (p := p1) (T := 52) (cs := #[.slice none 0 0]) (List.Mem.tail _ (List.Mem.tail _ (List.Mem.tail _ (List.Mem.head _)))) rfl (.slice (some ⟨g1, 0, none⟩) n n)
              rw [hw]
              clear hw cc ff
              refine hK.out _ _ hS' (fun hS => ?_)
              clear hK K hS'
              try simp only [Act.put, List.setIfInBounds_toArray, List.set_cons_zero, List.set_cons_succ]
              refine wpAnyH_ready (rs := [9]) (by kernel_rfl) (by simp) ?_
              refine AllReadyH.cons rfl (fun K hK => ?_) AllReadyH.nil
              obtain ⟨cc, ff⟩ := M.out.one (p := p2) (T := 47) (v := .slice none 0 0) (List.Mem.tail _ (List.Mem.head _))
              go_simp
              obtain ⟨w6, hw, hS', M⟩ := M.out.store hS (by have := Hbx.out; have := hz0.out; omega) (p := p2) (T := 47) (cs := #[.slice none 0 0]) (List.Mem.tail _ (List.Mem.head _)) rfl (.slice (some ⟨g2, 0, none⟩) n n)
              rw [hw]
              clear hw cc ff
              refine hK.out _ _ hS' (fun hS => ?_)
              clear hK K hS'
              try simp only [Act.put, List.setIfInBounds_toArray, List.set_cons_zero, List.set_cons_succ]
              refine wpAnyH_done (by kernel_rfl) ?_ _
              have q1 := M.out.at (p := p1) (T := 52) (cs := #[.slice (some ⟨g1, 0, none⟩) n n]) (List.Mem.tail _ (List.Mem.head _))
              have q2 := M.out.at (p := p2) (T := 47) (cs := #[.slice (some ⟨g2, 0, none⟩) n n]) (List.Mem.head _)
              have q3 := M.out.at (p := g1) (T := 69) (cs := Array.replicate n (.pointer none)) (List.Mem.tail _ (List.Mem.tail _ (List.Mem.head _)))
              have q4 := M.out.at (p := g2) (T := 4) (cs := Array.replicate n (.bool false)) (List.Mem.tail _ (List.Mem.tail _ (List.Mem.tail _ (List.Mem.head _))))
              have LO : Hid (W0.heap.size ≤ p1 ∧ W0.heap.size ≤ p2 ∧ W0.heap.size ≤ g1 ∧ W0.heap.size ≤ g2) := Lib.hid (by rw [hz0.out]; exact ⟨q1.1, q2.1, q3.1, q4.1⟩)
              replace q1 := Lib.hid q1.2
              replace q2 := Lib.hid q2.2
              replace q3 := Lib.hid q3.2
              replace q4 := Lib.hid q4.2
              go_wp2_with fail
              go_meet
              exact ⟨p1, p2, g1, g2, rfl, rfl, LO, q1, q2, q3, q4, Lib.hid (by rw [hz0.out]; exact BB.out.trans M.out.2.1)⟩
            · go_simp
              obtain ⟨p2, hp2⟩ : ∃ q, q = w2.heap.size := ⟨_, rfl⟩
              rw [← hp2]
              obtain ⟨w3, hw, hS', M⟩ := M.out.alloc hS 47 #[.slice none 0 0] hp2
              rw [hw]
              clear hw hp2
              refine hK.out _ _ hS' (fun hS => ?_)
              clear hK K hS'
              try simp only [Act.put, List.setIfInBounds_toArray, List.set_cons_zero, List.set_cons_succ]
              refine wpAnyH_ready (rs := [2]) (by kernel_rfl) (by simp) ?_
              refine AllReadyH.cons rfl (fun K hK => ?_) AllReadyH.nil
              go_simp
              obtain ⟨g1, hg1⟩ : ∃ q, q = w3.heap.size := ⟨_, rfl⟩
              rw [← hg1]
              obtain ⟨w4, hw, hS', M⟩ := M.out.alloc hS 69 (Array.replicate n (.pointer none)) hg1
              rw [hw]
              clear hw hg1
              refine hK.out _ _ hS' (fun hS => ?_)
              clear hK K hS'
              try simp only [Act.put, List.setIfInBounds_toArray, List.set_cons_zero, List.set_cons_succ]
              refine wpAnyH_ready (rs := [8]) (by kernel_rfl) (by simp) ?_
              refine AllReadyH.cons rfl (fun K hK => ?_) AllReadyH.nil
              obtain ⟨cc, ff⟩ := M.out.one (p := p1) (T := 52) (v := .slice none 0 0) (List.Mem.tail _ (List.Mem.tail _ (List.Mem.tail _ (List.Mem.head _))))
              go_simp
              obtain ⟨w5, hw, hS', M⟩ := M.out.store hS (by have := Hbx.out; have := hz0.out; omega) (p := p1) (T := 52) (cs := #[.slice none 0 0]) (List.Mem.tail _ (List.Mem.tail _ (List.Mem.tail _ (List.Mem.head _)))) rfl (.slice (some ⟨g1, 0, none⟩) n n)
              rw [hw]
              clear hw cc ff
              refine hK.out _ _ hS' (fun hS => ?_)
              clear hK K hS'
              try simp only [Act.put, List.setIfInBounds_toArray, List.set_cons_zero, List.set_cons_succ]
              refine wpAnyH_ready (rs := [9]) (by kernel_rfl) (by simp) ?_
              refine AllReadyH.cons rfl (fun K hK => ?_) AllReadyH.nil
              obtain ⟨cc, ff⟩ := M.out.one (p := p2) (T := 47) (v := .slice none 0 0) (List.Mem.tail _ (List.Mem.tail _ (List.Mem.head _)))
              go_simp
              obtain ⟨w6, hw, hS', M⟩ := M.out.store hS (by have := Hbx.out; have := hz0.out; omega) (p := p2) (T := 47) (cs := #[.slice none 0 0]) (List.Mem.tail _ (List.Mem.tail _ (List.Mem.head _))) rfl (.slice (some ⟨g2, 0, none⟩) n n)
              rw [hw]
              clear hw cc ff
              refine hK.out _ _ hS' (fun hS => ?_)
              clear hK K hS'
              try simp only [Act.put, List.setIfInBounds_toArray, List.set_cons_zero, List.set_cons_succ]
              refine wpAnyH_done (by kernel_rfl) ?_ _
              have q1 := M.out.at (p := p1) (T := 52) (cs := #[.slice (some ⟨g1, 0, none⟩) n n]) (List.Mem.tail _ (List.Mem.head _))
              have q2 := M.out.at (p := p2) (T := 47) (cs := #[.slice (some ⟨g2, 0, none⟩) n n]) (List.Mem.head _)
              have q3 := M.out.at (p := g1) (T := 69) (cs := Array.replicate n (.pointer none)) (List.Mem.tail _ (List.Mem.tail _ (List.Mem.head _)))
              have q4 := M.out.at (p := g2) (T := 4) (cs := Array.replicate n (.bool false)) (List.Mem.tail _ (List.Mem.tail _ (List.Mem.tail _ (List.Mem.head _))))
              have LO : Hid (W0.heap.size ≤ p1 ∧ W0.heap.size ≤ p2 ∧ W0.heap.size ≤ g1 ∧ W0.heap.size ≤ g2) := Lib.hid (by rw [hz0.out]; exact ⟨q1.1, q2.1, q3.1, q4.1⟩)
              replace q1 := Lib.hid q1.2
              replace q2 := Lib.hid q2.2
              replace q3 := Lib.hid q3.2
              replace q4 := Lib.hid q4.2
              go_wp2_with fail
              go_meet
              exact ⟨p1, p2, g1, g2, rfl, rfl, LO, q1, q2, q3, q4, Lib.hid (by rw [hz0.out]; exact BB.out.trans M.out.2.1)⟩
          · go_simp
            obtain ⟨p2, hp2⟩ : ∃ q, q = w1.heap.size := ⟨_, rfl⟩
            rw [← hp2]
            obtain ⟨w2, hw, hS', M⟩ := M.out.alloc hS 47 #[.slice none 0 0] hp2
            rw [hw]
            clear hw hp2
            refine hK.out _ _ hS' (fun hS => ?_)
            clear hK K hS'
            try simp only [Act.put, List.setIfInBounds_toArray, List.set_cons_zero, List.set_cons_succ]
            refine wpAnyH_ready (rs := [2, 5]) (by kernel_rfl) (by simp) ?_
            refine AllReadyH.cons rfl (fun K hK => ?_) (AllReadyH.cons rfl (fun K hK => ?_) AllReadyH.nil)
            · go_simp
              obtain ⟨g1, hg1⟩ : ∃ q, q = w2.heap.size := ⟨_, rfl⟩
              rw [← hg1]
              obtain ⟨w3, hw, hS', M⟩ := M.out.alloc hS 69 (Array.replicate n (.pointer none)) hg1
              rw [hw]
              clear hw hg1
              refine hK.out _ _ hS' (fun hS => ?_)
              clear hK K hS'
              try simp only [Act.put, List.setIfInBounds_toArray, List.set_cons_zero, List.set_cons_succ]
              refine wpAnyH_ready (rs := [5, 8]) (by kernel_rfl) (by simp) ?_
              refine AllReadyH.cons rfl (fun K hK => ?_) (AllReadyH.cons rfl (fun K hK => ?_) AllReadyH.nil)
              · go_simp
                obtain ⟨g2, hg2⟩ : ∃ q, q = w3.heap.size := ⟨_, rfl⟩
                rw [← hg2]
                obtain ⟨w4, hw, hS', M⟩ := M.out.alloc hS 4 (Array.replicate n (.bool false)) hg2
                rw [hw]
                clear hw hg2
                refine hK.out _ _ hS' (fun hS => ?_)
                clear hK K hS'
                try simp only [Act.put, List.setIfInBounds_toArray, List.set_cons_zero, List.set_cons_succ]
                refine wpAnyH_ready (rs := [8]) (by kernel_rfl) (by simp) ?_
                refine AllReadyH.cons rfl (fun K hK => ?_) AllReadyH.nil
                obtain ⟨cc, ff⟩ := M.out.one (p := p1) (T := 52) (v := .slice none 0 0) (List.Mem.tail _ (List.Mem.tail _ (List.Mem.tail _ (List.Mem.head _))))
                go_simp
                obtain ⟨w5, hw, hS', M⟩ := M.out.store hS (by have := Hbx.out; have := hz0.out; omega) (p := p1) (T := 52) (cs := #[.slice none 0 0]) (List.Mem.tail _ (List.Mem.tail _ (List.Mem.tail _ (List.Mem.head _)))) rfl (.slice (some ⟨g1, 0, none⟩) n n)
                rw [hw]
                clear hw cc ff
                refine hK.out _ _ hS' (fun hS => ?_)
                clear hK K hS'
                try simp only [Act.put, List.setIfInBounds_toArray, List.set_cons_zero, List.set_cons_succ]
                refine wpAnyH_ready (rs := [9]) (by kernel_rfl) (by simp) ?_
                refine AllReadyH.cons rfl (fun K hK => ?_) AllReadyH.nil
                obtain ⟨cc, ff⟩ := M.out.one (p := p2) (T := 47) (v := .slice none 0 0) (List.Mem.tail _ (List.Mem.tail _ (List.Mem.tail _ (List.Mem.head _))))
                go_simp
                obtain ⟨w6, hw, hS', M⟩ := M.out.store hS (by have := Hbx.out; have := hz0.out; omega) (p := p2) (T := 47) (cs := #[.slice none 0 0]) (List.Mem.tail _ (List.Mem.tail _ (List.Mem.tail _ (List.Mem.head _)))) rfl (.slice (some ⟨g2, 0, none⟩) n n)
                rw [hw]
                clear hw cc ff
                refine hK.out _ _ hS' (fun hS => ?_)
                clear hK K hS'
                try simp only [Act.put, List.setIfInBounds_toArray, List.set_cons_zero, List.set_cons_succ]
                refine wpAnyH_done (by kernel_rfl) ?_ _
                have q1 := M.out.at (p := p1) (T := 52) (cs := #[.slice (some ⟨g1, 0, none⟩) n n]) (List.Mem.tail _ (List.Mem.head _))
                have q2 := M.out.at (p := p2) (T := 47) (cs := #[.slice (some ⟨g2, 0, none⟩) n n]) (List.Mem.head _)
                have q3 := M.out.at (p := g1) (T := 69) (cs := Array.replicate n (.pointer none)) (List.Mem.tail _ (List.Mem.tail _ (List.Mem.tail _ (List.Mem.head _))))
                have q4 := M.out.at (p := g2) (T := 4) (cs := Array.replicate n (.bool false)) (List.Mem.tail _ (List.Mem.tail _ (List.Mem.head _)))
                have LO : Hid (W0.heap.size ≤ p1 ∧ W0.heap.size ≤ p2 ∧ W0.heap.size ≤ g1 ∧ W0.heap.size ≤ g2) := Lib.hid (by rw [hz0.out]; exact ⟨q1.1, q2.1, q3.1, q4.1⟩)
                replace q1 := Lib.hid q1.2
                replace q2 := Lib.hid q2.2
                replace q3 := Lib.hid q3.2
                replace q4 := Lib.hid q4.2
                go_wp2_with fail
                go_meet
                exact ⟨p1, p2, g1, g2, rfl, rfl, LO, q1, q2, q3, q4, Lib.hid (by rw [hz0.out]; exact BB.out.trans M.out.2.1)⟩
              · obtain ⟨cc, ff⟩ := M.out.one (p := p1) (T := 52) (v := .slice none 0 0) (List.Mem.tail _ (List.Mem.tail _ (List.Mem.head _)))
                go_simp
                obtain ⟨w4, hw, hS', M⟩ := M.out.store hS (by have := Hbx.out; have := hz0.out; omega) (p := p1) (T := 52) (cs := #[.slice none 0 0]) (List.Mem.tail _ (List.Mem.tail _ (List.Mem.head _))) rfl (.slice (some ⟨g1, 0, none⟩) n n)
                rw [hw]
                clear hw cc ff
                refine hK.out _ _ hS' (fun hS => ?_)
                clear hK K hS'
                try simp only [Act.put, List.setIfInBounds_toArray, List.set_cons_zero, List.set_cons_succ]
                refine wpAnyH_ready (rs := [5]) (by kernel_rfl) (by simp) ?_
                refine AllReadyH.cons rfl (fun K hK => ?_) AllReadyH.nil
                go_simp
                obtain ⟨g2, hg2⟩ : ∃ q, q = w4.heap.size := ⟨_, rfl⟩
                rw [← hg2]
                obtain ⟨w5, hw, hS', M⟩ := M.out.alloc hS 4 (Array.replicate n (.bool false)) hg2
                rw [hw]
                clear hw hg2
                refine hK.out _ _ hS' (fun hS => ?_)
                clear hK K hS'
                try simp only [Act.put, List.setIfInBounds_toArray, List.set_cons_zero, List.set_cons_succ]
                refine wpAnyH_ready (rs := [9]) (by kernel_rfl) (by simp) ?_
                refine AllReadyH.cons rfl (fun K hK => ?_) AllReadyH.nil
                obtain ⟨cc, ff⟩ := M.out.one (p := p2) (T := 47) (v := .slice none 0 0) (List.Mem.tail _ (List.Mem.tail _ (List.Mem.tail _ (List.Mem.head _))))
                go_simp
                obtain ⟨w6, hw, hS', M⟩ := M.out.store hS (by have := Hbx.out; have := hz0.out; omega) (p := p2) (T := 47) (cs := #[.slice none 0 0]) (List.Mem.tail _ (List.Mem.tail _ (List.Mem.tail _ (List.Mem.head _)))) rfl (.slice (some ⟨g2, 0, none⟩) n n)
                rw [hw]
                clear hw cc ff
                refine hK.out _ _ hS' (fun hS => ?_)
                clear hK K hS'
                try simp only [Act.put, List.setIfInBounds_toArray, List.set_cons_zero, List.set_cons_succ]
                refine wpAnyH_done (by kernel_rfl) ?_ _
                have q1 := M.out.at (p := p1) (T := 52) (cs := #[.slice (some ⟨g1, 0, none⟩) n n]) (List.Mem.tail _ (List.Mem.tail _ (List.Mem.head _)))
                have q2 := M.out.at (p := p2) (T := 47) (cs := #[.slice (some ⟨g2, 0, none⟩) n n]) (List.Mem.head _)
                have q3 := M.out.at (p := g1) (T := 69) (cs := Array.replicate n (.pointer none)) (List.Mem.tail _ (List.Mem.tail _ (List.Mem.tail _ (List.Mem.head _))))
                have q4 := M.out.at (p := g2) (T := 4) (cs := Array.replicate n (.bool false)) (List.Mem.tail _ (List.Mem.head _))
                have LO : Hid (W0.heap.size ≤ p1 ∧ W0.heap.size ≤ p2 ∧ W0.heap.size ≤ g1 ∧ W0.heap.size ≤ g2) := Lib.hid (by rw [hz0.out]; exact ⟨q1.1, q2.1, q3.1, q4.1⟩)
                replace q1 := Lib.hid q1.2
                replace q2 := Lib.hid q2.2
                replace q3 := Lib.hid q3.2
                replace q4 := Lib.hid q4.2
                go_wp2_with fail
                go_meet
                exact ⟨p1, p2, g1, g2, rfl, rfl, LO, q1, q2, q3, q4, Lib.hid (by rw [hz0.out]; exact BB.out.trans M.out.2.1)⟩
            · go_simp
              obtain ⟨g2, hg2⟩ : ∃ q, q = w2.heap.size := ⟨_, rfl⟩
              rw [← hg2]
              obtain ⟨w3, hw, hS', M⟩ := M.out.alloc hS 4 (Array.replicate n (.bool false)) hg2
              rw [hw]
              clear hw hg2
              refine hK.out _ _ hS' (fun hS => ?_)
              clear hK K hS'
              try simp only [Act.put, List.setIfInBounds_toArray, List.set_cons_zero, List.set_cons_succ]
              refine wpAnyH_ready (rs := [2]) (by kernel_rfl) (by simp) ?_
              refine AllReadyH.cons rfl (fun K hK => ?_) AllReadyH.nil
              go_simp
              obtain ⟨g1, hg1⟩ : ∃ q, q = w3.heap.size := ⟨_, rfl⟩
              rw [← hg1]
              obtain ⟨w4, hw, hS', M⟩ := M.out.alloc hS 69 (Array.replicate n (.pointer none)) hg1
              rw [hw]
              clear hw hg1
              refine hK.out _ _ hS' (fun hS => ?_)
              clear hK K hS'
              try simp only [Act.put, List.setIfInBounds_toArray, List.set_cons_zero, List.set_cons_succ]
              refine wpAnyH_ready (rs := [8]) (by kernel_rfl) (by simp) ?_
              refine AllReadyH.cons rfl (fun K hK => ?_) AllReadyH.nil
              obtain ⟨cc, ff⟩ := M.out.one (p := p1) (T := 52) (v := .slice none 0 0) (List.Mem.tail _ (List.Mem.tail _ (List.Mem.tail _ (List.Mem.head _))))
              go_simp
              obtain ⟨w5, hw, hS', M⟩ := M.out.store hS (by have := Hbx.out; have := hz0.out; omega) (p := p1) (T := 52) (cs := #[.slice none 0 0]) (List.Mem.tail _ (List.Mem.tail _ (List.Mem.tail _ (List.Mem.head _)))) rfl (.slice (some ⟨g1, 0, none⟩) n n)
              rw [hw]
              clear hw cc ff
              refine hK.out _ _ hS' (fun hS => ?_)
              clear hK K hS'
              try simp only [Act.put, List.setIfInBounds_toArray, List.set_cons_zero, List.set_cons_succ]
              refine wpAnyH_ready (rs := [9]) (by kernel_rfl) (by simp) ?_
              refine AllReadyH.cons rfl (fun K hK => ?_) AllReadyH.nil
              obtain ⟨cc, ff⟩ := M.out.one (p := p2) (T := 47) (v := .slice none 0 0) (List.Mem.tail _ (List.Mem.tail _ (List.Mem.tail _ (List.Mem.head _))))
              go_simp
              obtain ⟨w6, hw, hS', M⟩ := M.out.store hS (by have := Hbx.out; have := hz0.out; omega) (p := p2) (T := 47) (cs := #[.slice none 0 0]) (List.Mem.tail _ (List.Mem.tail _ (List.Mem.tail _ (List.Mem.head _)))) rfl (.slice (some ⟨g2, 0, none⟩) n n)
              rw [hw]
              clear hw cc ff
              refine hK.out _ _ hS' (fun hS => ?_)
              clear hK K hS'
              try simp only [Act.put, List.setIfInBounds_toArray, List.set_cons_zero, List.set_cons_succ]
              refine wpAnyH_done (by kernel_rfl) ?_ _
              have q1 := M.out.at (p := p1) (T := 52) (cs := #[.slice (some ⟨g1, 0, none⟩) n n]) (List.Mem.tail _ (List.Mem.head _))
              have q2 := M.out.at (p := p2) (T := 47) (cs := #[.slice (some ⟨g2, 0, none⟩) n n]) (List.Mem.head _)
              have q3 := M.out.at (p := g1) (T := 69) (cs := Array.replicate n (.pointer none)) (List.Mem.tail _ (List.Mem.tail _ (List.Mem.head _)))
              have q4 := M.out.at (p := g2) (T := 4) (cs := Array.replicate n (.bool false)) (List.Mem.tail _ (List.Mem.tail _ (List.Mem.tail _ (List.Mem.head _))))
              have LO : Hid (W0.heap.size ≤ p1 ∧ W0.heap.size ≤ p2 ∧ W0.heap.size ≤ g1 ∧ W0.heap.size ≤ g2) := Lib.hid (by rw [hz0.out]; exact ⟨q1.1, q2.1, q3.1, q4.1⟩)
              replace q1 := Lib.hid q1.2
              replace q2 := Lib.hid q2.2
              replace q3 := Lib.hid q3.2
              replace q4 := Lib.hid q4.2
              go_wp2_with fail
              go_meet
              exact ⟨p1, p2, g1, g2, rfl, rfl, LO, q1, q2, q3, q4, Lib.hid (by rw [hz0.out]; exact BB.out.trans M.out.2.1)⟩
        · go_simp
          obtain ⟨p2, hp2⟩ : ∃ q, q = w0.heap.size := ⟨_, rfl⟩
          rw [← hp2]
          obtain ⟨w1, hw, hS', M⟩ := M.out.alloc hS 47 #[.slice none 0 0] hp2
          rw [hw]
          clear hw hp2
          refine hK.out _ _ hS' (fun hS => ?_)
          clear hK K hS'
          try simp only [Act.put, List.setIfInBounds_toArray, List.set_cons_zero, List.set_cons_succ]
          refine wpAnyH_ready (rs := [2, 5, 6]) (by kernel_rfl) (by simp) ?_
          refine AllReadyH.cons rfl (fun K hK => ?_) (AllReadyH.cons rfl (fun K hK => ?_) (AllReadyH.cons rfl (fun K hK => ?_) AllReadyH.nil))
          · go_simp
            obtain ⟨g1, hg1⟩ : ∃ q, q = w1.heap.size := ⟨_, rfl⟩
            rw [← hg1]
            obtain ⟨w2, hw, hS', M⟩ := M.out.alloc hS 69 (Array.replicate n (.pointer none)) hg1
            rw [hw]
            clear hw hg1
            refine hK.out _ _ hS' (fun hS => ?_)
            clear hK K hS'
            try simp only [Act.put, List.setIfInBounds_toArray, List.set_cons_zero, List.set_cons_succ]
            refine wpAnyH_ready (rs := [5, 6]) (by kernel_rfl) (by simp) ?_
            refine AllReadyH.cons rfl (fun K hK => ?_) (AllReadyH.cons rfl (fun K hK => ?_) AllReadyH.nil)
            · go_simp
              obtain ⟨g2, hg2⟩ : ∃ q, q = w2.heap.size := ⟨_, rfl⟩
              rw [← hg2]
              obtain ⟨w3, hw, hS', M⟩ := M.out.alloc hS 4 (Array.replicate n (.bool false)) hg2
              rw [hw]
              clear hw hg2
              refine hK.out _ _ hS' (fun hS => ?_)
              clear hK K hS'
              try simp only [Act.put, List.setIfInBounds_toArray, List.set_cons_zero, List.set_cons_succ]
              refine wpAnyH_ready (rs := [6]) (by kernel_rfl) (by simp) ?_
              refine AllReadyH.cons rfl (fun K hK => ?_) AllReadyH.nil
              go_simp
              obtain ⟨p1, hp1⟩ : ∃ q, q = w3.heap.size := ⟨_, rfl⟩
              rw [← hp1]
              obtain ⟨w4, hw, hS', M⟩ := M.out.alloc hS 52 #[.slice none 0 0] hp1
              rw [hw]
              clear hw hp1
              refine hK.out _ _ hS' (fun hS => ?_)
              clear hK K hS'
              try simp only [Act.put, List.setIfInBounds_toArray, List.set_cons_zero, List.set_cons_succ]
              refine wpAnyH_ready (rs := [8]) (by kernel_rfl) (by simp) ?_
              refine AllReadyH.cons rfl (fun K hK => ?_) AllReadyH.nil
              obtain ⟨cc, ff⟩ := M.out.one (p := p1) (T := 52) (v := .slice none 0 0) (List.Mem.head _)
              go_simp
              obtain ⟨w5, hw, hS', M⟩ := M.out.store hS (by have := Hbx.out; have := hz0.out; omega) (p := p1) (T := 52) (cs := #[.slice none 0 0]) (List.Mem.head _) rfl (.slice (some ⟨g1, 0, none⟩) n n)
              rw [hw]
              clear hw cc ff
              refine hK.out _ _ hS' (fun hS => ?_)
              clear hK K hS'
              try simp only [Act.put, List.setIfInBounds_toArray, List.set_cons_zero, List.set_cons_succ]
              refine wpAnyH_ready (rs := [9]) (by kernel_rfl) (by simp) ?_
              refine AllReadyH.cons rfl (fun K hK => ?_) AllReadyH.nil
              obtain ⟨cc, ff⟩ := M.out.one (p := p2) (T := 47) (v := .slice none 0 0) (List.Mem.tail _ (List.Mem.tail _ (List.Mem.tail _ (List.Mem.head _))))
              go_simp
              obtain ⟨w6, hw, hS', M⟩ := M.out.store hS (by have := Hbx.out; have := hz0.out; omega) (p := p2) (T := 47) (cs := #[.slice none 0 0]) (List.Mem.tail _ (List.Mem.tail _ (List.Mem.tail _ (List.Mem.head _)))) rfl (.slice (some ⟨g2, 0, none⟩) n n)
              rw [hw]
              clear hw cc ff
              refine hK.out _ _ hS' (fun hS => ?_)
              clear hK K hS'
              try simp only [Act.put, List.setIfInBounds_toArray, List.set_cons_zero, List.set_cons_succ]
              refine wpAnyH_done (by kernel_rfl) ?_ _
              have q1 := M.out.at (p := p1) (T := 52) (cs := #[.slice (some ⟨g1, 0, none⟩) n n]) (List.Mem.tail _ (List.Mem.head _))
              have q2 := M.out.at (p := p2) (T := 47) (cs := #[.slice (some ⟨g2, 0, none⟩) n n]) (List.Mem.head _)
              have q3 := M.out.at (p := g1) (T := 69) (cs := Array.replicate n (.pointer none)) (List.Mem.tail _ (List.Mem.tail _ (List.Mem.tail _ (List.Mem.head _))))
              have q4 := M.out.at (p := g2) (T := 4) (cs := Array.replicate n (.bool false)) (List.Mem.tail _ (List.Mem.tail _ (List.Mem.head _)))
              have LO : Hid (W0.heap.size ≤ p1 ∧ W0.heap.size ≤ p2 ∧ W0.heap.size ≤ g1 ∧ W0.heap.size ≤ g2) := Lib.hid (by rw [hz0.out]; exact ⟨q1.1, q2.1, q3.1, q4.1⟩)
              replace q1 := Lib.hid q1.2
              replace q2 := Lib.hid q2.2
              replace q3 := Lib.hid q3.2
              replace q4 := Lib.hid q4.2
              go_wp2_with fail
              go_meet
              exact ⟨p1, p2, g1, g2, rfl, rfl, LO, q1, q2, q3, q4, Lib.hid (by rw [hz0.out]; exact BB.out.trans M.out.2.1)⟩
            · go_simp
              obtain ⟨p1, hp1⟩ : ∃ q, q = w2.heap.size := ⟨_, rfl⟩
              rw [← hp1]
              obtain ⟨w3, hw, hS', M⟩ := M.out.alloc hS 52 #[.slice none 0 0] hp1
              rw [hw]
              clear hw hp1
              refine hK.out _ _ hS' (fun hS => ?_)
              clear hK K hS'
              try simp only [Act.put, List.setIfInBounds_toArray, List.set_cons_zero, List.set_cons_succ]
              refine wpAnyH_ready (rs := [5, 8]) (by kernel_rfl) (by simp) ?_
              refine AllReadyH.cons rfl (fun K hK => ?_) (AllReadyH.cons rfl (fun K hK => ?_) AllReadyH.nil)
              · go_simp
                obtain ⟨g2, hg2⟩ : ∃ q, q = w3.heap.size := ⟨_, rfl⟩
                rw [← hg2]
                obtain ⟨w4, hw, hS', M⟩ := M.out.alloc hS 4 (Array.replicate n (.bool false)) hg2
                rw [hw]
                clear hw hg2
                refine hK.out _ _ hS' (fun hS => ?_)
                clear hK K hS'
                try simp only [Act.put, List.setIfInBounds_toArray, List.set_cons_zero, List.set_cons_succ]
                refine wpAnyH_ready (rs := [8]) (by kernel_rfl) (by simp) ?_
                refine AllReadyH.cons rfl (fun K hK => ?_) AllReadyH.nil
                obtain ⟨cc, ff⟩ := M.out.one (p := p1) (T := 52) (v := .slice none 0 0) (List.Mem.tail _ (List.Mem.head _))
                go_simp
                obtain ⟨w5, hw, hS', M⟩ := M.out.store hS (by have := Hbx.out; have := hz0.out; omega) (p := p1) (T := 52) (cs := #[.slice none 0 0]) (List.Mem.tail _ (List.Mem.head _)) rfl (.slice (some ⟨g1, 0, none⟩) n n)
                rw [hw]
                clear hw cc ff
                refine hK.out _ _ hS' (fun hS => ?_)
                clear hK K hS'
                try simp only [Act.put, List.setIfInBounds_toArray, List.set_cons_zero, List.set_cons_succ]
                refine wpAnyH_ready (rs := [9]) (by kernel_rfl) (by simp) ?_
                refine AllReadyH.cons rfl (fun K hK => ?_) AllReadyH.nil
                obtain ⟨cc, ff⟩ := M.out.one (p := p2) (T := 47) (v := .slice none 0 0) (List.Mem.tail _ (List.Mem.tail _ (List.Mem.tail _ (List.Mem.head _))))
                go_simp
                obtain ⟨w6, hw, hS', M⟩ := M.out.store hS (by have := Hbx.out; have := hz0.out; omega) (p := p2) (T := 47) (cs := #[.slice none 0 0]) (List.Mem.tail _ (List.Mem.tail _ (List.Mem.tail _ (List.Mem.head _)))) rfl (.slice (some ⟨g2, 0, none⟩) n n)
                rw [hw]
                clear hw cc ff
                refine hK.out _ _ hS' (fun hS => ?_)
                clear hK K hS'
                try simp only [Act.put, List.setIfInBounds_toArray, List.set_cons_zero, List.set_cons_succ]
                refine wpAnyH_done (by kernel_rfl) ?_ _
                have q1 := M.out.at (p := p1) (T := 52) (cs := #[.slice (some ⟨g1, 0, none⟩) n n]) (List.Mem.tail _ (List.Mem.head _))
                have q2 := M.out.at (p := p2) (T := 47) (cs := #[.slice (some ⟨g2, 0, none⟩) n n]) (List.Mem.head _)
                have q3 := M.out.at (p := g1) (T := 69) (cs := Array.replicate n (.pointer none)) (List.Mem.tail _ (List.Mem.tail _ (List.Mem.tail _ (List.Mem.head _))))
                have q4 := M.out.at (p := g2) (T := 4) (cs := Array.replicate n (.bool false)) (List.Mem.tail _ (List.Mem.tail _ (List.Mem.head _)))
                have LO : Hid (W0.heap.size ≤ p1 ∧ W0.heap.size ≤ p2 ∧ W0.heap.size ≤ g1 ∧ W0.heap.size ≤ g2) := Lib.hid (by rw [hz0.out]; exact ⟨q1.1, q2.1, q3.1, q4.1⟩)
                replace q1 := Lib.hid q1.2
                replace q2 := Lib.hid q2.2
                replace q3 := Lib.hid q3.2
                replace q4 := Lib.hid q4.2
                go_wp2_with fail
                go_meet
                exact ⟨p1, p2, g1, g2, rfl, rfl, LO, q1, q2, q3, q4, Lib.hid (by rw [hz0.out]; exact BB.out.trans M.out.2.1)⟩
              · obtain ⟨cc, ff⟩ := M.out.one (p := p1) (T := 52) (v := .slice none 0 0) (List.Mem.head _)
                go_simp
                obtain ⟨w4, hw, hS', M⟩ := M.out.store hS (by have := Hbx.out; have := hz0.out; omega) (p := p1) (T := 52) (cs := #[.slice none 0 0]) (List.Mem.head _) rfl (.slice (some ⟨g1, 0, none⟩) n n)
                rw [hw]
                clear hw cc ff
                refine hK.out _ _ hS' (fun hS => ?_)
                clear hK K hS'
                try simp only [Act.put, List.setIfInBounds_toArray, List.set_cons_zero, List.set_cons_succ]
                refine wpAnyH_ready (rs := [5]) (by kernel_rfl) (by simp) ?_
                refine AllReadyH.cons rfl (fun K hK => ?_) AllReadyH.nil
                go_simp
                obtain ⟨g2, hg2⟩ : ∃ q, q = w4.heap.size := ⟨_, rfl⟩
                rw [← hg2]
                obtain ⟨w5, hw, hS', M⟩ := M.out.alloc hS 4 (Array.replicate n (.bool false)) hg2
                rw [hw]
                clear hw hg2
                refine hK.out _ _ hS' (fun hS => ?_)
                clear hK K hS'
                try simp only [Act.put, List.setIfInBounds_toArray, List.set_cons_zero, List.set_cons_succ]
                refine wpAnyH_ready (rs := [9]) (by kernel_rfl) (by simp) ?_
                refine AllReadyH.cons rfl (fun K hK => ?_) AllReadyH.nil
                obtain ⟨cc, ff⟩ := M.out.one (p := p2) (T := 47) (v := .slice none 0 0) (List.Mem.tail _ (List.Mem.tail _ (List.Mem.tail _ (List.Mem.head _))))
                go_simp
                obtain ⟨w6, hw, hS', M⟩ := M.out.store hS (by have := Hbx.out; have := hz0.out; omega) (p := p2) (T := 47) (cs := #[.slice none 0 0]) (List.Mem.tail _ (List.Mem.tail _ (List.Mem.tail _ (List.Mem.head _)))) rfl (.slice (some ⟨g2, 0, none⟩) n n)
                rw [hw]
                clear hw cc ff
                refine hK.out _ _ hS' (fun hS => ?_)
                clear hK K hS'
                try simp only [Act.put, List.setIfInBounds_toArray, List.set_cons_zero, List.set_cons_succ]
                refine wpAnyH_done (by kernel_rfl) ?_ _
                have q1 := M.out.at (p := p1) (T := 52) (cs := #[.slice (some ⟨g1, 0, none⟩) n n]) (List.Mem.tail _ (List.Mem.tail _ (List.Mem.head _)))
                have q2 := M.out.at (p := p2) (T := 47) (cs := #[.slice (some ⟨g2, 0, none⟩) n n]) (List.Mem.head _)
                have q3 := M.out.at (p := g1) (T := 69) (cs := Array.replicate n (.pointer none)) (List.Mem.tail _ (List.Mem.tail _ (List.Mem.tail _ (List.Mem.head _))))
                have q4 := M.out.at (p := g2) (T := 4) (cs := Array.replicate n (.bool false)) (List.Mem.tail _ (List.Mem.head _))
                have LO : Hid (W0.heap.size ≤ p1 ∧ W0.heap.size ≤ p2 ∧ W0.heap.size ≤ g1 ∧ W0.heap.size ≤ g2) := Lib.hid (by rw [hz0.out]; exact ⟨q1.1, q2.1, q3.1, q4.1⟩)
                replace q1 := Lib.hid q1.2
                replace q2 := Lib.hid q2.2
                replace q3 := Lib.hid q3.2
                replace q4 := Lib.hid q4.2
                go_wp2_with fail
                go_meet
                exact ⟨p1, p2, g1, g2, rfl, rfl, LO, q1, q2, q3, q4, Lib.hid (by rw [hz0.out]; exact BB.out.trans M.out.2.1)⟩
          · go_simp
            obtain ⟨g2, hg2⟩ : ∃ q, q = w1.heap.size := ⟨_, rfl⟩
            rw [← hg2]
            obtain ⟨w2, hw, hS', M⟩ := M.out.alloc hS 4 (Array.replicate n (.bool false)) hg2
            rw [hw]
            clear hw hg2
            refine hK.out _ _ hS' (fun hS => ?_)
            clear hK K hS'
            try simp only [Act.put, List.setIfInBounds_toArray, List.set_cons_zero, List.set_cons_succ]
            refine wpAnyH_ready (rs := [2, 6]) (by kernel_rfl) (by simp) ?_
            refine AllReadyH.cons rfl (fun K hK => ?_) (AllReadyH.cons rfl (fun K hK => ?_) AllReadyH.nil)
            · go_simp
              obtain ⟨g1, hg1⟩ : ∃ q, q = w2.heap.size := ⟨_, rfl⟩
              rw [← hg1]
              obtain ⟨w3, hw, hS', M⟩ := M.out.alloc hS 69 (Array.replicate n (.pointer none)) hg1
              rw [hw]
              clear hw hg1
              refine hK.out _ _ hS' (fun hS => ?_)
              clear hK K hS'
              try simp only [Act.put, List.setIfInBounds_toArray, List.set_cons_zero, List.set_cons_succ]
              refine wpAnyH_ready (rs := [6]) (by kernel_rfl) (by simp) ?_
              refine AllReadyH.cons rfl (fun K hK => ?_) AllReadyH.nil
              go_simp
              obtain ⟨p1, hp1⟩ : ∃ q, q = w3.heap.size := ⟨_, rfl⟩
              rw [← hp1]
              obtain ⟨w4, hw, hS', M⟩ := M.out.alloc hS 52 #[.slice none 0 0] hp1
              rw [hw]
              clear hw hp1
              refine hK.out _ _ hS' (fun hS => ?_)
              clear hK K hS'
              try simp only [Act.put, List.setIfInBounds_toArray, List.set_cons_zero, List.set_cons_succ]
              refine wpAnyH_ready (rs := [8]) (by kernel_rfl) (by simp) ?_
              refine AllReadyH.cons rfl (fun K hK => ?_) AllReadyH.nil
              obtain ⟨cc, ff⟩ := M.out.one (p := p1) (T := 52) (v := .slice none 0 0) (List.Mem.head _)
              go_simp
              obtain ⟨w5, hw, hS', M⟩ := M.out.store hS (by have := Hbx.out; have := hz0.out; omega) (p := p1) (T := 52) (cs := #[.slice none 0 0]) (List.Mem.head _) rfl (.slice (some ⟨g1, 0, none⟩) n n)
              rw [hw]
              clear hw cc ff
              refine hK.out _ _ hS' (fun hS => ?_)
              clear hK K hS'
              try simp only [Act.put, List.setIfInBounds_toArray, List.set_cons_zero, List.set_cons_succ]
              refine wpAnyH_ready (rs := [9]) (by kernel_rfl) (by simp) ?_
              refine AllReadyH.cons rfl (fun K hK => ?_) AllReadyH.nil
              obtain ⟨cc, ff⟩ := M.out.one (p := p2) (T := 47) (v := .slice none 0 0) (List.Mem.tail _ (List.Mem.tail _ (List.Mem.tail _ (List.Mem.head _))))
              go_simp
              obtain ⟨w6, hw, hS', M⟩ := M.out.store hS (by have := Hbx.out; have := hz0.out; omega) (p := p2) (T := 47) (cs := #[.slice none 0 0]) (List.Mem.tail _ (List.Mem.tail _ (List.Mem.tail _ (List.Mem.head _)))) rfl (.slice (some ⟨g2, 0, none⟩) n n)
              rw [hw]
              clear hw cc ff
              refine hK.out _ _ hS' (fun hS => ?_)
              clear hK K hS'
              try simp only [Act.put, List.setIfInBounds_toArray, List.set_cons_zero, List.set_cons_succ]
              refine wpAnyH_done (by kernel_rfl) ?_ _
              have q1 := M.out.at (p := p1) (T := 52) (cs := #[.slice (some ⟨g1, 0, none⟩) n n]) (List.Mem.tail _ (List.Mem.head _))
              have q2 := M.out.at (p := p2) (T := 47) (cs := #[.slice (some ⟨g2, 0, none⟩) n n]) (List.Mem.head _)
              have q3 := M.out.at (p := g1) (T := 69) (cs := Array.replicate n (.pointer none)) (List.Mem.tail _ (List.Mem.tail _ (List.Mem.head _)))
              have q4 := M.out.at (p := g2) (T := 4) (cs := Array.replicate n (.bool false)) (List.Mem.tail _ (List.Mem.tail _ (List.Mem.tail _ (List.Mem.head _))))
              have LO : Hid (W0.heap.size ≤ p1 ∧ W0.heap.size ≤ p2 ∧ W0.heap.size ≤ g1 ∧ W0.heap.size ≤ g2) := Lib.hid (by rw [hz0.out]; exact ⟨q1.1, q2.1, q3.1, q4.1⟩)
              replace q1 := Lib.hid q1.2
              replace q2 := Lib.hid q2.2
              replace q3 := Lib.hid q3.2
              replace q4 := Lib.hid q4.2
              go_wp2_with fail
              go_meet
              exact ⟨p1, p2, g1, g2, rfl, rfl, LO, q1, q2, q3, q4, Lib.hid (by rw [hz0.out]; exact BB.out.trans M.out.2.1)⟩
            · go_simp
              obtain ⟨p1, hp1⟩ : ∃ q, q = w2.heap.size := ⟨_, rfl⟩
              rw [← hp1]
              obtain ⟨w3, hw, hS', M⟩ := M.out.alloc hS 52 #[.slice none 0 0] hp1
              rw [hw]
              clear hw hp1
              refine hK.out _ _ hS' (fun hS => ?_)
              clear hK K hS'
              try simp only [Act.put, List.setIfInBounds_toArray, List.set_cons_zero, List.set_cons_succ]
              refine wpAnyH_ready (rs := [2]) (by kernel_rfl) (by simp) ?_
              refine AllReadyH.cons rfl (fun K hK => ?_) AllReadyH.nil
              go_simp
              obtain ⟨g1, hg1⟩ : ∃ q, q = w3.heap.size := ⟨_, rfl⟩
              rw [← hg1]
              obtain ⟨w4, hw, hS', M⟩ := M.out.alloc hS 69 (Array.replicate n (.pointer none)) hg1
              rw [hw]
              clear hw hg1
              refine hK.out _ _ hS' (fun hS => ?_)
              clear hK K hS'
              try simp only [Act.put, List.setIfInBounds_toArray, List.set_cons_zero, List.set_cons_succ]
              refine wpAnyH_ready (rs := [8]) (by kernel_rfl) (by simp) ?_
              refine AllReadyH.cons rfl (fun K hK => ?_) AllReadyH.nil
              obtain ⟨cc, ff⟩ := M.out.one (p := p1) (T := 52) (v := .slice none 0 0) (List.Mem.tail _ (List.Mem.head _))
              go_simp
              obtain ⟨w5, hw, hS', M⟩ := M.out.store hS (by have := Hbx.out; have := hz0.out; omega) (p := p1) (T := 52) (cs := #[.slice none 0 0]) (List.Mem.tail _ (List.Mem.head _)) rfl (.slice (some ⟨g1, 0, none⟩) n n)
              rw [hw]
              clear hw cc ff
              refine hK.out _ _ hS' (fun hS => ?_)
              clear hK K hS'
              try simp only [Act.put, List.setIfInBounds_toArray, List.set_cons_zero, List.set_cons_succ]
              refine wpAnyH_ready (rs := [9]) (by kernel_rfl) (by simp) ?_
              refine AllReadyH.cons rfl (fun K hK => ?_) AllReadyH.nil
              obtain ⟨cc, ff⟩ := M.out.one (p := p2) (T := 47) (v := .slice none 0 0) (List.Mem.tail _ (List.Mem.tail _ (List.Mem.tail _ (List.Mem.head _))))
              go_simp
              obtain ⟨w6, hw, hS', M⟩ := M.out.store hS (by have := Hbx.out; have := hz0.out; omega) (p := p2) (T := 47) (cs := #[.slice none 0 0]) (List.Mem.tail _ (List.Mem.tail _ (List.Mem.tail _ (List.Mem.head _)))) rfl (.slice (some ⟨g2, 0, none⟩) n n)
              rw [hw]
              clear hw cc ff
              refine hK.out _ _ hS' (fun hS => ?_)
              clear hK K hS'
              try simp only [Act.put, List.setIfInBounds_toArray, List.set_cons_zero, List.set_cons_succ]
              refine wpAnyH_done (by kernel_rfl) ?_ _
              have q1 := M.out.at (p := p1) (T := 52) (cs := #[.slice (some ⟨g1, 0, none⟩) n n]) (List.Mem.tail _ (List.Mem.head _))
              have q2 := M.out.at (p := p2) (T := 47) (cs := #[.slice (some ⟨g2, 0, none⟩) n n]) (List.Mem.head _)
              have q3 := M.out.at (p := g1) (T := 69) (cs := Array.replicate n (.pointer none)) (List.Mem.tail _ (List.Mem.tail _ (List.Mem.head _)))
              have q4 := M.out.at (p := g2) (T := 4) (cs := Array.replicate n (.bool false)) (List.Mem.tail _ (List.Mem.tail _ (List.Mem.tail _ (List.Mem.head _))))
              have LO : Hid (W0.heap.size ≤ p1 ∧ W0.heap.size ≤ p2 ∧ W0.heap.size ≤ g1 ∧ W0.heap.size ≤ g2) := Lib.hid (by rw [hz0.out]; exact ⟨q1.1, q2.1, q3.1, q4.1⟩)
              replace q1 := Lib.hid q1.2
              replace q2 := Lib.hid q2.2
              replace q3 := Lib.hid q3.2
              replace q4 := Lib.hid q4.2
              go_wp2_with fail
              go_meet
              exact ⟨p1, p2, g1, g2, rfl, rfl, LO, q1, q2, q3, q4, Lib.hid (by rw [hz0.out]; exact BB.out.trans M.out.2.1)⟩
          · go_simp
            obtain ⟨p1, hp1⟩ : ∃ q, q = w1.heap.size := ⟨_, rfl⟩
            rw [← hp1]
            obtain ⟨w2, hw, hS', M⟩ := M.out.alloc hS 52 #[.slice none 0 0] hp1
            rw [hw]
            clear hw hp1
            refine hK.out _ _ hS' (fun hS => ?_)
            clear hK K hS'
            try simp only [Act.put, List.setIfInBounds_toArray, List.set_cons_zero, List.set_cons_succ]
            refine wpAnyH_ready (rs := [2, 5]) (by kernel_rfl) (by simp) ?_
            refine AllReadyH.cons rfl (fun K hK => ?_) (AllReadyH.cons rfl (fun K hK => ?_) AllReadyH.nil)
            · go_simp
              obtain ⟨g1, hg1⟩ : ∃ q, q = w2.heap.size := ⟨_, rfl⟩
              rw [← hg1]
              obtain ⟨w3, hw, hS', M⟩ := M.out.alloc hS 69 (Array.replicate n (.pointer none)) hg1
              rw [hw]
              clear hw hg1
              refine hK.out _ _ hS' (fun hS => ?_)
              clear hK K hS'
              try simp only [Act.put, List.setIfInBounds_toArray, List.set_cons_zero, List.set_cons_succ]
              refine wpAnyH_ready (rs := [5, 8]) (by kernel_rfl) (by simp) ?_
              refine AllReadyH.cons rfl (fun K hK => ?_) (AllReadyH.cons rfl (fun K hK => ?_) AllReadyH.nil)
              · go_simp
                obtain ⟨g2, hg2⟩ : ∃ q, q = w3.heap.size := ⟨_, rfl⟩
                rw [← hg2]
                obtain ⟨w4, hw, hS', M⟩ := M.out.alloc hS 4 (Array.replicate n (.bool false)) hg2
                rw [hw]
                clear hw hg2
                refine hK.out _ _ hS' (fun hS => ?_)
                clear hK K hS'
                try simp only [Act.put, List.setIfInBounds_toArray, List.set_cons_zero, List.set_cons_succ]
                refine wpAnyH_ready (rs := [8]) (by kernel_rfl) (by simp) ?_
                refine AllReadyH.cons rfl (fun K hK => ?_) AllReadyH.nil
                obtain ⟨cc, ff⟩ := M.out.one (p := p1) (T := 52) (v := .slice none 0 0) (List.Mem.tail _ (List.Mem.tail _ (List.Mem.head _)))
                go_simp
                obtain ⟨w5, hw, hS', M⟩ := M.out.store hS (by have := Hbx.out; have := hz0.out; omega) (p := p1) (T := 52) (cs := #[.slice none 0 0]) (List.Mem.tail _ (List.Mem.tail _ (List.Mem.head _))) rfl (.slice (some ⟨g1, 0, none⟩) n n)
                rw [hw]
                clear hw cc ff
                refine hK.out _ _ hS' (fun hS => ?_)
                clear hK K hS'
                try simp only [Act.put, List.setIfInBounds_toArray, List.set_cons_zero, List.set_cons_succ]
                refine wpAnyH_ready (rs := [9]) (by kernel_rfl) (by simp) ?_
                refine AllReadyH.cons rfl (fun K hK => ?_) AllReadyH.nil
                obtain ⟨cc, ff⟩ := M.out.one (p := p2) (T := 47) (v := .slice none 0 0) (List.Mem.tail _ (List.Mem.tail _ (List.Mem.tail _ (List.Mem.head _))))
                go_simp
                obtain ⟨w6, hw, hS', M⟩ := M.out.store hS (by have := Hbx.out; have := hz0.out; omega) (p := p2) (T := 47) (cs := #[.slice none 0 0]) (List.Mem.tail _ (List.Mem.tail _ (List.Mem.tail _ (List.Mem.head _)))) rfl (.slice (some ⟨g2, 0, none⟩) n n)
                rw [hw]
                clear hw cc ff
                refine hK.out _ _ hS' (fun hS => ?_)
                clear hK K hS'
                try simp only [Act.put, List.setIfInBounds_toArray, List.set_cons_zero, List.set_cons_succ]
                refine wpAnyH_done (by kernel_rfl) ?_ _
                have q1 := M.out.at (p := p1) (T := 52) (cs := #[.slice (some ⟨g1, 0, none⟩) n n]) (List.Mem.tail _ (List.Mem.head _))
                have q2 := M.out.at (p := p2) (T := 47) (cs := #[.slice (some ⟨g2, 0, none⟩) n n]) (List.Mem.head _)
                have q3 := M.out.at (p := g1) (T := 69) (cs := Array.replicate n (.pointer none)) (List.Mem.tail _ (List.Mem.tail _ (List.Mem.tail _ (List.Mem.head _))))
                have q4 := M.out.at (p := g2) (T := 4) (cs := Array.replicate n (.bool false)) (List.Mem.tail _ (List.Mem.tail _ (List.Mem.head _)))
                have LO : Hid (W0.heap.size ≤ p1 ∧ W0.heap.size ≤ p2 ∧ W0.heap.size ≤ g1 ∧ W0.heap.size ≤ g2) := Lib.hid (by rw [hz0.out]; exact ⟨q1.1, q2.1, q3.1, q4.1⟩)
                replace q1 := Lib.hid q1.2
                replace q2 := Lib.hid q2.2
                replace q3 := Lib.hid q3.2
                replace q4 := Lib.hid q4.2
                go_wp2_with fail
                go_meet
                exact ⟨p1, p2, g1, g2, rfl, rfl, LO, q1, q2, q3, q4, Lib.hid (by rw [hz0.out]; exact BB.out.trans M.out.2.1)⟩
              · obtain ⟨cc, ff⟩ := M.out.one (p := p1) (T := 52) (v := .slice none 0 0) (List.Mem.tail _ (List.Mem.head _))
                go_simp
                obtain ⟨w4, hw, hS', M⟩ := M.out.store hS (by have := Hbx.out; have := hz0.out; omega) (p := p1) (T := 52) (cs := #[.slice none 0 0]) (List.Mem.tail _ (List.Mem.head _)) rfl (.slice (some ⟨g1, 0, none⟩) n n)
                rw [hw]
                clear hw cc ff
                refine hK.out _ _ hS' (fun hS => ?_)
                clear hK K hS'
                try simp only [Act.put, List.setIfInBounds_toArray, List.set_cons_zero, List.set_cons_succ]
                refine wpAnyH_ready (rs := [5]) (by kernel_rfl) (by simp) ?_
                refine AllReadyH.cons rfl (fun K hK => ?_) AllReadyH.nil
                go_simp
                obtain ⟨g2, hg2⟩ : ∃ q, q = w4.heap.size := ⟨_, rfl⟩
                rw [← hg2]
                obtain ⟨w5, hw, hS', M⟩ := M.out.alloc hS 4 (Array.replicate n (.bool false)) hg2
                rw [hw]
                clear hw hg2
                refine hK.out _ _ hS' (fun hS => ?_)
                clear hK K hS'
                try simp only [Act.put, List.setIfInBounds_toArray, List.set_cons_zero, List.set_cons_succ]
                refine wpAnyH_ready (rs := [9]) (by kernel_rfl) (by simp) ?_
                refine AllReadyH.cons rfl (fun K hK => ?_) AllReadyH.nil
                obtain ⟨cc, ff⟩ := M.out.one (p := p2) (T := 47) (v := .slice none 0 0) (List.Mem.tail _ (List.Mem.tail _ (List.Mem.tail _ (List.Mem.head _))))
                go_simp
                obtain ⟨w6, hw, hS', M⟩ := M.out.store hS (by have := Hbx.out; have := hz0.out; omega) (p := p2) (T := 47) (cs := #[.slice none 0 0]) (List.Mem.tail _ (List.Mem.tail _ (List.Mem.tail _ (List.Mem.head _)))) rfl (.slice (some ⟨g2, 0, none⟩) n n)
                rw [hw]
                clear hw cc ff
                refine hK.out _ _ hS' (fun hS => ?_)
                clear hK K hS'
                try simp only [Act.put, List.setIfInBounds_toArray, List.set_cons_zero, List.set_cons_succ]
                refine wpAnyH_done (by kernel_rfl) ?_ _
                have q1 := M.out.at (p := p1) (T := 52) (cs := #[.slice (some ⟨g1, 0, none⟩) n n]) (List.Mem.tail _ (List.Mem.tail _ (List.Mem.head _)))
                have q2 := M.out.at (p := p2) (T := 47) (cs := #[.slice (some ⟨g2, 0, none⟩) n n]) (List.Mem.head _)
                have q3 := M.out.at (p := g1) (T := 69) (cs := Array.replicate n (.pointer none)) (List.Mem.tail _ (List.Mem.tail _ (List.Mem.tail _ (List.Mem.head _))))
                have q4 := M.out.at (p := g2) (T := 4) (cs := Array.replicate n (.bool false)) (List.Mem.tail _ (List.Mem.head _))
                have LO : Hid (W0.heap.size ≤ p1 ∧ W0.heap.size ≤ p2 ∧ W0.heap.size ≤ g1 ∧ W0.heap.size ≤ g2) := Lib.hid (by rw [hz0.out]; exact ⟨q1.1, q2.1, q3.1, q4.1⟩)
                replace q1 := Lib.hid q1.2
                replace q2 := Lib.hid q2.2
                replace q3 := Lib.hid q3.2
                replace q4 := Lib.hid q4.2
                go_wp2_with fail
                go_meet
                exact ⟨p1, p2, g1, g2, rfl, rfl, LO, q1, q2, q3, q4, Lib.hid (by rw [hz0.out]; exact BB.out.trans M.out.2.1)⟩
            · go_simp
              obtain ⟨g2, hg2⟩ : ∃ q, q = w2.heap.size := ⟨_, rfl⟩
              rw [← hg2]
              obtain ⟨w3, hw, hS', M⟩ := M.out.alloc hS 4 (Array.replicate n (.bool false)) hg2
              rw [hw]
              clear hw hg2
              refine hK.out _ _ hS' (fun hS => ?_)
              clear hK K hS'
              try simp only [Act.put, List.setIfInBounds_toArray, List.set_cons_zero, List.set_cons_succ]
              refine wpAnyH_ready (rs := [2]) (by kernel_rfl) (by simp) ?_
              refine AllReadyH.cons rfl (fun K hK => ?_) AllReadyH.nil
              go_simp
              obtain ⟨g1, hg1⟩ : ∃ q, q = w3.heap.size := ⟨_, rfl⟩
              rw [← hg1]
              obtain ⟨w4, hw, hS', M⟩ := M.out.alloc hS 69 (Array.replicate n (.pointer none)) hg1
              rw [hw]
              clear hw hg1
              refine hK.out _ _ hS' (fun hS => ?_)
              clear hK K hS'
              try simp only [Act.put, List.setIfInBounds_toArray, List.set_cons_zero, List.set_cons_succ]
              refine wpAnyH_ready (rs := [8]) (by kernel_rfl) (by simp) ?_
              refine AllReadyH.cons rfl (fun K hK => ?_) AllReadyH.nil
              obtain ⟨cc, ff⟩ := M.out.one (p := p1) (T := 52) (v := .slice none 0 0) (List.Mem.tail _ (List.Mem.tail _ (List.Mem.head _)))
              go_simp
              obtain ⟨w5, hw, hS', M⟩ := M.out.store hS (by have := Hbx.out; have := hz0.out; omega) (p := p1) (T := 52) (cs := #[.slice none 0 0]) (List.Mem.tail _ (List.Mem.tail _ (List.Mem.head _))) rfl (.slice (some ⟨g1, 0, none⟩) n n)
              rw [hw]
              clear hw cc ff
              refine hK.out _ _ hS' (fun hS => ?_)
              clear hK K hS'
              try simp only [Act.put, List.setIfInBounds_toArray, List.set_cons_zero, List.set_cons_succ]
              refine wpAnyH_ready (rs := [9]) (by kernel_rfl) (by simp) ?_
              refine AllReadyH.cons rfl (fun K hK => ?_) AllReadyH.nil
              obtain ⟨cc, ff⟩ := M.out.one (p := p2) (T := 47) (v := .slice none 0 0) (List.Mem.tail _ (List.Mem.tail _ (List.Mem.tail _ (List.Mem.head _))))
              go_simp
              obtain ⟨w6, hw, hS', M⟩ := M.out.store hS (by have := Hbx.out; have := hz0.out; omega) (p := p2) (T := 47) (cs := #[.slice none 0 0]) (List.Mem.tail _ (List.Mem.tail _ (List.Mem.tail _ (List.Mem.head _)))) rfl (.slice (some ⟨g2, 0, none⟩) n n)
              rw [hw]
              clear hw cc ff
              refine hK.out _ _ hS' (fun hS => ?_)
              clear hK K hS'
              try simp only [Act.put, List.setIfInBounds_toArray, List.set_cons_zero, List.set_cons_succ]
              refine wpAnyH_done (by kernel_rfl) ?_ _
              have q1 := M.out.at (p := p1) (T := 52) (cs := #[.slice (some ⟨g1, 0, none⟩) n n]) (List.Mem.tail _ (List.Mem.head _))
              have q2 := M.out.at (p := p2) (T := 47) (cs := #[.slice (some ⟨g2, 0, none⟩) n n]) (List.Mem.head _)
              have q3 := M.out.at (p := g1) (T := 69) (cs := Array.replicate n (.pointer none)) (List.Mem.tail _ (List.Mem.tail _ (List.Mem.head _)))
              have q4 := M.out.at (p := g2) (T := 4) (cs := Array.replicate n (.bool false)) (List.Mem.tail _ (List.Mem.tail _ (List.Mem.tail _ (List.Mem.head _))))
              have LO : Hid (W0.heap.size ≤ p1 ∧ W0.heap.size ≤ p2 ∧ W0.heap.size ≤ g1 ∧ W0.heap.size ≤ g2) := Lib.hid (by rw [hz0.out]; exact ⟨q1.1, q2.1, q3.1, q4.1⟩)
              replace q1 := Lib.hid q1.2
              replace q2 := Lib.hid q2.2
              replace q3 := Lib.hid q3.2
              replace q4 := Lib.hid q4.2
              go_wp2_with fail
              go_meet
              exact ⟨p1, p2, g1, g2, rfl, rfl, LO, q1, q2, q3, q4, Lib.hid (by rw [hz0.out]; exact BB.out.trans M.out.2.1)⟩
      case rest =>
        obtain ⟨p1, p2, g1, g2, rfl, rfl, HLO, HP1, HP2, HG1, HG2, HBX⟩ := hcut
        have wa1 : Blk ((wc.alloc (.cells #[.slice none 0 0] 23)).alloc (.cells #[.nilFunc] 89)) (wc.heap.size + 1) 89 #[.nilFunc] := by
          have := Blk.new (wc.alloc (.cells #[.slice none 0 0] 23)) 89 #[.nilFunc]
          rwa [World.size_alloc] at this
        have wa2 : Blk ((wc.alloc (.cells #[.slice none 0 0] 23)).alloc (.cells #[.nilFunc] 89)) wc.heap.size 23 #[.slice none 0 0] := (Blk.new wc 23 _).alloc _
        have wa3 : Below wc.heap.size wc ((wc.alloc (.cells #[.slice none 0 0] 23)).alloc (.cells #[.nilFunc] 89)) := ((Below.refl _ wc).alloc (Nat.le_refl _) _).alloc (by simp) _
        have wf := wa1.frozen 0
        have wcl := wa1.cell 0
        simp only [List.getElem?_toArray, List.getElem?_cons_zero] at wcl
        obtain ⟨w1, hw1⟩ : ∃ W, ((wc.alloc (.cells #[.slice none 0 0] 23)).alloc (.cells #[.nilFunc] 89)).setCell ⟨wc.heap.size + 1, 0, none⟩ (.func (.func 53) #[] #[.pointer (some ⟨A0, 0, none⟩), .pointer (some ⟨p2, 0, none⟩), .pointer (some ⟨p1, 0, none⟩), .pointer (some ⟨wc.heap.size, 0, none⟩)]) = W := ⟨_, rfl⟩
        have wb1 : Boxed w1 (wc.heap.size + 1) 89 (.func (.func 53) #[] #[.pointer (some ⟨A0, 0, none⟩), .pointer (some ⟨p2, 0, none⟩), .pointer (some ⟨p1, 0, none⟩), .pointer (some ⟨wc.heap.size, 0, none⟩)]) := by rw [← hw1]; exact Boxed.set _ wa1
        have wb2 : Boxed w1 wc.heap.size 23 (.slice none 0 0) := by rw [← hw1]; exact wa2.far (p := ⟨wc.heap.size + 1, 0, none⟩) (by simp) _
        have wb3 : Below wc.heap.size wc w1 := by rw [← hw1]; exact wa3.setCell (p := ⟨wc.heap.size + 1, 0, none⟩) (show wc.heap.size ≤ (⟨wc.heap.size + 1, 0, none⟩ : Addr).block by simp) _
        have wb4 : w1.heap.size = wc.heap.size + 2 := by rw [← hw1]; simp [World.setCell]
        have WB1 := Lib.hid wb1
        have WB2 := Lib.hid wb2
        have WB3 := Lib.hid wb3
        have WB4 := Lib.hid wb4
        clear c0 mk1 mk2 wa1 wa2 wa3 wb1 wb2 wb3 wb4
        go_upto_region 10 with fail
        clear hw1 wf wcl
        obtain ⟨Bo, hBo⟩ : ∃ q, q = wc.heap.size := ⟨_, rfl⟩
        obtain ⟨Bp, hBp⟩ : ∃ q, q = wc.heap.size + 1 := ⟨_, rfl⟩
        rw [← hBp] at WB1 ⊢
        rw [← hBo] at WB1 WB2 WB3 WB4 ⊢
        obtain ⟨FV, hFV⟩ : ∃ q, q = Value.func (.func 53) #[] #[.pointer (some ⟨A0, 0, none⟩), .pointer (some ⟨p2, 0, none⟩), .pointer (some ⟨p1, 0, none⟩), .pointer (some ⟨Bo, 0, none⟩)] := ⟨_, rfl⟩
        rw [← hFV] at WB1
        have HFVx := Lib.hid hFV
        have B1 : Hid (Below w.heap.size w w1) := Lib.hid ((BO.out.trans (HBX.out.mono (by have := HSZ.out; omega))).trans (WB3.out.mono (by have := HBX.out.size; have := HSZ.out; rw [hBo]; omega)))
        have hin : ∀ r, r < W0.heap.size → r < wc.heap.size := fun r hr => Nat.lt_of_lt_of_le hr HBX.out.size
        have hk0 : ∀ {r : Nat} {t : TypeId} {cs : Array Value}, Blk W0 r t cs → Blk w1 r t cs := fun {r t cs} hb => (hb.below HBX.out hb.lt).below WB3.out (by rw [hBo]; exact hin r hb.lt)
        have hk1 : ∀ {r : Nat} {t : TypeId} {cs : Array Value}, Blk wc r t cs → Blk w1 r t cs := fun {r t cs} hb => hb.below WB3.out (by rw [hBo]; exact hb.lt)
        have FB1 : Hid (FBx A1 A2 A3 Bp FV [] w1) := Lib.hid ⟨hk0 X1.out, hk0 X2.out, hk0 X3.out, WB1.out, fun _ h => by cases h⟩
        have NS1 : Hid (NS A0 p2 p1 Bo g2 g1 w.heap.size w1.heap.size (.slice sa n cap) n [A1, A2, A3, Bp] (fun _ => none) [] w1) := Lib.hid (by
          have l0 := HLO.out
          have z0 := HSZ.out
          have z1 := HBX.out.size
          have a1 := X1.out.lt
          have a2 := X2.out.lt
          have a3 := X3.out.lt
          have z2 := WB4.out
          have z3 := HG1.out.lt
          have z4 := HG2.out.lt
          refine ⟨hk0 X0.out, hk1 HP2.out, hk1 HP1.out, ?_, ⟨List.replicate n (.pointer none), by simp, blk_replicate (hk1 HG1.out), fun i hi => by simp [NestB]⟩, ⟨_, WB2.out, Sl.nil _ _ _ _ _, fun g hg => by simp [Value.ownBlock] at hg⟩, ⟨by omega, by omega, by omega, by omega⟩, ?_⟩
          · have := blk_replicate (hk1 HG2.out)
            simpa [List.map_const'] using this
          · intro r hr
            simp only [List.mem_cons, List.not_mem_nil, or_false] at hr
            rcases hr with rfl | rfl | rfl | rfl <;> omega)
        clear hin hk0 hk1 hFV hBo hBp
        go_wp2_with fail
        go_loopw [42] (fun z wr => ∃ (k : Nat) (Q : Nat → Option (List Int)) (O : List Int), k ≤ nf ∧ z = .int .i64 (k : Int) ∧ Hid (NS A0 p2 p1 Bo g2 g1 w.heap.size wr.heap.size (.slice sa n cap) n [A1, A2, A3, Bp] Q O wr) ∧ Hid (FBx A1 A2 A3 Bp FV [] wr) ∧ Hid (Below w.heap.size w wr) ∧ Hid (SI l fr Q O (-1)) ∧ Hid (∀ i t, Q i = some t → t = []) ∧ Hid (∀ (j : Nat) (i : Nat) (hj : j < fr.length), j < k → fr[j] = i → i < l.length → Q i = some [])) (fun z _ => nf - (intOf z).toNat)
        case atStart => exact ⟨0, fun _ => none, [], Nat.zero_le _, rfl, NS1, FB1, B1, Lib.hid (SI.start l fr), Lib.hid (fun _ _ h => by cases h), Lib.hid (fun _ _ _ h => by omega)⟩
        case round =>
          obtain ⟨k, Q, O, hk, rfl, HNS, HFB, HB, HSI, HQ, HE⟩ := hrel
          clear NS1 FB1 B1
          by_cases hlt : k < nf
          · have hlti : (k : Int) < (nf : Int) := by omega
            obtain ⟨bf, of, rfl, hbf, hcf⟩ := HFV.out.get (by rw [← HNF.out]; omega)
            have hkf : k < fr.length := by rw [← HNF.out]; exact hlt
            have ck := hcf k 0 hkf (by omega)
            obtain ⟨x, hx⟩ : ∃ x, x = fr[k] := ⟨_, rfl⟩
            rw [← hx] at ck
            simp only [inC, List.getElem?_cons_zero, Nat.add_zero, Nat.mul_one] at ck
            have ck' := (HB.out.cell (p := ⟨bf, _, none⟩) hbf).trans ck
            have HX := Lib.hid hx
            have cp := HFB.out.cp.cell
            rw [HFVx.out] at cp
            clear ck hcf hx
            have hOl : O.length + 1 ≤ 10000000000000 := by have := HSI.out.cnt; have := HN.out; omega
            go_wp2_with fail
            refine (pass53 wr x (.pointer none) [] HNS.out rfl hOl).mono ?_
            rintro e w2 ⟨rfl, ns2, nk2⟩
            have hP := HSI.out.pass x [] (fun j hj hjl => Forced.entry j (by rw [← hj, HX.out]; exact List.getElem_mem _) hjl)
            rw [← HN.out] at hP
            have hP1 : (passF Q n O x []).1 = true := by
              unfold passF
              split
              · cases hq : Q x.toNat with
                | none => rfl
                | some u => simp [HQ.out _ _ hq]
              · rfl
            obtain ⟨si2, le2, ex2, _⟩ := hP.2 hP1
            have hQ2 : ∀ i t, (passF Q n O x []).2.1 i = some t → t = [] := by
              unfold passF
              split
              · cases hq : Q x.toNat with
                | none =>
                  intro i t hi
                  dsimp only [setQ] at hi
                  split at hi
                  · cases hi; rfl
                  · exact HQ.out i t hi
                | some u => exact HQ.out
              · exact HQ.out
            obtain ⟨Q2, hQ2e⟩ : ∃ q, q = (passF Q n O x []).2.1 := ⟨_, rfl⟩
            obtain ⟨O2, hO2e⟩ : ∃ q, q = (passF Q n O x []).2.2 := ⟨_, rfl⟩
            rw [hP1]
            rw [← hQ2e, ← hO2e] at ns2 si2
            rw [← hQ2e] at le2 ex2 hQ2
            have NS2 := Lib.hid (ns2.mono nk2.below.size)
            have FB2 := Lib.hid (HFB.out.keep nk2.keep)
            have B2 := Lib.hid (HB.out.trans nk2.below)
            have SI2 := Lib.hid si2
            have HQ2 := Lib.hid hQ2
            have HE2 : Hid (∀ (j : Nat) (i : Nat) (hj : j < fr.length), j < k + 1 → fr[j] = i → i < l.length → Q2 i = some []) := Lib.hid (fun j i hj hjk he hil => by
              rcases Nat.lt_succ_iff_lt_or_eq.1 hjk with q | q
              · exact le2 _ _ (HE.out j i hj q he hil)
              · subst q
                exact ex2 i (by rw [HX.out]; exact he) (by rw [HN.out]; exact hil))
            clear ns2 nk2 hP hP1 si2 le2 ex2 hQ2 hQ2e hO2e HNS HFB HB HSI HQ HE HX cp ck'
            go_wp2_with fail
            go_roundw
            case rel => exact ⟨k + 1, Q2, O2, by omega, by go_num, NS2, FB2, B2, SI2, HQ2, HE2⟩
            case measure => simp [intOf]; omega
          · have hlti : ¬ (k : Int) < (nf : Int) := by omega
            have HEN : Hid (∀ i : Nat, (i : Int) ∈ fr → i < l.length → Q i = some []) := Lib.hid (fun i hi hil => by
              obtain ⟨j, hj, e⟩ := List.getElem_of_mem hi
              exact HE.out j i hj (by have := HNF.out; omega) e hil)
            clear HE HQ hlt
            go_wp2_with fail
            refine wp_loop_ghost_k (fun mu a' w' => ∃ (Ds : List Nat) (Q : Nat → Option (List Int)) (O : List Int) (x0 x1 x3 x7 x8 x13 x14 x15 x16 x17 x18 x19 x20 x21 x22 x23 x24 x25 x26 x27 x28 x29 x30 x31 x32 x33 x34 x35 x36 x37 x38 x39 x40 x41 x42 x43 x44 x45 x46 x47 x48 x49 x50 x51 x52 x53 x54 x55 x56 x57 x58 x59 x60 x61 x62 x63 x64 x65 x66 x67 x68 x69 x70 x71 x72 x73 x74 x75 x76 x77 x78 x79 x80 x81 x82 x83 x84 x85 x86 x87 x88 x89 x90 x91 x92 x93 x94 x95 x96 x97 x98 x99 x100 x101 x102 x103 x104 x105 x106 x107 x108 x109 x110 x111 : Value), (2 * un Q n + O.length = mu ∧ Hid Ds.Nodup ∧ Hid (∀ D ∈ Ds, w.heap.size ≤ D) ∧ Hid (NS A0 p2 p1 Bo g2 g1 w.heap.size w'.heap.size (.slice sa n cap) n (Ds ++ [A1, A2, A3, Bp]) Q O w') ∧ Hid (FBx A1 A2 A3 Bp FV Ds w') ∧ Hid (Below w.heap.size w w') ∧ Hid (SI l fr Q O (-1)) ∧ Hid (∀ i : Nat, (i : Int) ∈ fr → i < l.length → Q i = some [])) ∧ a' = { tmps := #[x0, x1, .pointer (some ⟨A0, 0, none⟩), x3, .pointer (some ⟨A1, 0, none⟩), .pointer (some ⟨A2, 0, none⟩), .pointer (some ⟨A3, 0, none⟩), x7, x8, .pointer (some ⟨p1, 0, none⟩), .pointer (some ⟨p2, 0, none⟩), .pointer (some ⟨Bo, 0, none⟩), .pointer (some ⟨Bp, 0, none⟩), x13, x14, x15, x16, x17, x18, x19, x20, x21, x22, x23, x24, x25, x26, x27, x28, x29, x30, x31, x32, x33, x34, x35, x36, x37, x38, x39, x40, x41, x42, x43, x44, x45, x46, x47, x48, x49, x50, x51, x52, x53, x54, x55, x56, x57, x58, x59, x60, x61, x62, x63, x64, x65, x66, x67, x68, x69, x70, x71, x72, x73, x74, x75, x76, x77, x78, x79, x80, x81, x82, x83, x84, x85, x86, x87, x88, x89, x90, x91, x92, x93, x94, x95, x96, x97, x98, x99, x100, x101, x102, x103, x104, x105, x106, x107, x108, x109, x110, x111], defers := Ds.map rmark }) (2 * un Q n + O.length) ?atS ?rnd
            case atS =>
              refine ⟨[], Q, O, ?_⟩
              (repeat apply Exists.intro)
              exact ⟨⟨rfl, Lib.hid List.nodup_nil, Lib.hid (fun _ h => by cases h), HNS, HFB, HB, HSI, HEN⟩, rfl⟩
            case rnd =>
              clear HNS HFB HB HSI HEN
              intro mu a' wr hinv
              obtain ⟨Ds, hinv⟩ := hinv
              obtain ⟨Q, hinv⟩ := hinv
              obtain ⟨O, hinv⟩ := hinv
              obtain ⟨x0, hinv⟩ := hinv
              obtain ⟨x1, hinv⟩ := hinv
              obtain ⟨x3, hinv⟩ := hinv
              obtain ⟨x7, hinv⟩ := hinv
              obtain ⟨x8, hinv⟩ := hinv
              obtain ⟨x13, hinv⟩ := hinv
              obtain ⟨x14, hinv⟩ := hinv
              obtain ⟨x15, hinv⟩ := hinv
              obtain ⟨x16, hinv⟩ := hinv
              obtain ⟨x17, hinv⟩ := hinv
              obtain ⟨x18, hinv⟩ := hinv
              obtain ⟨x19, hinv⟩ := hinv
              obtain ⟨x20, hinv⟩ := hinv
              obtain ⟨x21, hinv⟩ := hinv
              obtain ⟨x22, hinv⟩ := hinv
              obtain ⟨x23, hinv⟩ := hinv
              obtain ⟨x24, hinv⟩ := hinv
              obtain ⟨x25, hinv⟩ := hinv
              obtain ⟨x26, hinv⟩ := hinv
              obtain ⟨x27, hinv⟩ := hinv
              obtain ⟨x28, hinv⟩ := hinv
              obtain ⟨x29, hinv⟩ := hinv
              obtain ⟨x30, hinv⟩ := hinv
              obtain ⟨x31, hinv⟩ := hinv
              obtain ⟨x32, hinv⟩ := hinv
              obtain ⟨x33, hinv⟩ := hinv
              obtain ⟨x34, hinv⟩ := hinv
              obtain ⟨x35, hinv⟩ := hinv
              obtain ⟨x36, hinv⟩ := hinv
              obtain ⟨x37, hinv⟩ := hinv
              obtain ⟨x38, hinv⟩ := hinv
              obtain ⟨x39, hinv⟩ := hinv
              obtain ⟨x40, hinv⟩ := hinv
              obtain ⟨x41, hinv⟩ := hinv
              obtain ⟨x42, hinv⟩ := hinv
              obtain ⟨x43, hinv⟩ := hinv
              obtain ⟨x44, hinv⟩ := hinv
              obtain ⟨x45, hinv⟩ := hinv
              obtain ⟨x46, hinv⟩ := hinv
              obtain ⟨x47, hinv⟩ := hinv
              obtain ⟨x48, hinv⟩ := hinv
              obtain ⟨x49, hinv⟩ := hinv
              obtain ⟨x50, hinv⟩ := hinv
              obtain ⟨x51, hinv⟩ := hinv
              obtain ⟨x52, hinv⟩ := hinv
              obtain ⟨x53, hinv⟩ := hinv
              obtain ⟨x54, hinv⟩ := hinv
              obtain ⟨x55, hinv⟩ := hinv
              obtain ⟨x56, hinv⟩ := hinv
              obtain ⟨x57, hinv⟩ := hinv
              obtain ⟨x58, hinv⟩ := hinv
              obtain ⟨x59, hinv⟩ := hinv
              obtain ⟨x60, hinv⟩ := hinv
              obtain ⟨x61, hinv⟩ := hinv
              obtain ⟨x62, hinv⟩ := hinv
              obtain ⟨x63, hinv⟩ := hinv
              obtain ⟨x64, hinv⟩ := hinv
              obtain ⟨x65, hinv⟩ := hinv
              obtain ⟨x66, hinv⟩ := hinv
              obtain ⟨x67, hinv⟩ := hinv
              obtain ⟨x68, hinv⟩ := hinv
              obtain ⟨x69, hinv⟩ := hinv
              obtain ⟨x70, hinv⟩ := hinv
              obtain ⟨x71, hinv⟩ := hinv
              obtain ⟨x72, hinv⟩ := hinv
              obtain ⟨x73, hinv⟩ := hinv
              obtain ⟨x74, hinv⟩ := hinv
              obtain ⟨x75, hinv⟩ := hinv
              obtain ⟨x76, hinv⟩ := hinv
              obtain ⟨x77, hinv⟩ := hinv
              obtain ⟨x78, hinv⟩ := hinv
              obtain ⟨x79, hinv⟩ := hinv
              obtain ⟨x80, hinv⟩ := hinv
              obtain ⟨x81, hinv⟩ := hinv
              obtain ⟨x82, hinv⟩ := hinv
              obtain ⟨x83, hinv⟩ := hinv
              obtain ⟨x84, hinv⟩ := hinv
              obtain ⟨x85, hinv⟩ := hinv
              obtain ⟨x86, hinv⟩ := hinv
              obtain ⟨x87, hinv⟩ := hinv
              obtain ⟨x88, hinv⟩ := hinv
              obtain ⟨x89, hinv⟩ := hinv
              obtain ⟨x90, hinv⟩ := hinv
              obtain ⟨x91, hinv⟩ := hinv
              obtain ⟨x92, hinv⟩ := hinv
              obtain ⟨x93, hinv⟩ := hinv
              obtain ⟨x94, hinv⟩ := hinv
              obtain ⟨x95, hinv⟩ := hinv
              obtain ⟨x96, hinv⟩ := hinv
              obtain ⟨x97, hinv⟩ := hinv
              obtain ⟨x98, hinv⟩ := hinv
              obtain ⟨x99, hinv⟩ := hinv
              obtain ⟨x100, hinv⟩ := hinv
              obtain ⟨x101, hinv⟩ := hinv
              obtain ⟨x102, hinv⟩ := hinv
              obtain ⟨x103, hinv⟩ := hinv
              obtain ⟨x104, hinv⟩ := hinv
              obtain ⟨x105, hinv⟩ := hinv
              obtain ⟨x106, hinv⟩ := hinv
              obtain ⟨x107, hinv⟩ := hinv
              obtain ⟨x108, hinv⟩ := hinv
              obtain ⟨x109, hinv⟩ := hinv
              obtain ⟨x110, hinv⟩ := hinv
              obtain ⟨x111, hinv⟩ := hinv
              obtain ⟨⟨hmu, HND, HDL, HNS, HFB, HB, HSI, HEN⟩, ha⟩ := hinv
              subst ha
              intro J K hJ hK
              rcases List.eq_nil_or_concat O with rfl | ⟨O, y, rfl⟩
              · obtain ⟨v, o1, o2, o3⟩ := HNS.out.op
                have hv : v = .slice none 0 0 ∨ ∃ g cap, v = .slice (some ⟨g, 0, none⟩) 0 cap := by
                  rcases o2.form with ⟨e, _⟩ | ⟨g, cap, e, _⟩
                  · exact .inl e
                  · exact .inr ⟨g, cap, e⟩
                obtain ⟨sb, cb, rfl⟩ : ∃ sb cb, v = .slice sb 0 cb := by
                  rcases hv with rfl | ⟨g, cap, rfl⟩
                  · exact ⟨_, _, rfl⟩
                  · exact ⟨_, _, rfl⟩
                have co := o1.cell
                have cpb := HNS.out.bb.cell
                have cps := HNS.out.bs.cell
                have c1 := HFB.out.c1.cell
                have c2 := HFB.out.c2.cell
                have c3 := HFB.out.c3.cell
                have f1 := HFB.out.c1.frozen
                have f2 := HFB.out.c2.frozen
                have f3 := HFB.out.c3.frozen
                clear hv o1 o2 o3 hJ hK
                go_upto_region 32 with fail
                refine wp_region_held_drew (S := (fun w' => w'.cell? ⟨p1, 0, none⟩ = some (.slice (some ⟨g1, 0, none⟩) n n) ∧ w'.cell? ⟨p2, 0, none⟩ = some (.slice (some ⟨g2, 0, none⟩) n n))) (by kernel_rfl) (⟨cpb, cps⟩) (fun hS => ?_)
                refine wpAnyH_take (i := 0) (v := ?_) rfl (by kernel_rfl) (by kernel_rfl) (by kernel_rfl) (fun _ _ _ h => h) (Or.inl ⟨by rfl, ?_⟩) (by assumption) ?_
                rotate_left
                · intro w hSw
                  go_simp
                  with_reducible rfl
                change wpAnyH _ _ _ _ _ _ _ (Act.put _ (some 110) _) _
                simp only [Act.put, List.setIfInBounds_toArray, List.set_cons_zero, List.set_cons_succ]
                refine wpAnyH_take (i := 1) (v := ?_) rfl (by kernel_rfl) (by kernel_rfl) (by kernel_rfl) (fun _ _ _ h => h) (Or.inl ⟨by rfl, ?_⟩) (by assumption) ?_
                rotate_left
                · intro w hSw
                  go_simp
                  with_reducible rfl
                change wpAnyH _ _ _ _ _ _ _ (Act.put _ (some 111) _) _
                simp only [Act.put, List.setIfInBounds_toArray, List.set_cons_zero, List.set_cons_succ]
                have HAL : Hid (A1 < p1 ∧ A1 < p2 ∧ A2 < p1 ∧ A2 < p2 ∧ A3 < p1 ∧ A3 < p2) := Lib.hid (by have := X1.out.lt; have := X2.out.lt; have := X3.out.lt; have := HLO.out; omega)
                have n12 : A1 ≠ A2 := blk_ne HFB.out.c1 HFB.out.c2 (by decide)
                have n13 : A1 ≠ A3 := blk_ne HFB.out.c1 HFB.out.c3 (by decide)
                have n23 : A2 ≠ A3 := blk_ne HFB.out.c2 HFB.out.c3 (by decide)
                have d1 : (wr.setCell ⟨A1, 0, none⟩ (.slice (some ⟨g1, 0, none⟩) n n)).cell? ⟨p1, 0, none⟩ = some (.slice (some ⟨g1, 0, none⟩) n n) := (World.cell?_setCell_far wr ⟨A1, 0, none⟩ ⟨p1, 0, none⟩ _ (by show A1 ≠ p1; have := HAL.out; omega)).trans cpb
                have d2 : (wr.setCell ⟨A1, 0, none⟩ (.slice (some ⟨g1, 0, none⟩) n n)).cell? ⟨p2, 0, none⟩ = some (.slice (some ⟨g2, 0, none⟩) n n) := (World.cell?_setCell_far wr ⟨A1, 0, none⟩ ⟨p2, 0, none⟩ _ (by show A1 ≠ p2; have := HAL.out; omega)).trans cps
                have e2 : (wr.setCell ⟨A1, 0, none⟩ (.slice (some ⟨g1, 0, none⟩) n n)).cell? ⟨A2, 0, none⟩ = some (.slice none 0 0) := (World.cell?_setCell_far wr ⟨A1, 0, none⟩ ⟨A2, 0, none⟩ _ n12).trans c2
                have e3 : (wr.setCell ⟨A1, 0, none⟩ (.slice (some ⟨g1, 0, none⟩) n n)).cell? ⟨A3, 0, none⟩ = some (.int .i64 0) := (World.cell?_setCell_far wr ⟨A1, 0, none⟩ ⟨A3, 0, none⟩ _ n13).trans c3
                have e4 : ((wr.setCell ⟨A1, 0, none⟩ (.slice (some ⟨g1, 0, none⟩) n n)).setCell ⟨A2, 0, none⟩ (.slice (some ⟨g2, 0, none⟩) n n)).cell? ⟨A3, 0, none⟩ = some (.int .i64 0) := (World.cell?_setCell_far (wr.setCell ⟨A1, 0, none⟩ (.slice (some ⟨g1, 0, none⟩) n n)) ⟨A2, 0, none⟩ ⟨A3, 0, none⟩ _ n23).trans e3
                have h1 : ((wr.setCell ⟨A1, 0, none⟩ (.slice (some ⟨g1, 0, none⟩) n n)).setCell ⟨A2, 0, none⟩ (.slice (some ⟨g2, 0, none⟩) n n)).cell? ⟨p1, 0, none⟩ = some (.slice (some ⟨g1, 0, none⟩) n n) := (World.cell?_setCell_far (wr.setCell ⟨A1, 0, none⟩ (.slice (some ⟨g1, 0, none⟩) n n)) ⟨A2, 0, none⟩ ⟨p1, 0, none⟩ _ (by show A2 ≠ p1; have := HAL.out; omega)).trans d1
                have h2 : ((wr.setCell ⟨A1, 0, none⟩ (.slice (some ⟨g1, 0, none⟩) n n)).setCell ⟨A2, 0, none⟩ (.slice (some ⟨g2, 0, none⟩) n n)).cell? ⟨p2, 0, none⟩ = some (.slice (some ⟨g2, 0, none⟩) n n) := (World.cell?_setCell_far (wr.setCell ⟨A1, 0, none⟩ (.slice (some ⟨g1, 0, none⟩) n n)) ⟨A2, 0, none⟩ ⟨p2, 0, none⟩ _ (by show A2 ≠ p2; have := HAL.out; omega)).trans d2
                have k1 : (((wr.setCell ⟨A1, 0, none⟩ (.slice (some ⟨g1, 0, none⟩) n n)).setCell ⟨A2, 0, none⟩ (.slice (some ⟨g2, 0, none⟩) n n)).setCell ⟨A3, 0, none⟩ (.int .i64 0)).cell? ⟨p1, 0, none⟩ = some (.slice (some ⟨g1, 0, none⟩) n n) := (World.cell?_setCell_far ((wr.setCell ⟨A1, 0, none⟩ (.slice (some ⟨g1, 0, none⟩) n n)).setCell ⟨A2, 0, none⟩ (.slice (some ⟨g2, 0, none⟩) n n)) ⟨A3, 0, none⟩ ⟨p1, 0, none⟩ _ (by show A3 ≠ p1; have := HAL.out; omega)).trans h1
                have k2 : (((wr.setCell ⟨A1, 0, none⟩ (.slice (some ⟨g1, 0, none⟩) n n)).setCell ⟨A2, 0, none⟩ (.slice (some ⟨g2, 0, none⟩) n n)).setCell ⟨A3, 0, none⟩ (.int .i64 0)).cell? ⟨p2, 0, none⟩ = some (.slice (some ⟨g2, 0, none⟩) n n) := (World.cell?_setCell_far ((wr.setCell ⟨A1, 0, none⟩ (.slice (some ⟨g1, 0, none⟩) n n)).setCell ⟨A2, 0, none⟩ (.slice (some ⟨g2, 0, none⟩) n n)) ⟨A3, 0, none⟩ ⟨p2, 0, none⟩ _ (by show A3 ≠ p2; have := HAL.out; omega)).trans h2
                have T3 := Lib.hid (three_set HFB.out.c1 HFB.out.c2 HFB.out.c3 (.slice (some ⟨g1, 0, none⟩) n n) (.slice (some ⟨g2, 0, none⟩) n n) (.int .i64 0))
                have u2 : (wr.setCell ⟨A1, 0, none⟩ (.slice (some ⟨g1, 0, none⟩) n n)).drew.cell? ⟨A2, 0, none⟩ = some (.slice none 0 0) := e2
                have u3 : ((wr.setCell ⟨A1, 0, none⟩ (.slice (some ⟨g1, 0, none⟩) n n)).setCell ⟨A2, 0, none⟩ (.slice (some ⟨g2, 0, none⟩) n n)).drew.cell? ⟨A3, 0, none⟩ = some (.int .i64 0) := e4
                have v2 : (wr.setCell ⟨A1, 0, none⟩ (.slice (some ⟨g1, 0, none⟩) n n)).drew.frozen? ⟨A2, 0, none⟩ = false := ((show Blk wr A2 47 _ from HFB.out.c2).far (p := ⟨A1, 0, none⟩) (Ne.symm n12) _).frozen 0
                have v3 : ((wr.setCell ⟨A1, 0, none⟩ (.slice (some ⟨g1, 0, none⟩) n n)).setCell ⟨A2, 0, none⟩ (.slice (some ⟨g2, 0, none⟩) n n)).drew.frozen? ⟨A3, 0, none⟩ = false := (((show Blk wr A3 27 _ from HFB.out.c3).far (p := ⟨A1, 0, none⟩) (Ne.symm n13) _).far (p := ⟨A2, 0, none⟩) (Ne.symm n23) _).frozen 0
                have v1 : wr.drew.frozen? ⟨A1, 0, none⟩ = false := f1
                have u1 : wr.drew.cell? ⟨A1, 0, none⟩ = some (.slice none 0 0) := c1
                refine wpAnyH_ready (rs := [2]) (by kernel_rfl) (by simp) ?_
                refine AllReadyH.cons rfl (fun K hK => ?_) AllReadyH.nil
                go_simp
                refine hK.out _ _ (⟨d1, d2⟩) (fun hS => ?_)
                clear hK K
                try simp only [Act.put, List.setIfInBounds_toArray, List.set_cons_zero, List.set_cons_succ]
                refine wpAnyH_ready (rs := [3]) (by kernel_rfl) (by simp) ?_
                refine AllReadyH.cons rfl (fun K hK => ?_) AllReadyH.nil
                go_simp
                refine hK.out _ _ (⟨h1, h2⟩) (fun hS => ?_)
                clear hK K
                try simp only [Act.put, List.setIfInBounds_toArray, List.set_cons_zero, List.set_cons_succ]
                refine wpAnyH_ready (rs := [4]) (by kernel_rfl) (by simp) ?_
                refine AllReadyH.cons rfl (fun K hK => ?_) AllReadyH.nil
                go_simp
                refine hK.out _ _ (⟨k1, k2⟩) (fun hS => ?_)
                clear hK K
                try simp only [Act.put, List.setIfInBounds_toArray, List.set_cons_zero, List.set_cons_succ]
                refine wpAnyH_done (by kernel_rfl) ?_ _
                clear d1 d2 e2 e3 e4 h1 h2 k1 k2 u1 u2 u3 v1 v2 v3 c1 c2 c3 f1 f2 f3 cpb cps co
                have HNL := Lib.hid (HN.out)
                go_wp2_with fail
                have hns := HNS.out.aside HFB.out.c1 HFB.out.c2 HFB.out.c3 T3.out.2.2.2 (by have := HAL.out; omega) (by have := HAL.out; omega)
                have hB3 : Below w.heap.size w (((wr.setCell ⟨A1, 0, none⟩ (.slice (some ⟨g1, 0, none⟩) n n)).setCell ⟨A2, 0, none⟩ (.slice (some ⟨g2, 0, none⟩) n n)).setCell ⟨A3, 0, none⟩ (.int .i64 0)) := HB.out.trans (T3.out.2.2.2.below (by intro r hr; simp only [List.mem_cons, List.not_mem_nil, or_false] at hr; have := HA1.out; have := HA2.out; have := HA3.out; omega) HB.out.size)
                have hds : ∀ D ∈ Ds, (((wr.setCell ⟨A1, 0, none⟩ (.slice (some ⟨g1, 0, none⟩) n n)).setCell ⟨A2, 0, none⟩ (.slice (some ⟨g2, 0, none⟩) n n)).setCell ⟨A3, 0, none⟩ (.int .i64 0)).heap[D]? = some (.deferred (some [])) := fun D hD => (T3.out.2.2.2.block D (Array.getElem?_eq_some_iff.1 (HFB.out.ds D hD)).1 (by
                  simp only [List.mem_cons, List.not_mem_nil, or_false, not_or]
                  exact ⟨Ne.symm (not_mark (HFB.out.ds D hD) HFB.out.c1), Ne.symm (not_mark (HFB.out.ds D hD) HFB.out.c2), Ne.symm (not_mark (HFB.out.ds D hD) HFB.out.c3)⟩)).trans (HFB.out.ds D hD)
                have hsh := HSI.out.shut HEN.out
                obtain rfl := HNL.out
                exact end_ok rfl rfl rfl T3.out.1 T3.out.2.1 T3.out.2.2.1 HND.out hds HDL.out hB3.drew hns.drew HIN.out hsh
              · rw [List.concat_eq_append] at *
                obtain ⟨g, ca, q1, q2, q3, q4, q5, q6⟩ := HNS.out.pop
                obtain ⟨jn, t, hy, hjl, hqj, hfj, si⟩ := HSI.out.pop
                subst hy
                obtain ⟨q, hq⟩ : ∃ q, q = O.length := ⟨_, rfl⟩
                rw [← hq] at q1 q2 q4 q5 q6
                have co := q1.cell
                have fo := q1.frozen
                have q2' : (q : Int) ≤ (ca : Int) := by omega
                have q0 : (0 : Int) ≤ (q : Int) := by omega
                have HQL := Lib.hid hq
                have NS2 := Lib.hid q5
                have NK2 := Lib.hid q6
                have HSI2 := Lib.hid si
                have HQJ := Lib.hid hqj
                have HFJ := Lib.hid hfj
                have HJL := Lib.hid hjl
                have HMU := Lib.hid hmu
                have hjn : jn < n := by rw [HN.out]; exact hjl
                have hq3 : q + 1 ≤ ca := q2
                clear q1 q5 q6 si hqj hfj hjl hq hmu HSI
                go_upto_region 18 with fail
                generalize wr.setCell ⟨Bo, 0, none⟩ (.slice (some ⟨g, 0, none⟩) q ca) = wA at NS2 NK2 ⊢
                have hzA := NK2.out.below.size
                obtain ⟨T, t1, t2, t3⟩ := NS2.out.bef
                have tk0 := t2.cell jn
                have nk := t3 jn (by omega)
                rw [HQJ.out, Option.getD_some] at nk
                obtain ⟨p, hp⟩ := nk.at.ptr
                have tk : wA.cell? ⟨g1, jn, none⟩ = some (.pointer p) := by
                  rw [tk0, ← hp]
                  simp [t1, hjn]
                rw [hp] at nk
                have NB := Lib.hid nk
                have cbb := NS2.out.bb.cell
                have hjni : (jn : Int) < (n : Int) := by omega
                have BA : Hid (Below wA.heap.size wA (wA.alloc (.cells #[.pointer p] 69))) := Lib.hid ((Below.refl _ wA).alloc (Nat.le_refl _) _)
                have XA := Lib.hid (Boxed.new wA 69 (.pointer p))
                clear tk0 nk hp t1 t2 t3 co fo q2 q3 q4 q2' q0
                go_upto_region 19 with fail
                clear tk cbb
                generalize wA.alloc (.cells #[.pointer p] 69) = wB at BA XA ⊢
                obtain ⟨B16, hB16⟩ : ∃ q, q = wA.heap.size := ⟨_, rfl⟩
                have NSB := Lib.hid (NS2.out.below BA.out (Nat.le_refl _))
                have NKB := Lib.hid (NK2.out.trans (NK.of BA.out (Nat.le_refl _) NS2.out.lo.2.2.2 (fun r hr => (NS2.out.fr r hr).1)))
                have NBB : Hid (NestB wB wB.heap.size t.reverse (.pointer p)) := Lib.hid ((NB.out.keep (Keep71.below BA.out (Nat.le_refl _))).mono (by have := BA.out.size; omega))
                have FBB := Lib.hid (HFB.out.keep NKB.out.keep)
                have BB := Lib.hid (HB.out.trans NKB.out.below)
                have hB16lt : B16 < wB.heap.size := by rw [hB16]; exact XA.out.lt
                have hB16ge : wr.heap.size ≤ B16 := by rw [hB16]; exact hzA
                rw [← hB16] at XA ⊢
                have HB16ge := Lib.hid hB16ge
                have HWr : Hid (w.heap.size ≤ wr.heap.size) := Lib.hid HB.out.size
                have NSC : Hid (NS A0 p2 p1 Bo g2 g1 w.heap.size wB.heap.size (.slice sa n cap) n ([B16] ++ (Ds ++ [A1, A2, A3, Bp])) Q O wB) := Lib.hid ((NSB.out.mono (by have := NKB.out.below.size; omega)).more [B16] (by
                  intro v hv
                  obtain ⟨v', o1, o2, _⟩ := NS2.out.op
                  have := ((BA.out.block _ o1.lt).trans o1).symm.trans hv
                  simp only [Option.some.injEq, Obj.cells.injEq, Array.mk.injEq, List.cons.injEq, and_true] at this
                  subst this
                  intro g' hg' hm
                  have := (o2.lt g' hg').2
                  simp at hm
                  omega) (by
                  intro r hr
                  simp only [List.mem_singleton] at hr
                  subst hr
                  have := NS2.out.lts
                  omega))
                clear hB16 NS2 NK2 NSB NKB NB BA HFB HB HNS hzA
                obtain ⟨b, o, rfl, hb, hc⟩ := HH.out.get (Nat.lt_of_le_of_lt (Nat.zero_le _) HJL.out)
                obtain ⟨f, hf, hfa, hcell⟩ := hc jn HJL.out
                have HFX := Lib.hid hf
                have HFA := Lib.hid hfa
                have HCL := Lib.hid hcell
                obtain ⟨e0, _, _, _, e4, _, _, _, _, _⟩ := cells10 (W := wB) (b := b) (p := o + jn * 10) (f := f) (fun j hj => by rw [← hcell j hj]; exact BB.out.cell (p := ⟨b, _, none⟩) hb)
                obtain ⟨op, hop⟩ : ∃ q, q = f.x.op := ⟨_, rfl⟩
                obtain ⟨goal, hgo⟩ : ∃ q, q = f.x.to := ⟨_, rfl⟩
                rw [← hop] at e0
                rw [← hgo] at e4
                have HOP := Lib.hid hop
                have HGO := Lib.hid hgo
                clear hop hgo hf hfa hcell hc
                have cl := NSC.out.l.cell
                have cp := FBB.out.cp.cell
                rw [HFVx.out] at cp
                have c16 := XA.out.cell
                have f16 := XA.out.frozen
                by_cases h28 : op = 28
                · subst h28
                  go_upto_region 21 with fail
                  have hOl : O.length + 1 ≤ 10000000000000 := by have := HSI2.out.cnt; have := HN.out; omega
                  refine wp_region_held_drew (S := (fun w' => w'.cell? ⟨Bp, 0, none⟩ = some (.func (.func 53) #[] #[.pointer (some ⟨A0, 0, none⟩), .pointer (some ⟨p2, 0, none⟩), .pointer (some ⟨p1, 0, none⟩), .pointer (some ⟨Bo, 0, none⟩)]) ∧ w'.cell? ⟨A0, 0, none⟩ = some (.slice (some ⟨b, o, none⟩) n cap) ∧ w'.cell? ⟨b, o + jn * 10 + 4, none⟩ = some (.int .i64 goal) ∧ w'.cell? ⟨B16, 0, none⟩ = some (.pointer p))) (by kernel_rfl) (⟨cp, cl, e4, c16⟩) (fun hS => ?_)
                  have NSD := Lib.hid NSC.out.drew
                  have NBD : Hid (NestB wB.drew wB.heap.size t.reverse (.pointer p)) := Lib.hid (NestB.keep (w := wB) (w' := wB.drew) (fun _ _ h => Blk.drew h) NBB.out)
                  have FBD : Hid (FBx A1 A2 A3 Bp FV Ds wB.drew) := Lib.hid (FBB.out.keep (fun _ _ => rfl))
                  have BBD := Lib.hid BB.out.drew
                  have XD : Hid (Boxed wB.drew B16 69 (.pointer p)) := Lib.hid XA.out
                  have ZD : Hid (wB.drew.heap.size = wB.heap.size) := Lib.hid rfl
                  clear NSC NBB FBB BB XA cp cl e0 e4 c16 f16
                  generalize wB.drew = wC at *
                  obtain ⟨mB, hmB⟩ : ∃ q, q = wB.heap.size := ⟨_, rfl⟩
                  rw [← hmB] at NSD NBD ZD hB16lt
                  clear hmB
                  refine wpAnyH_take (i := 0) (v := ?_) rfl (by kernel_rfl) (by kernel_rfl) (by kernel_rfl) (fun _ _ _ h => h) (Or.inl ⟨by rfl, ?_⟩) (by assumption) ?_
                  rotate_left
                  · intro w hSw
                    go_simp
                    with_reducible rfl
                  change wpAnyH _ _ _ _ _ _ _ (Act.put _ (some 75) _) _
                  simp only [Act.put, List.setIfInBounds_toArray, List.set_cons_zero, List.set_cons_succ]
                  refine wpAnyH_take (i := 1) (v := ?_) rfl (by kernel_rfl) (by kernel_rfl) (by kernel_rfl) (fun _ _ _ h => h) (Or.inl ⟨by rfl, ?_⟩) (by assumption) ?_
                  rotate_left
                  · intro w hSw
                    go_simp
                    with_reducible rfl
                  change wpAnyH _ _ _ _ _ _ _ (Act.put _ (some 76) _) _
                  simp only [Act.put, List.setIfInBounds_toArray, List.set_cons_zero, List.set_cons_succ]
                  refine wpAnyH_take (i := 2) (v := ?_) rfl (by kernel_rfl) (by kernel_rfl) (by kernel_rfl) (fun _ _ _ h => h) (Or.inl ⟨by rfl, ?_⟩) (by assumption) ?_
                  rotate_left
                  · intro w hSw
                    go_simp
                    with_reducible rfl
                  change wpAnyH _ _ _ _ _ _ _ (Act.put _ (some 77) _) _
                  simp only [Act.put, List.setIfInBounds_toArray, List.set_cons_zero, List.set_cons_succ]
                  refine wpAnyH_take (i := 3) (v := ?_) rfl (by kernel_rfl) (by kernel_rfl) (by kernel_rfl) (fun _ _ _ h => h) (Or.inl ⟨by rfl, ?_⟩) (by assumption) ?_
                  rotate_left
                  · intro w hSw
                    go_simp
                    with_reducible rfl
                  change wpAnyH _ _ _ _ _ _ _ (Act.put _ (some 78) _) _
                  simp only [Act.put, List.setIfInBounds_toArray, List.set_cons_zero, List.set_cons_succ]
                  refine wpAnyH_take (i := 4) (v := ?_) rfl (by kernel_rfl) (by kernel_rfl) (by kernel_rfl) (fun _ _ _ h => h) (Or.inl ⟨by rfl, ?_⟩) (by assumption) ?_
                  rotate_left
                  · intro w hSw
                    go_simp
                    with_reducible rfl
                  change wpAnyH _ _ _ _ _ _ _ (Act.put _ (some 79) _) _
                  simp only [Act.put, List.setIfInBounds_toArray, List.set_cons_zero, List.set_cons_succ]
                  refine wpAnyH_take (i := 5) (v := ?_) rfl (by kernel_rfl) (by kernel_rfl) (by kernel_rfl) (fun _ _ _ h => h) (Or.inl ⟨by rfl, ?_⟩) (by assumption) ?_
                  rotate_left
                  · intro w hSw
                    go_simp
                    with_reducible rfl
                  change wpAnyH _ _ _ _ _ _ _ (Act.put _ (some 80) _) _
                  simp only [Act.put, List.setIfInBounds_toArray, List.set_cons_zero, List.set_cons_succ]
                  refine wpAnyH_take (i := 6) (v := ?_) rfl (by kernel_rfl) (by kernel_rfl) (by kernel_rfl) (fun _ _ _ h => h) (Or.inl ⟨by rfl, ?_⟩) (by assumption) ?_
                  rotate_left
                  · intro w hSw
                    go_simp
                    with_reducible rfl
                  change wpAnyH _ _ _ _ _ _ _ (Act.put _ (some 81) _) _
                  simp only [Act.put, List.setIfInBounds_toArray, List.set_cons_zero, List.set_cons_succ]
                  refine wpAnyH_ready (rs := [7]) (by kernel_rfl) (by simp) ?_
                  refine AllReadyH.cons rfl (fun K hK => ?_) AllReadyH.nil
                  go_simp
                  refine (pass53 wC goal (.pointer p) t NSD.out NBD.out hOl).mono ?_
                  rintro e wD ⟨rfl, ns2, nk2⟩
                  have hP := HSI2.out.pass goal t (fun j hj hjl => Forced.hand HJL.out HFJ.out hjl (by rw [← HFX.out, ← HOP.out]) (by rw [← HFX.out, ← HGO.out, hj]))
                  rw [← HN.out] at hP
                  have HP := Lib.hid hP
                  have FBE := Lib.hid (FBD.out.keep (fun r hr => nk2.keep r (by simp only [List.mem_append] at hr ⊢; exact .inr hr)))
                  have BBE := Lib.hid (BBD.out.trans nk2.below)
                  have XE : Hid (Boxed wD B16 69 (.pointer p)) := Lib.hid ((nk2.keep B16 (by simp)).trans XD.out)
                  have NBE : Hid (NestB wD wD.heap.size t.reverse (.pointer p)) := Lib.hid ((NBD.out.keep nk2.nests).mono (by have := nk2.below.size; have := ZD.out; omega))
                  have ZE : Hid (mB ≤ wD.heap.size) := Lib.hid (by have := nk2.below.size; have := ZD.out; omega)
                  obtain ⟨r, hr⟩ : ∃ r, r = (passF Q n O goal t).1 := ⟨_, rfl⟩
                  rw [← hr] at HP ⊢
                  obtain ⟨Q2, hQ2⟩ : ∃ q, q = (passF Q n O goal t).2.1 := ⟨_, rfl⟩
                  obtain ⟨O2, hO2⟩ : ∃ q, q = (passF Q n O goal t).2.2 := ⟨_, rfl⟩
                  rw [← hQ2, ← hO2] at ns2 HP
                  have NSE := Lib.hid (ns2.mono ZE.out)
                  have cpE := FBE.out.cp.cell
                  rw [HFVx.out] at cpE
                  have clE := NSE.out.l.cell
                  have e4E : wD.cell? ⟨b, o + jn * 10 + 4, none⟩ = some (.int .i64 goal) := by
                    rw [HGO.out]
                    exact (BBE.out.cell (p := ⟨b, _, none⟩) hb).trans (HCL.out 4 (by omega))
                  have c16E := XE.out.cell
                  clear hr hQ2 hO2 ns2 nk2 hP NSD NBD FBD BBD XD ZD hB16lt hS
                  go_wp2_with fail
                  refine hK.out _ _ (⟨cpE, clE, e4E, c16E⟩) (fun hS => ?_)
                  clear hK K
                  try simp only [Act.put, List.setIfInBounds_toArray, List.set_cons_zero, List.set_cons_succ]
                  refine wpAnyH_take (i := 8) (v := ?_) rfl (by kernel_rfl) (by kernel_rfl) (by kernel_rfl) (fun _ _ _ h => h) (Or.inl ⟨by rfl, ?_⟩) (by assumption) ?_
                  rotate_left
                  · intro w hSw
                    go_simp
                    with_reducible rfl
                  change wpAnyH _ _ _ _ _ _ _ (Act.put _ (some 83) _) _
                  simp only [Act.put, List.setIfInBounds_toArray, List.set_cons_zero, List.set_cons_succ]
                  refine wpAnyH_done (by kernel_rfl) ?_ _
                  cases r with
                  | false =>
                    have HNO := Lib.hid (HP.out.1 rfl)
                    clear hS cpE clE e4E c16E
                    obtain ⟨e2, v2, e4', v3⟩ := three_facts FBE.out.c1 FBE.out.c2 FBE.out.c3 (.slice none 0 0) (.slice none 0 0)
                    have cc1 := FBE.out.c1.cell
                    have cc2 := FBE.out.c2.cell
                    have cc3 := FBE.out.c3.cell
                    have vv1 := FBE.out.c1.frozen
                    clear hJ hK
                    go_wp2_with fail
                    have bb := three_set FBE.out.c1 FBE.out.c2 FBE.out.c3 (.slice none 0 0) (.slice none 0 0) (.int .i64 182)
                    exact end_err rfl rfl rfl bb.1 bb.2.1 bb.2.2.1 HND.out (fun E hE => (bb.2.2.2.block E (Array.getElem?_eq_some_iff.1 (FBE.out.ds E hE)).1 (by
                      simp only [List.mem_cons, List.not_mem_nil, or_false, not_or]
                      exact ⟨Ne.symm (not_mark (FBE.out.ds E hE) FBE.out.c1), Ne.symm (not_mark (FBE.out.ds E hE) FBE.out.c2), Ne.symm (not_mark (FBE.out.ds E hE) FBE.out.c3)⟩)).trans (FBE.out.ds E hE)) HDL.out (BBE.out.trans (bb.2.2.2.below (by intro r hr; simp only [List.mem_cons, List.not_mem_nil, or_false] at hr; have := HA1.out; have := HA2.out; have := HA3.out; omega) BBE.out.size)) (by decide) (triesF_try HIN.out HNO.out)
                  | true =>
                    obtain ⟨si2, le2, ex2, cn2⟩ := HP.out.2 rfl
                    have SIR' := Lib.hid si2
                    have LER' := Lib.hid le2
                    have EX2 := Lib.hid ex2
                    have CN2 := Lib.hid cn2
                    clear si2 le2 ex2 cn2 HP hS cpE
                    go_upto_region 23 with fail
                    refine wp_region_held_drew (S := (fun w' => w'.cell? ⟨A0, 0, none⟩ = some (.slice (some ⟨b, o, none⟩) n cap) ∧ w'.cell? ⟨b, o + jn * 10 + 4, none⟩ = some (.int .i64 goal))) (by kernel_rfl) (⟨clE, e4E⟩) (fun hS => ?_)
                    have NSD := Lib.hid NSE.out.drew
                    have NBD : Hid (NestB wD.drew wD.heap.size t.reverse (.pointer p)) := Lib.hid (NestB.keep (w := wD) (w' := wD.drew) (fun _ _ h => Blk.drew h) NBE.out)
                    have FBD : Hid (FBx A1 A2 A3 Bp FV Ds wD.drew) := Lib.hid (FBE.out.keep (fun _ _ => rfl))
                    have BBD := Lib.hid BBE.out.drew
                    have XD : Hid (Boxed wD.drew B16 69 (.pointer p)) := Lib.hid XE.out
                    have ZD : Hid (wD.drew.heap.size = wD.heap.size) := Lib.hid rfl
                    have c16D : wD.drew.cell? ⟨B16, 0, none⟩ = some (.pointer p) := c16E
                    clear NSE NBE FBE BBE XE clE e4E c16E
                    generalize wD.drew = wE at *
                    obtain ⟨mD, hmD⟩ : ∃ q, q = wD.heap.size := ⟨_, rfl⟩
                    rw [← hmD] at NSD NBD ZD
                    clear hmD
                    refine wpAnyH_take (i := 1) (v := ?_) rfl (by kernel_rfl) (by kernel_rfl) (by kernel_rfl) (fun _ _ _ h => h) (Or.inl ⟨by rfl, ?_⟩) (by assumption) ?_
                    rotate_left
                    · intro w hSw
                      go_simp
                      with_reducible rfl
                    change wpAnyH _ _ _ _ _ _ _ (Act.put _ (some 85) _) _
                    simp only [Act.put, List.setIfInBounds_toArray, List.set_cons_zero, List.set_cons_succ]
                    refine wpAnyH_take (i := 2) (v := ?_) rfl (by kernel_rfl) (by kernel_rfl) (by kernel_rfl) (fun _ _ _ h => h) (Or.inl ⟨by rfl, ?_⟩) (by assumption) ?_
                    rotate_left
                    · intro w hSw
                      go_simp
                      with_reducible rfl
                    change wpAnyH _ _ _ _ _ _ _ (Act.put _ (some 86) _) _
                    simp only [Act.put, List.setIfInBounds_toArray, List.set_cons_zero, List.set_cons_succ]
                    refine wpAnyH_take (i := 3) (v := ?_) rfl (by kernel_rfl) (by kernel_rfl) (by kernel_rfl) (fun _ _ _ h => h) (Or.inl ⟨by rfl, ?_⟩) (by assumption) ?_
                    rotate_left
                    · intro w hSw
                      go_simp
                      with_reducible rfl
                    change wpAnyH _ _ _ _ _ _ _ (Act.put _ (some 87) _) _
                    simp only [Act.put, List.setIfInBounds_toArray, List.set_cons_zero, List.set_cons_succ]
                    refine wpAnyH_take (i := 4) (v := ?_) rfl (by kernel_rfl) (by kernel_rfl) (by kernel_rfl) (fun _ _ _ h => h) (Or.inl ⟨by rfl, ?_⟩) (by assumption) ?_
                    rotate_left
                    · intro w hSw
                      go_simp
                      with_reducible rfl
                    change wpAnyH _ _ _ _ _ _ _ (Act.put _ (some 88) _) _
                    simp only [Act.put, List.setIfInBounds_toArray, List.set_cons_zero, List.set_cons_succ]
                    refine wpAnyH_take (i := 5) (v := ?_) rfl (by kernel_rfl) (by kernel_rfl) (by kernel_rfl) (fun _ _ _ h => h) (Or.inl ⟨by rfl, ?_⟩) (by assumption) ?_
                    rotate_left
                    · intro w hSw
                      go_simp
                      with_reducible rfl
                    change wpAnyH _ _ _ _ _ _ _ (Act.put _ (some 89) _) _
                    simp only [Act.put, List.setIfInBounds_toArray, List.set_cons_zero, List.set_cons_succ]
                    refine wpAnyH_ready (rs := [0]) (by kernel_rfl) (by simp) ?_
                    refine AllReadyH.cons rfl (fun K hK => ?_) AllReadyH.nil
                    go_simp
                    refine hK.out _ _ (hS) (fun hS => ?_)
                    clear hK K
                    try simp only [Act.put, List.setIfInBounds_toArray, List.set_cons_zero, List.set_cons_succ]
                    refine wpAnyH_ready (rs := [6]) (by kernel_rfl) (by simp) ?_
                    refine AllReadyH.cons rfl (fun K hK => ?_) AllReadyH.nil
                    go_simp
                    refine (open55 t.reverse (.pointer p) goal wE NBD.out.at).mono ?_
                    rintro e wF ⟨vn, rfl, nb2, bf2⟩
                    obtain ⟨pn, rfl⟩ := nb2.ptr
                    have NSF := Lib.hid (NSD.out.below bf2 (Nat.le_refl _))
                    have FBF := Lib.hid (FBD.out.keep (fun r hr => bf2.block r (by have := (NSD.out.fr r (by simp only [List.mem_append] at hr ⊢; exact .inr hr)).1; omega)))
                    have BBF := Lib.hid (BBD.out.trans (bf2.mono BBD.out.size))
                    have XF : Hid (Boxed wF B16 69 (.pointer p)) := Lib.hid ((bf2.block B16 XD.out.lt).trans XD.out)
                    have NBF := Lib.hid nb2
                    have ZF : Hid (mD ≤ wF.heap.size) := Lib.hid (by have := bf2.size; have := ZD.out; omega)
                    have clF := NSF.out.l.cell
                    have e4F : wF.cell? ⟨b, o + jn * 10 + 4, none⟩ = some (.int .i64 goal) := by
                      rw [HGO.out]
                      exact (BBF.out.cell (p := ⟨b, _, none⟩) hb).trans (HCL.out 4 (by omega))
                    have c16F := XF.out.cell
                    have f16F := XF.out.frozen
                    clear nb2 bf2 NSD NBD FBD BBD XD ZD c16D hS
                    go_wp2_with fail
                    refine hK.out _ _ (⟨clF, e4F⟩) (fun hS => ?_)
                    clear hK K
                    try simp only [Act.put, List.setIfInBounds_toArray, List.set_cons_zero, List.set_cons_succ]
                    refine wpAnyH_ready (rs := [7]) (by kernel_rfl) (by simp) ?_
                    refine AllReadyH.cons rfl (fun K hK => ?_) AllReadyH.nil
                    go_simp
                    have hnf := NSF.out.setF (B := B16) (by simp) XF.out (.pointer pn)
                    have XR : Hid (Boxed (wF.setCell ⟨B16, 0, none⟩ (.pointer pn)) B16 69 (.pointer pn)) := Lib.hid (XF.out.set _)
                    have NSR' := Lib.hid hnf.1
                    have NBR' : Hid (NestB (wF.setCell ⟨B16, 0, none⟩ (.pointer pn)) (wF.setCell ⟨B16, 0, none⟩ (.pointer pn)).heap.size (t ++ [goal]).reverse (.pointer pn)) := Lib.hid (by
                      rw [List.reverse_append]
                      exact ((NBF.out.lows (Nat.le_refl _)).keep hnf.2.1).mono hnf.2.2.size)
                    have FBR' := Lib.hid (FBF.out.keep (fun r hr => hnf.2.2.block r (NSF.out.fr r (by simp only [List.mem_append] at hr ⊢; exact .inr hr)).1 (by
                      simp only [List.mem_singleton]
                      intro e
                      subst e
                      have hx := XF.out
                      simp only [List.mem_append, List.mem_cons, List.not_mem_nil, or_false] at hr
                      rcases hr with hr | rfl | rfl | rfl | rfl
                      · exact not_mark (FBF.out.ds _ hr) hx rfl
                      · exact blk_ne hx FBF.out.c1 (by decide) rfl
                      · exact blk_ne hx FBF.out.c2 (by decide) rfl
                      · exact blk_ne hx FBF.out.c3 (by decide) rfl
                      · exact blk_ne hx FBF.out.cp (by decide) rfl)))
                    have BBR' := Lib.hid (BBF.out.trans (hnf.2.2.below (by intro r hr; simp only [List.mem_singleton] at hr; have := HB16ge.out; have := HWr.out; omega) BBF.out.size))
                    have ZR : Hid (mD ≤ (wF.setCell ⟨B16, 0, none⟩ (.pointer pn)).heap.size) := Lib.hid (Nat.le_trans ZF.out hnf.2.2.size)
                    have clR : (wF.setCell ⟨B16, 0, none⟩ (.pointer pn)).cell? ⟨A0, 0, none⟩ = some (.slice (some ⟨b, o, none⟩) n cap) := hnf.1.l.cell
                    have e4R : (wF.setCell ⟨B16, 0, none⟩ (.pointer pn)).cell? ⟨b, o + jn * 10 + 4, none⟩ = some (.int .i64 goal) := by
                      rw [HGO.out]
                      exact (BBR'.out.cell (p := ⟨b, _, none⟩) hb).trans (HCL.out 4 (by omega))
                    clear hnf NSF NBF FBF BBF XF ZF clF e4F c16F f16F
                    refine hK.out _ _ (⟨clR, e4R⟩) (fun hS => ?_)
                    clear hK K
                    try simp only [Act.put, List.setIfInBounds_toArray, List.set_cons_zero, List.set_cons_succ]
                    refine wpAnyH_done (by kernel_rfl) ?_ _
                    clear hS clR e4R
                    obtain ⟨wR, hwR⟩ : ∃ q, q = wF.setCell ⟨B16, 0, none⟩ (.pointer pn) := ⟨_, rfl⟩
                    rw [← hwR] at NBR' NSR' FBR' BBR' XR ZR ⊢
                    clear hwR
                    obtain ⟨o2, ho2⟩ : ∃ q, q = t ++ [goal] := ⟨_, rfl⟩
                    rw [← ho2] at NBR'
                    have HO2 : Hid (aftF f.x t = some o2) := Lib.hid (by unfold aftF; rw [← HOP.out, if_pos rfl, ho2, HGO.out])
                    obtain ⟨QR, hQR⟩ : ∃ q, q = Q2 := ⟨_, rfl⟩
                    obtain ⟨OR, hOR⟩ : ∃ q, q = O2 := ⟨_, rfl⟩
                    obtain ⟨pr, hpr⟩ : ∃ q, q = pn := ⟨_, rfl⟩
                    rw [← hpr] at NBR' XR
                    rw [← hQR, ← hOR] at NSR' SIR' CN2
                    rw [← hQR] at LER' EX2
                    have NBR := NBR'
                    have NSR := Lib.hid (NSR'.out.mono ZR.out)
                    have FBR := FBR'
                    have BBR := BBR'
                    have SIR := SIR'
                    have LER := LER'
                    have HNR : Hid (∀ j : Nat, j < l.length → f.x.op = 28 → f.x.to = j → QR j = some t) := Lib.hid (fun j hj _ h => EX2.out j (by rw [HGO.out, h]) (by rw [HN.out]; exact hj))
                    have CNR : Hid (2 * un QR n + OR.length ≤ 2 * un Q n + q) := Lib.hid (by have := CN2.out; have := HQL.out; omega)
                    clear hQR hOR hpr ho2 NBR' NSR' FBR' BBR' SIR' LER' EX2 CN2 ZR HSI2 hOl
                    have NSRl := NSR.out.lts
                    have hszr := BBR.out.size
                    have clr := NSR.out.l.cell
                    obtain ⟨D, hD⟩ : ∃ q, q = wR.heap.size + 2 := ⟨_, rfl⟩
                    obtain ⟨wS, hwS⟩ : ∃ W, (wR.alloc (.cells #[.pointer (some ⟨b, o + jn * 10, none⟩)] 67)).alloc (.cells #[.int .i64 jn] 3) = W := ⟨_, rfl⟩
                    have BS : Hid (Below wR.heap.size wR wS) := Lib.hid (by rw [← hwS]; exact ((Below.refl _ wR).alloc (Nat.le_refl _) _).alloc (by simp) _)
                    have ZS : Hid (wS.heap.size = D) := Lib.hid (by rw [← hwS, hD]; simp)
                    have XS1 : Hid (Boxed wS (D - 2) 67 (.pointer (some ⟨b, o + jn * 10, none⟩))) := Lib.hid (by rw [← hwS, hD, Nat.add_sub_cancel]; exact (Boxed.new wR 67 _).alloc _)
                    have XS2 : Hid (Boxed wS (D - 1) 3 (.int .i64 jn)) := Lib.hid (by rw [← hwS, hD]; have := Boxed.new (wR.alloc (.cells #[.pointer (some ⟨b, o + jn * 10, none⟩)] 67)) 3 (.int .i64 jn); rw [World.size_alloc] at this; exact this)
                    have HD := Lib.hid hD
                    go_upto_region 28 with fail
                    go_wp2_with fail
                    refine (callsIn_wide.1 (targ36 Fence.wide 1 trivial rfl b (o + jn * 10) jn wR)).mono ?_
                    rintro e wS' ⟨rfl, hwS'⟩
                    rw [hwS] at hwS'
                    obtain rfl : wS = wS' := hwS'.symm
                    clear hwS hD clr
                    go_wp2_with fail
                    have hF0 : ∀ r ∈ B16 :: (Ds ++ [A1, A2, A3, Bp]), r < wR.heap.size := fun r hr => (NSR.out.fr r (by simp only [List.mem_cons, List.mem_append, List.not_mem_nil, or_false] at hr ⊢; exact hr)).1
                    have I0 : RgI l fr w A0 A1 A2 A3 p1 p2 Bo Bp g1 g2 B16 D b o n jn f (.slice (some ⟨b, o, none⟩) n cap) FV Ds o2 pr QR (2 * un QR n + OR.length) QR OR 0 wS := by
                      have hDv := HD.out
                      have hzS := ZS.out
                      have ns1 := (NSR.out.below BS.out (Nat.le_refl _)).mono (show wR.heap.size ≤ D by omega)
                      have offS : OffO Bo [D - 2, D - 1] wS := by
                        obtain ⟨v', o1, o2', _⟩ := NSR.out.op
                        intro v hv
                        have := ((BS.out.block _ o1.lt).trans o1).symm.trans hv
                        simp only [Option.some.injEq, Obj.cells.injEq, Array.mk.injEq, List.cons.injEq, and_true] at this
                        subst this
                        intro g' hg' hm
                        have := (o2'.lt g' hg').2
                        simp at hm
                        omega
                      refine ⟨?_, ns1.off [D, D + 1] (by intro r hr; simp at hr; omega), ⟨XS1.out, XS2.out, fun j hj => ?_, HFA.out.cases.keep (BBR.out.trans (BS.out.mono hszr))⟩, FBR.out.keep (fun r hr => BS.out.block r (hF0 r (by simp only [List.mem_cons]; exact .inr hr))), (BS.out.block _ XR.out.lt).trans XR.out, (NBR.out.keep (Keep71.below BS.out (Nat.le_refl _))).mono (by omega), BBR.out.trans (BS.out.mono hszr), SIR.out, LeQ.refl _, fun i hi j h => by omega, Nat.le_refl _⟩
                      · have := ns1.more [D - 2, D - 1] offS (by intro r hr; simp only [List.mem_cons, List.not_mem_nil, or_false] at hr; omega)
                        simpa using this
                      · rw [← HCL.out j hj]
                        exact (BBR.out.trans (BS.out.mono hszr)).cell (p := ⟨b, _, none⟩) hb
                    have eD1 : wR.heap.size = D - 2 := by have := HD.out; omega
                    have eD2 : D - 2 + 1 = D - 1 := by have := HD.out; omega
                    rw [eD1, eD2]
                    have hDlt : A0 < D ∧ p2 < D ∧ p1 < D ∧ Bo < D ∧ g2 < D ∧ g1 < D := by have := HD.out; omega
                    have hD2 : w.heap.size + 2 ≤ D := by have := HD.out; omega
                    have hFD : ∀ r ∈ B16 :: (Ds ++ [A1, A2, A3, Bp]), r < D := fun r hr => by have := hF0 r hr; have := HD.out; omega
                    have IP := Lib.hid I0
                    have HDLT := Lib.hid hDlt
                    have HD2 := Lib.hid hD2
                    have HFD := Lib.hid hFD
                    clear I0 hF0 NSRl hDlt hFD eD1 eD2
                    refine (wpIn_wide (n := 3)).1 ?_
                    refine' wpIn_rangeFunc_P (F := Fence.wide) (n := 3) rfl (by omega) (gf := 59) (lb := #[.pointer (some ⟨D - 2, 0, none⟩), .pointer (some ⟨D - 1, 0, none⟩)]) rfl trivial (enters_of Tryd.func59 (by kernel_rfl) rfl)
                      (targ_reads Fence.wide (3 - 1) trivial rfl (by omega) (D - 2) (D - 1) b (o + jn * 10) f jn (by omega) (by omega))
                      (fun _ => rfl)
                      (fun k W => ∃ Q' O', RgI l fr w A0 A1 A2 A3 p1 p2 Bo Bp g1 g2 B16 D b o n jn f (.slice (some ⟨b, o, none⟩) n cap) FV Ds o2 pr QR (2 * un QR n + OR.length) Q' O' k W) (fun c _ W => RgX l fr w A1 A2 A3 Ds c W) ?abides ?abx (fun _ _ h => by obtain ⟨_, _, h⟩ := h; exact h.pre) ⟨_, _, IP.out⟩
                      _ ?assign ?body ?done ?stop
                    case assign =>
                      intro l' x W K hK
                      gi_wp2
                      exact hK
                    case abides =>
                      rw [ZS.out]
                      rintro k A B ⟨Q', O', h⟩ ho
                      exact ⟨Q', O', h.only ho HD2.out HDLT.out HFD.out hb HFA.out.cases⟩
                    case abx =>
                      rw [ZS.out]
                      intro c k A B h ho
                      exact h.only ho (by have := HD2.out; omega) (fun r hr => HFD.out r (by simp only [List.mem_cons, List.mem_append, List.not_mem_nil, or_false] at hr ⊢; rcases hr with h | h | h | h <;> simp [h]))
                    case body =>
                      rw [ZS.out]
                      rintro l' k hk W ⟨Q', O', hI⟩ hz
                      have hkx : k < (targF f.x jn).length := hk
                      obtain ⟨x, hx⟩ : ∃ x, x = (targF f.x jn)[k] := ⟨_, rfl⟩
                      rw [← hx]
                      have HX := Lib.hid hx
                      have HI := Lib.hid hI
                      have off2 := hI.off
                      have nsF := hI.ns.more [D, D + 1] hI.off (by
                        intro r hr
                        have := HDLT.out
                        simp only [List.mem_cons, List.not_mem_nil, or_false] at hr
                        omega)
                      have cpp := hI.fb.cp.cell
                      rw [HFVx.out] at cpp
                      have cbx := hI.box.cell
                      have c1 := hI.fb.c1.cell
                      have c2 := hI.fb.c2.cell
                      have c3 := hI.fb.c3.cell
                      have hOl : O'.length + 1 ≤ 10000000000000 := by have := hI.si.cnt; have := HN.out; omega
                      have hP := hI.si.pass x o2 (fun j hj hjl => Forced.step HJL.out HFJ.out (by rw [← HFX.out]; exact HO2.out) hjl (by rw [← HFX.out, ← hj, hx]; exact List.getElem_mem _))
                      rw [← HN.out] at hP
                      have CP := Lib.hid (CallsIn.inRound l' ((callsIn_wide (n := 0)).2 (pass53 W x (.pointer pr) o2 nsF hI.nest hOl)))
                      have HP := Lib.hid hP
                      clear hx hI off2 nsF hP hOl
                      gi_wp2
                      refine ⟨trivial, ?_⟩
                      refine CP.out.mono ?_
                      rintro e W2 ⟨rfl, ns2, nk2⟩
                      have B2 := Lib.hid (HI.out.below.trans nk2.below)
                      have K2 : Hid (∀ r ∈ [D, D + 1] ++ ([D - 2, D - 1, B16] ++ (Ds ++ [A1, A2, A3, Bp])), W2.heap[r]? = W.heap[r]?) := Lib.hid nk2.keep
                      have FB2 := Lib.hid (HI.out.fb.keep (fun r hr => K2.out r (by simp only [List.mem_append] at hr ⊢; exact .inr (.inr hr))))
                      obtain ⟨r, hr⟩ : ∃ r, r = (passF Q' n O' x o2).1 := ⟨_, rfl⟩
                      rw [← hr] at HP ⊢
                      obtain ⟨Q2, hQ2⟩ : ∃ q, q = (passF Q' n O' x o2).2.1 := ⟨_, rfl⟩
                      obtain ⟨O2, hO2⟩ : ∃ q, q = (passF Q' n O' x o2).2.2 := ⟨_, rfl⟩
                      rw [← hQ2, ← hO2] at ns2 HP
                      have NS2 := Lib.hid ns2.less
                      have NE2 : Hid (NestB W2 D o2.reverse (.pointer pr)) := Lib.hid (HI.out.nest.keep nk2.nests)
                      have PR2 : Hid (TPre (D - 2) (D - 1) b (o + jn * 10) f jn W2) := Lib.hid (by
                        have hp := HI.out.pre
                        refine ⟨(K2.out _ (by simp)).trans hp.b1, (K2.out _ (by simp)).trans hp.b2, fun j hj => ?_, HFA.out.cases.keep B2.out⟩
                        rw [← HCL.out j hj]
                        exact B2.out.cell (p := ⟨b, _, none⟩) hb)
                      have BX2 : Hid (Boxed W2 B16 69 (.pointer pr)) := Lib.hid ((K2.out _ (by simp)).trans HI.out.box)
                      have KD : Hid (W2.heap[D]? = W.heap[D]? ∧ W2.heap[D + 1]? = W.heap[D + 1]?) := Lib.hid ⟨K2.out _ (by simp), K2.out _ (by simp)⟩
                      have HW2 : Hid (D + 2 ≤ W2.heap.size) := Lib.hid (by have := nk2.below.size; omega)
                      clear hr hQ2 hO2 ns2 nk2 K2 CP
                      cases r with
                      | true =>
                        obtain ⟨si2, le2, ex2, cn2⟩ := HP.out.2 rfl
                        have fin : Hid (RgI l fr w A0 A1 A2 A3 p1 p2 Bo Bp g1 g2 B16 D b o n jn f (.slice (some ⟨b, o, none⟩) n cap) FV Ds o2 pr QR (2 * un QR n + OR.length) Q2 O2 (k + 1) W2) := Lib.hid ⟨NS2.out.1, NS2.out.2, PR2.out, FB2.out, BX2.out, NE2.out, B2.out, si2, HI.out.le.trans le2, fun i hi j hik he hjl => by
                          rcases Nat.lt_succ_iff_lt_or_eq.1 hik with q' | q'
                          · exact le2 _ _ (HI.out.done i hi j q' he hjl)
                          · subst q'
                            exact ex2 j (by rw [HX.out]; exact he) (by rw [HN.out]; exact hjl), by have := HI.out.cnt; omega⟩
                        clear si2 le2 ex2 cn2 HP NS2 PR2 BX2 NE2 HI FB2 B2
                        gi_wp2
                        exact ⟨KD.out, Q2, O2, fin.out⟩
                      | false =>
                        have hno := HP.out.1 rfl
                        obtain ⟨e2, v2, e4, v3⟩ := three_facts FB2.out.c1 FB2.out.c2 FB2.out.c3 (.slice none 0 0) (.slice none 0 0)
                        have cc1 := FB2.out.c1.cell
                        have v1 := FB2.out.c1.frozen
                        have bb := three_set FB2.out.c1 FB2.out.c2 FB2.out.c3 (.slice none 0 0) (.slice none 0 0) (.int .i64 182)
                        have hA : A1 < D ∧ A2 < D ∧ A3 < D := ⟨HFD.out _ (by simp), HFD.out _ (by simp), HFD.out _ (by simp)⟩
                        have fin : Hid ((_ ∧ _) ∧ RgX l fr w A1 A2 A3 Ds .ret (((W2.setCell ⟨A1, 0, none⟩ (.slice none 0 0)).setCell ⟨A2, 0, none⟩ (.slice none 0 0)).setCell ⟨A3, 0, none⟩ (.int .i64 182))) := Lib.hid ⟨⟨(bb.2.2.2.block D (by have := HW2.out; omega) (by simp only [List.mem_cons, List.not_mem_nil, or_false, not_or]; omega)).trans KD.out.1, (bb.2.2.2.block (D + 1) (by have := HW2.out; omega) (by simp only [List.mem_cons, List.not_mem_nil, or_false, not_or]; omega)).trans KD.out.2⟩, rfl, bb.1, bb.2.1, bb.2.2.1, fun E hE => (bb.2.2.2.block E (Array.getElem?_eq_some_iff.1 (FB2.out.ds E hE)).1 (by
                          simp only [List.mem_cons, List.not_mem_nil, or_false, not_or]
                          exact ⟨Ne.symm (not_mark (FB2.out.ds E hE) FB2.out.c1), Ne.symm (not_mark (FB2.out.ds E hE) FB2.out.c2), Ne.symm (not_mark (FB2.out.ds E hE) FB2.out.c3)⟩)).trans (FB2.out.ds E hE), B2.out.trans (bb.2.2.2.below (by intro r hr; simp only [List.mem_cons, List.not_mem_nil, or_false] at hr; have := HA1.out; have := HA2.out; have := HA3.out; omega) B2.out.size), hno⟩
                        clear bb hno HP NS2 PR2 BX2 NE2 HI FB2 B2
                        gi_wp2
                        exact fin.out
                    case done =>
                      rw [ZS.out]
                      rintro W hz ⟨Q', O', hI⟩ hDm
                      have HI := Lib.hid hI
                      have hnD : D ∉ Ds := fun hm => by have := HFD.out D (by simp [hm]); omega
                      have hdon : Don l Q' jn t := fun hi => ⟨fun j hj h1 h2 => hI.le _ _ (HNR.out j hj (by rw [HFX.out]; exact h1) (by rw [HFX.out]; exact h2)), o2, by rw [← HFX.out]; exact HO2.out, fun j hj hm => by
                        rw [← HFX.out] at hm
                        obtain ⟨i, hi', e⟩ := List.getElem_of_mem hm
                        exact hI.done i hi' j hi' e hj⟩
                      have hsi : SI l fr Q' O' (-1) := hI.si.done (hI.le _ _ (LER.out _ _ HQJ.out)) hdon
                      have hns : NS A0 p2 p1 Bo g2 g1 w.heap.size W.heap.size (.slice (some ⟨b, o, none⟩) n cap) n ((D :: Ds) ++ [A1, A2, A3, Bp]) Q' O' W := by
                        have h1 := (hI.ns.less.1.mono (show D ≤ W.heap.size by omega)).more [D] (fun v hv g' hg' hm => hI.off v hv g' hg' (by simp only [List.mem_singleton] at hm; simp [hm])) (by
                          intro r hr
                          have := HDLT.out
                          simp only [List.mem_singleton] at hr
                          omega)
                        simpa using h1
                      have hfb : FBx A1 A2 A3 Bp FV (D :: Ds) W := ⟨hI.fb.c1, hI.fb.c2, hI.fb.c3, hI.fb.cp, fun E hE => by
                        rcases List.mem_cons.1 hE with rfl | hE
                        · exact hDm
                        · exact hI.fb.ds E hE⟩
                      have hnd : (D :: Ds).Nodup := List.nodup_cons.2 ⟨hnD, HND.out⟩
                      have hdl : ∀ E ∈ D :: Ds, w.heap.size ≤ E := fun E hE => by
                        rcases List.mem_cons.1 hE with rfl | hE
                        · have := HD2.out; omega
                        · exact HDL.out E hE
                      have hcn : 2 * un Q' n + O'.length < mu := by have h1 := hI.cnt; have h2 := CNR.out; have h3 := HMU.out; have h4 := HQL.out; simp only [List.length_append, List.length_cons, List.length_nil] at h3; omega
                      have hen : ∀ i : Nat, (i : Int) ∈ fr → i < l.length → Q' i = some [] := fun i h1 h2 => hI.le _ _ (LER.out _ _ (HEN.out i h1 h2))
                      have FIN := Lib.hid (And.intro (Lib.hid hnd) (And.intro (Lib.hid hdl) (And.intro (Lib.hid hns) (And.intro (Lib.hid hfb) (And.intro (Lib.hid hI.below) (And.intro (Lib.hid hsi) (Lib.hid hen)))))))
                      have HCN := Lib.hid hcn
                      clear hI hnD hdon hsi hns hfb hnd hdl hcn hen hDm
                      go_wp2_with fail
                      refine Handed.intro (2 * un Q' n + O'.length) HCN.out (hJ _ _ _ ?_)
                      refine ⟨D :: Ds, Q', O', ?_⟩
                      (repeat apply Exists.intro)
                      exact ⟨⟨rfl, FIN.out⟩, rfl⟩
                    case stop =>
                      rw [ZS.out]
                      intro c k W hz hk hX hDm
                      have hnD : D ∉ Ds := fun hm => by have := HFD.out D (by simp [hm]); omega
                      obtain rfl := hX.ret
                      have HXX := Lib.hid hX
                      have HDM := Lib.hid hDm
                      clear hX hDm
                      gi_wp2
                      exact end_err (Ds := D :: Ds) rfl rfl rfl HXX.out.b1 HXX.out.b2 HXX.out.b3 (List.nodup_cons.2 ⟨hnD, HND.out⟩) (fun E hE => by
                        rcases List.mem_cons.1 hE with rfl | hE
                        · exact HDM.out
                        · exact HXX.out.ds E hE) (fun E hE => by
                        rcases List.mem_cons.1 hE with rfl | hE
                        · have := HD2.out; omega
                        · exact HDL.out E hE) HXX.out.below (by decide) (triesF_try HIN.out HXX.out.no)
                · have d28 : (op == 28) = false := by rw [beq_eq_false_iff_ne]; exact h28
                  by_cases h29 : op = 29
                  · subst h29
                    rcases List.eq_nil_or_concat t with ht | ⟨t', z, ht⟩
                    · have hp0 : p = none := by
                        have := NBB.out
                        rw [ht] at this
                        simpa [NestB] using this
                      subst hp0
                      have HNO : Hid (¬ ∃ T, Fits l fr T) := Lib.hid (Forced.shut HJL.out HFJ.out (by rw [← HFX.out]; unfold aftF; rw [← HOP.out, ht]; rfl))
                      clear NSC NBB XA ht
                      have FBE := FBB
                      have BBE := BB
                      obtain ⟨e2, v2, e4', v3⟩ := three_facts FBE.out.c1 FBE.out.c2 FBE.out.c3 (.slice none 0 0) (.slice none 0 0)
                      have cc1 := FBE.out.c1.cell
                      have cc2 := FBE.out.c2.cell
                      have cc3 := FBE.out.c3.cell
                      have vv1 := FBE.out.c1.frozen
                      clear hJ hK
                      go_wp2_with fail
                      have bb := three_set FBE.out.c1 FBE.out.c2 FBE.out.c3 (.slice none 0 0) (.slice none 0 0) (.int .i64 182)
                      exact end_err rfl rfl rfl bb.1 bb.2.1 bb.2.2.1 HND.out (fun E hE => (bb.2.2.2.block E (Array.getElem?_eq_some_iff.1 (FBE.out.ds E hE)).1 (by
                        simp only [List.mem_cons, List.not_mem_nil, or_false, not_or]
                        exact ⟨Ne.symm (not_mark (FBE.out.ds E hE) FBE.out.c1), Ne.symm (not_mark (FBE.out.ds E hE) FBE.out.c2), Ne.symm (not_mark (FBE.out.ds E hE) FBE.out.c3)⟩)).trans (FBE.out.ds E hE)) HDL.out (BBE.out.trans (bb.2.2.2.below (by intro r hr; simp only [List.mem_cons, List.not_mem_nil, or_false] at hr; have := HA1.out; have := HA2.out; have := HA3.out; omega) BBE.out.size)) (by decide) (triesF_try HIN.out HNO.out)
                    · rw [List.concat_eq_append] at ht
                      have hnb := NBB.out
                      rw [ht, List.reverse_append] at hnb
                      obtain ⟨b71, outer, hp1, hlt71, hbk, hout⟩ := hnb
                      simp only [Value.pointer.injEq] at hp1
                      subst hp1
                      obtain ⟨po, rfl⟩ := hout.at.ptr
                      have c71 := hbk.cell 1
                      simp only [List.getElem?_toArray, List.getElem?_cons_succ, List.getElem?_cons_zero] at c71
                      have HOUT := Lib.hid hout
                      have hnf := NSC.out.setF (B := B16) (by simp) XA.out (.pointer po)
                      have XR : Hid (Boxed (wB.setCell ⟨B16, 0, none⟩ (.pointer po)) B16 69 (.pointer po)) := Lib.hid (XA.out.set _)
                      have NSR' := Lib.hid (hnf.1.mono hnf.2.2.size)
                      have NBR' : Hid (NestB (wB.setCell ⟨B16, 0, none⟩ (.pointer po)) (wB.setCell ⟨B16, 0, none⟩ (.pointer po)).heap.size t'.reverse (.pointer po)) := Lib.hid ((HOUT.out.keep hnf.2.1).mono hnf.2.2.size)
                      have FBR' := Lib.hid (FBB.out.keep (fun r hr => hnf.2.2.block r (NSC.out.fr r (by simp only [List.mem_append] at hr ⊢; exact .inr hr)).1 (by
                        simp only [List.mem_singleton]
                        intro e
                        subst e
                        have hx := XA.out
                        simp only [List.mem_append, List.mem_cons, List.not_mem_nil, or_false] at hr
                        rcases hr with hr | rfl | rfl | rfl | rfl
                        · exact not_mark (FBB.out.ds _ hr) hx rfl
                        · exact blk_ne hx FBB.out.c1 (by decide) rfl
                        · exact blk_ne hx FBB.out.c2 (by decide) rfl
                        · exact blk_ne hx FBB.out.c3 (by decide) rfl
                        · exact blk_ne hx FBB.out.cp (by decide) rfl)))
                      have BBR' := Lib.hid (BB.out.trans (hnf.2.2.below (by intro r hr; simp only [List.mem_singleton] at hr; have := HB16ge.out; have := HWr.out; omega) BB.out.size))
                      clear hnf hbk hout hlt71 NSC NBB FBB BB XA HOUT
                      go_upto_region 28 with fail
                      obtain ⟨wR, hwR⟩ : ∃ q, q = wB.setCell ⟨B16, 0, none⟩ (.pointer po) := ⟨_, rfl⟩
                      rw [← hwR] at NBR' NSR' FBR' BBR' XR ⊢
                      obtain ⟨o2, ho2⟩ : ∃ q, q = t' := ⟨_, rfl⟩
                      rw [← ho2] at NBR'
                      have HO2 : Hid (aftF f.x t = some o2) := Lib.hid (by unfold aftF; rw [← HOP.out, ht, ho2]; simp)
                      obtain ⟨QR, hQR⟩ : ∃ q, q = Q := ⟨_, rfl⟩
                      obtain ⟨OR, hOR⟩ : ∃ q, q = O := ⟨_, rfl⟩
                      obtain ⟨pr, hpr⟩ : ∃ q, q = po := ⟨_, rfl⟩
                      rw [← hpr] at NBR' XR
                      have SIR := HSI2
                      rw [← hQR, ← hOR] at NSR' SIR
                      have NBR := NBR'
                      have NSR := NSR'
                      have FBR := FBR'
                      have BBR := BBR'
                      have LER : Hid (LeQ Q QR) := Lib.hid (by rw [hQR]; exact LeQ.refl _)
                      have HNR : Hid (∀ j : Nat, j < l.length → f.x.op = 28 → f.x.to = j → QR j = some t) := Lib.hid (fun j _ h => absurd (HOP.out.trans h) (by decide))
                      have CNR : Hid (2 * un QR n + OR.length ≤ 2 * un Q n + q) := Lib.hid (by rw [hQR, hOR, HQL.out]; exact Nat.le_refl _)
                      clear hQR hOR hpr ho2 NBR' NSR' FBR' BBR' HSI2 hwR ht c71 cl cp c16 f16 e0 e4 d28
                      have NSRl := NSR.out.lts
                      have hszr := BBR.out.size
                      have clr := NSR.out.l.cell
                      obtain ⟨D, hD⟩ : ∃ q, q = wR.heap.size + 2 := ⟨_, rfl⟩
                      obtain ⟨wS, hwS⟩ : ∃ W, (wR.alloc (.cells #[.pointer (some ⟨b, o + jn * 10, none⟩)] 67)).alloc (.cells #[.int .i64 jn] 3) = W := ⟨_, rfl⟩
                      have BS : Hid (Below wR.heap.size wR wS) := Lib.hid (by rw [← hwS]; exact ((Below.refl _ wR).alloc (Nat.le_refl _) _).alloc (by simp) _)
                      have ZS : Hid (wS.heap.size = D) := Lib.hid (by rw [← hwS, hD]; simp)
                      have XS1 : Hid (Boxed wS (D - 2) 67 (.pointer (some ⟨b, o + jn * 10, none⟩))) := Lib.hid (by rw [← hwS, hD, Nat.add_sub_cancel]; exact (Boxed.new wR 67 _).alloc _)
                      have XS2 : Hid (Boxed wS (D - 1) 3 (.int .i64 jn)) := Lib.hid (by rw [← hwS, hD]; have := Boxed.new (wR.alloc (.cells #[.pointer (some ⟨b, o + jn * 10, none⟩)] 67)) 3 (.int .i64 jn); rw [World.size_alloc] at this; exact this)
                      have HD := Lib.hid hD
                      go_upto_region 28 with fail
                      go_wp2_with fail
                      refine (callsIn_wide.1 (targ36 Fence.wide 1 trivial rfl b (o + jn * 10) jn wR)).mono ?_
                      rintro e wS' ⟨rfl, hwS'⟩
                      rw [hwS] at hwS'
                      obtain rfl : wS = wS' := hwS'.symm
                      clear hwS hD clr
                      go_wp2_with fail
                      have hF0 : ∀ r ∈ B16 :: (Ds ++ [A1, A2, A3, Bp]), r < wR.heap.size := fun r hr => (NSR.out.fr r (by simp only [List.mem_cons, List.mem_append, List.not_mem_nil, or_false] at hr ⊢; exact hr)).1
                      have I0 : RgI l fr w A0 A1 A2 A3 p1 p2 Bo Bp g1 g2 B16 D b o n jn f (.slice (some ⟨b, o, none⟩) n cap) FV Ds o2 pr QR (2 * un QR n + OR.length) QR OR 0 wS := by
                        have hDv := HD.out
                        have hzS := ZS.out
                        have ns1 := (NSR.out.below BS.out (Nat.le_refl _)).mono (show wR.heap.size ≤ D by omega)
                        have offS : OffO Bo [D - 2, D - 1] wS := by
                          obtain ⟨v', o1, o2', _⟩ := NSR.out.op
                          intro v hv
                          have := ((BS.out.block _ o1.lt).trans o1).symm.trans hv
                          simp only [Option.some.injEq, Obj.cells.injEq, Array.mk.injEq, List.cons.injEq, and_true] at this
                          subst this
                          intro g' hg' hm
                          have := (o2'.lt g' hg').2
                          simp at hm
                          omega
                        refine ⟨?_, ns1.off [D, D + 1] (by intro r hr; simp at hr; omega), ⟨XS1.out, XS2.out, fun j hj => ?_, HFA.out.cases.keep (BBR.out.trans (BS.out.mono hszr))⟩, FBR.out.keep (fun r hr => BS.out.block r (hF0 r (by simp only [List.mem_cons]; exact .inr hr))), (BS.out.block _ XR.out.lt).trans XR.out, (NBR.out.keep (Keep71.below BS.out (Nat.le_refl _))).mono (by omega), BBR.out.trans (BS.out.mono hszr), SIR.out, LeQ.refl _, fun i hi j h => by omega, Nat.le_refl _⟩
                        · have := ns1.more [D - 2, D - 1] offS (by intro r hr; simp only [List.mem_cons, List.not_mem_nil, or_false] at hr; omega)
                          simpa using this
                        · rw [← HCL.out j hj]
                          exact (BBR.out.trans (BS.out.mono hszr)).cell (p := ⟨b, _, none⟩) hb
                      have eD1 : wR.heap.size = D - 2 := by have := HD.out; omega
                      have eD2 : D - 2 + 1 = D - 1 := by have := HD.out; omega
                      rw [eD1, eD2]
                      have hDlt : A0 < D ∧ p2 < D ∧ p1 < D ∧ Bo < D ∧ g2 < D ∧ g1 < D := by have := HD.out; omega
                      have hD2 : w.heap.size + 2 ≤ D := by have := HD.out; omega
                      have hFD : ∀ r ∈ B16 :: (Ds ++ [A1, A2, A3, Bp]), r < D := fun r hr => by have := hF0 r hr; have := HD.out; omega
                      have IP := Lib.hid I0
                      have HDLT := Lib.hid hDlt
                      have HD2 := Lib.hid hD2
                      have HFD := Lib.hid hFD
                      clear I0 hF0 NSRl hDlt hFD eD1 eD2
                      refine (wpIn_wide (n := 3)).1 ?_
                      refine' wpIn_rangeFunc_P (F := Fence.wide) (n := 3) rfl (by omega) (gf := 59) (lb := #[.pointer (some ⟨D - 2, 0, none⟩), .pointer (some ⟨D - 1, 0, none⟩)]) rfl trivial (enters_of Tryd.func59 (by kernel_rfl) rfl)
                        (targ_reads Fence.wide (3 - 1) trivial rfl (by omega) (D - 2) (D - 1) b (o + jn * 10) f jn (by omega) (by omega))
                        (fun _ => rfl)
                        (fun k W => ∃ Q' O', RgI l fr w A0 A1 A2 A3 p1 p2 Bo Bp g1 g2 B16 D b o n jn f (.slice (some ⟨b, o, none⟩) n cap) FV Ds o2 pr QR (2 * un QR n + OR.length) Q' O' k W) (fun c _ W => RgX l fr w A1 A2 A3 Ds c W) ?abides ?abx (fun _ _ h => by obtain ⟨_, _, h⟩ := h; exact h.pre) ⟨_, _, IP.out⟩
                        _ ?assign ?body ?done ?stop
                      case assign =>
                        intro l' x W K hK
                        gi_wp2
                        exact hK
                      case abides =>
                        rw [ZS.out]
                        rintro k A B ⟨Q', O', h⟩ ho
                        exact ⟨Q', O', h.only ho HD2.out HDLT.out HFD.out hb HFA.out.cases⟩
                      case abx =>
                        rw [ZS.out]
                        intro c k A B h ho
                        exact h.only ho (by have := HD2.out; omega) (fun r hr => HFD.out r (by simp only [List.mem_cons, List.mem_append, List.not_mem_nil, or_false] at hr ⊢; rcases hr with h | h | h | h <;> simp [h]))
                      case body =>
                        rw [ZS.out]
                        rintro l' k hk W ⟨Q', O', hI⟩ hz
                        have hkx : k < (targF f.x jn).length := hk
                        obtain ⟨x, hx⟩ : ∃ x, x = (targF f.x jn)[k] := ⟨_, rfl⟩
                        rw [← hx]
                        have HX := Lib.hid hx
                        have HI := Lib.hid hI
                        have off2 := hI.off
                        have nsF := hI.ns.more [D, D + 1] hI.off (by
                          intro r hr
                          have := HDLT.out
                          simp only [List.mem_cons, List.not_mem_nil, or_false] at hr
                          omega)
                        have cpp := hI.fb.cp.cell
                        rw [HFVx.out] at cpp
                        have cbx := hI.box.cell
                        have c1 := hI.fb.c1.cell
                        have c2 := hI.fb.c2.cell
                        have c3 := hI.fb.c3.cell
                        have hOl : O'.length + 1 ≤ 10000000000000 := by have := hI.si.cnt; have := HN.out; omega
                        have hP := hI.si.pass x o2 (fun j hj hjl => Forced.step HJL.out HFJ.out (by rw [← HFX.out]; exact HO2.out) hjl (by rw [← HFX.out, ← hj, hx]; exact List.getElem_mem _))
                        rw [← HN.out] at hP
                        have CP := Lib.hid (CallsIn.inRound l' ((callsIn_wide (n := 0)).2 (pass53 W x (.pointer pr) o2 nsF hI.nest hOl)))
                        have HP := Lib.hid hP
                        clear hx hI off2 nsF hP hOl
                        gi_wp2
                        refine ⟨trivial, ?_⟩
                        refine CP.out.mono ?_
                        rintro e W2 ⟨rfl, ns2, nk2⟩
                        have B2 := Lib.hid (HI.out.below.trans nk2.below)
                        have K2 : Hid (∀ r ∈ [D, D + 1] ++ ([D - 2, D - 1, B16] ++ (Ds ++ [A1, A2, A3, Bp])), W2.heap[r]? = W.heap[r]?) := Lib.hid nk2.keep
                        have FB2 := Lib.hid (HI.out.fb.keep (fun r hr => K2.out r (by simp only [List.mem_append] at hr ⊢; exact .inr (.inr hr))))
                        obtain ⟨r, hr⟩ : ∃ r, r = (passF Q' n O' x o2).1 := ⟨_, rfl⟩
                        rw [← hr] at HP ⊢
                        obtain ⟨Q2, hQ2⟩ : ∃ q, q = (passF Q' n O' x o2).2.1 := ⟨_, rfl⟩
                        obtain ⟨O2, hO2⟩ : ∃ q, q = (passF Q' n O' x o2).2.2 := ⟨_, rfl⟩
                        rw [← hQ2, ← hO2] at ns2 HP
                        have NS2 := Lib.hid ns2.less
                        have NE2 : Hid (NestB W2 D o2.reverse (.pointer pr)) := Lib.hid (HI.out.nest.keep nk2.nests)
                        have PR2 : Hid (TPre (D - 2) (D - 1) b (o + jn * 10) f jn W2) := Lib.hid (by
                          have hp := HI.out.pre
                          refine ⟨(K2.out _ (by simp)).trans hp.b1, (K2.out _ (by simp)).trans hp.b2, fun j hj => ?_, HFA.out.cases.keep B2.out⟩
                          rw [← HCL.out j hj]
                          exact B2.out.cell (p := ⟨b, _, none⟩) hb)
                        have BX2 : Hid (Boxed W2 B16 69 (.pointer pr)) := Lib.hid ((K2.out _ (by simp)).trans HI.out.box)
                        have KD : Hid (W2.heap[D]? = W.heap[D]? ∧ W2.heap[D + 1]? = W.heap[D + 1]?) := Lib.hid ⟨K2.out _ (by simp), K2.out _ (by simp)⟩
                        have HW2 : Hid (D + 2 ≤ W2.heap.size) := Lib.hid (by have := nk2.below.size; omega)
                        clear hr hQ2 hO2 ns2 nk2 K2 CP
                        cases r with
                        | true =>
                          obtain ⟨si2, le2, ex2, cn2⟩ := HP.out.2 rfl
                          have fin : Hid (RgI l fr w A0 A1 A2 A3 p1 p2 Bo Bp g1 g2 B16 D b o n jn f (.slice (some ⟨b, o, none⟩) n cap) FV Ds o2 pr QR (2 * un QR n + OR.length) Q2 O2 (k + 1) W2) := Lib.hid ⟨NS2.out.1, NS2.out.2, PR2.out, FB2.out, BX2.out, NE2.out, B2.out, si2, HI.out.le.trans le2, fun i hi j hik he hjl => by
                            rcases Nat.lt_succ_iff_lt_or_eq.1 hik with q' | q'
                            · exact le2 _ _ (HI.out.done i hi j q' he hjl)
                            · subst q'
                              exact ex2 j (by rw [HX.out]; exact he) (by rw [HN.out]; exact hjl), by have := HI.out.cnt; omega⟩
                          clear si2 le2 ex2 cn2 HP NS2 PR2 BX2 NE2 HI FB2 B2
                          gi_wp2
                          exact ⟨KD.out, Q2, O2, fin.out⟩
                        | false =>
                          have hno := HP.out.1 rfl
                          obtain ⟨e2, v2, e4, v3⟩ := three_facts FB2.out.c1 FB2.out.c2 FB2.out.c3 (.slice none 0 0) (.slice none 0 0)
                          have cc1 := FB2.out.c1.cell
                          have v1 := FB2.out.c1.frozen
                          have bb := three_set FB2.out.c1 FB2.out.c2 FB2.out.c3 (.slice none 0 0) (.slice none 0 0) (.int .i64 182)
                          have hA : A1 < D ∧ A2 < D ∧ A3 < D := ⟨HFD.out _ (by simp), HFD.out _ (by simp), HFD.out _ (by simp)⟩
                          have fin : Hid ((_ ∧ _) ∧ RgX l fr w A1 A2 A3 Ds .ret (((W2.setCell ⟨A1, 0, none⟩ (.slice none 0 0)).setCell ⟨A2, 0, none⟩ (.slice none 0 0)).setCell ⟨A3, 0, none⟩ (.int .i64 182))) := Lib.hid ⟨⟨(bb.2.2.2.block D (by have := HW2.out; omega) (by simp only [List.mem_cons, List.not_mem_nil, or_false, not_or]; omega)).trans KD.out.1, (bb.2.2.2.block (D + 1) (by have := HW2.out; omega) (by simp only [List.mem_cons, List.not_mem_nil, or_false, not_or]; omega)).trans KD.out.2⟩, rfl, bb.1, bb.2.1, bb.2.2.1, fun E hE => (bb.2.2.2.block E (Array.getElem?_eq_some_iff.1 (FB2.out.ds E hE)).1 (by
                            simp only [List.mem_cons, List.not_mem_nil, or_false, not_or]
                            exact ⟨Ne.symm (not_mark (FB2.out.ds E hE) FB2.out.c1), Ne.symm (not_mark (FB2.out.ds E hE) FB2.out.c2), Ne.symm (not_mark (FB2.out.ds E hE) FB2.out.c3)⟩)).trans (FB2.out.ds E hE), B2.out.trans (bb.2.2.2.below (by intro r hr; simp only [List.mem_cons, List.not_mem_nil, or_false] at hr; have := HA1.out; have := HA2.out; have := HA3.out; omega) B2.out.size), hno⟩
                          clear bb hno HP NS2 PR2 BX2 NE2 HI FB2 B2
                          gi_wp2
                          exact fin.out
                      case done =>
                        rw [ZS.out]
                        rintro W hz ⟨Q', O', hI⟩ hDm
                        have HI := Lib.hid hI
                        have hnD : D ∉ Ds := fun hm => by have := HFD.out D (by simp [hm]); omega
                        have hdon : Don l Q' jn t := fun hi => ⟨fun j hj h1 h2 => hI.le _ _ (HNR.out j hj (by rw [HFX.out]; exact h1) (by rw [HFX.out]; exact h2)), o2, by rw [← HFX.out]; exact HO2.out, fun j hj hm => by
                          rw [← HFX.out] at hm
                          obtain ⟨i, hi', e⟩ := List.getElem_of_mem hm
                          exact hI.done i hi' j hi' e hj⟩
                        have hsi : SI l fr Q' O' (-1) := hI.si.done (hI.le _ _ (LER.out _ _ HQJ.out)) hdon
                        have hns : NS A0 p2 p1 Bo g2 g1 w.heap.size W.heap.size (.slice (some ⟨b, o, none⟩) n cap) n ((D :: Ds) ++ [A1, A2, A3, Bp]) Q' O' W := by
                          have h1 := (hI.ns.less.1.mono (show D ≤ W.heap.size by omega)).more [D] (fun v hv g' hg' hm => hI.off v hv g' hg' (by simp only [List.mem_singleton] at hm; simp [hm])) (by
                            intro r hr
                            have := HDLT.out
                            simp only [List.mem_singleton] at hr
                            omega)
                          simpa using h1
                        have hfb : FBx A1 A2 A3 Bp FV (D :: Ds) W := ⟨hI.fb.c1, hI.fb.c2, hI.fb.c3, hI.fb.cp, fun E hE => by
                          rcases List.mem_cons.1 hE with rfl | hE
                          · exact hDm
                          · exact hI.fb.ds E hE⟩
                        have hnd : (D :: Ds).Nodup := List.nodup_cons.2 ⟨hnD, HND.out⟩
                        have hdl : ∀ E ∈ D :: Ds, w.heap.size ≤ E := fun E hE => by
                          rcases List.mem_cons.1 hE with rfl | hE
                          · have := HD2.out; omega
                          · exact HDL.out E hE
                        have hcn : 2 * un Q' n + O'.length < mu := by have h1 := hI.cnt; have h2 := CNR.out; have h3 := HMU.out; have h4 := HQL.out; simp only [List.length_append, List.length_cons, List.length_nil] at h3; omega
                        have hen : ∀ i : Nat, (i : Int) ∈ fr → i < l.length → Q' i = some [] := fun i h1 h2 => hI.le _ _ (LER.out _ _ (HEN.out i h1 h2))
                        have FIN := Lib.hid (And.intro (Lib.hid hnd) (And.intro (Lib.hid hdl) (And.intro (Lib.hid hns) (And.intro (Lib.hid hfb) (And.intro (Lib.hid hI.below) (And.intro (Lib.hid hsi) (Lib.hid hen)))))))
                        have HCN := Lib.hid hcn
                        clear hI hnD hdon hsi hns hfb hnd hdl hcn hen hDm
                        go_wp2_with fail
                        refine Handed.intro (2 * un Q' n + O'.length) HCN.out (hJ _ _ _ ?_)
                        refine ⟨D :: Ds, Q', O', ?_⟩
                        (repeat apply Exists.intro)
                        exact ⟨⟨rfl, FIN.out⟩, rfl⟩
                      case stop =>
                        rw [ZS.out]
                        intro c k W hz hk hX hDm
                        have hnD : D ∉ Ds := fun hm => by have := HFD.out D (by simp [hm]); omega
                        obtain rfl := hX.ret
                        have HXX := Lib.hid hX
                        have HDM := Lib.hid hDm
                        clear hX hDm
                        gi_wp2
                        exact end_err (Ds := D :: Ds) rfl rfl rfl HXX.out.b1 HXX.out.b2 HXX.out.b3 (List.nodup_cons.2 ⟨hnD, HND.out⟩) (fun E hE => by
                          rcases List.mem_cons.1 hE with rfl | hE
                          · exact HDM.out
                          · exact HXX.out.ds E hE) (fun E hE => by
                          rcases List.mem_cons.1 hE with rfl | hE
                          · have := HD2.out; omega
                          · exact HDL.out E hE) HXX.out.below (by decide) (triesF_try HIN.out HXX.out.no)
                  · have d29 : (op == 29) = false := by rw [beq_eq_false_iff_ne]; exact h29
                    go_upto_region 28 with fail
                    obtain ⟨o2, ho2⟩ : ∃ q, q = t := ⟨_, rfl⟩
                    have HO2 : Hid (aftF f.x t = some o2) := Lib.hid (by unfold aftF; rw [← HOP.out, if_neg h28, if_neg h29, ho2])
                    have NBR : Hid (NestB wB wB.heap.size o2.reverse (.pointer p)) := by rw [ho2]; exact NBB
                    have NSR := NSC
                    have FBR := FBB
                    have BBR := BB
                    have XR := XA
                    have SIR := HSI2
                    have HNR : Hid (∀ j : Nat, j < l.length → f.x.op = 28 → f.x.to = j → Q j = some t) := Lib.hid (fun j _ h => absurd (HOP.out.trans h) h28)
                    have CNR : Hid (2 * un Q n + O.length ≤ 2 * un Q n + O.length) := Lib.hid (Nat.le_refl _)
                    have SDS := Lib.hid (rfl : (1 : Nat) = 1)
                    obtain ⟨QR, hQR⟩ : ∃ q, q = Q := ⟨_, rfl⟩
                    obtain ⟨OR, hOR⟩ : ∃ q, q = O := ⟨_, rfl⟩
                    obtain ⟨pr, hpr⟩ : ∃ q, q = p := ⟨_, rfl⟩
                    obtain ⟨wR, hwR⟩ : ∃ q, q = wB := ⟨_, rfl⟩
                    rw [← hwR, ← hpr] at NBR
                    rw [← hwR, ← hQR, ← hOR] at NSR
                    rw [← hwR] at FBR BBR
                    rw [← hwR, ← hpr] at XR
                    rw [← hQR, ← hOR] at SIR
                    rw [← hQR] at HNR
                    have LER : Hid (LeQ Q QR) := Lib.hid (by rw [hQR]; exact LeQ.refl _)
                    have CNR : Hid (2 * un QR n + OR.length ≤ 2 * un Q n + q) := Lib.hid (by rw [hQR, hOR, HQL.out]; exact Nat.le_refl _)
                    rw [← hwR]
                    clear SDS hQR hOR hpr hwR ho2 NBB NSC FBB BB XA HSI2 cl cp c16 f16 e0 e4 d28 d29
                    have NSRl := NSR.out.lts
                    have hszr := BBR.out.size
                    have clr := NSR.out.l.cell
                    obtain ⟨D, hD⟩ : ∃ q, q = wR.heap.size + 2 := ⟨_, rfl⟩
                    obtain ⟨wS, hwS⟩ : ∃ W, (wR.alloc (.cells #[.pointer (some ⟨b, o + jn * 10, none⟩)] 67)).alloc (.cells #[.int .i64 jn] 3) = W := ⟨_, rfl⟩
                    have BS : Hid (Below wR.heap.size wR wS) := Lib.hid (by rw [← hwS]; exact ((Below.refl _ wR).alloc (Nat.le_refl _) _).alloc (by simp) _)
                    have ZS : Hid (wS.heap.size = D) := Lib.hid (by rw [← hwS, hD]; simp)
                    have XS1 : Hid (Boxed wS (D - 2) 67 (.pointer (some ⟨b, o + jn * 10, none⟩))) := Lib.hid (by rw [← hwS, hD, Nat.add_sub_cancel]; exact (Boxed.new wR 67 _).alloc _)
                    have XS2 : Hid (Boxed wS (D - 1) 3 (.int .i64 jn)) := Lib.hid (by rw [← hwS, hD]; have := Boxed.new (wR.alloc (.cells #[.pointer (some ⟨b, o + jn * 10, none⟩)] 67)) 3 (.int .i64 jn); rw [World.size_alloc] at this; exact this)
                    have HD := Lib.hid hD
                    go_upto_region 28 with fail
                    go_wp2_with fail
                    refine (callsIn_wide.1 (targ36 Fence.wide 1 trivial rfl b (o + jn * 10) jn wR)).mono ?_
                    rintro e wS' ⟨rfl, hwS'⟩
                    rw [hwS] at hwS'
                    obtain rfl : wS = wS' := hwS'.symm
                    clear hwS hD clr
                    go_wp2_with fail
                    have hF0 : ∀ r ∈ B16 :: (Ds ++ [A1, A2, A3, Bp]), r < wR.heap.size := fun r hr => (NSR.out.fr r (by simp only [List.mem_cons, List.mem_append, List.not_mem_nil, or_false] at hr ⊢; exact hr)).1
                    have I0 : RgI l fr w A0 A1 A2 A3 p1 p2 Bo Bp g1 g2 B16 D b o n jn f (.slice (some ⟨b, o, none⟩) n cap) FV Ds o2 pr QR (2 * un QR n + OR.length) QR OR 0 wS := by
                      have hDv := HD.out
                      have hzS := ZS.out
                      have ns1 := (NSR.out.below BS.out (Nat.le_refl _)).mono (show wR.heap.size ≤ D by omega)
                      have offS : OffO Bo [D - 2, D - 1] wS := by
                        obtain ⟨v', o1, o2', _⟩ := NSR.out.op
                        intro v hv
                        have := ((BS.out.block _ o1.lt).trans o1).symm.trans hv
                        simp only [Option.some.injEq, Obj.cells.injEq, Array.mk.injEq, List.cons.injEq, and_true] at this
                        subst this
                        intro g' hg' hm
                        have := (o2'.lt g' hg').2
                        simp at hm
                        omega
                      refine ⟨?_, ns1.off [D, D + 1] (by intro r hr; simp at hr; omega), ⟨XS1.out, XS2.out, fun j hj => ?_, HFA.out.cases.keep (BBR.out.trans (BS.out.mono hszr))⟩, FBR.out.keep (fun r hr => BS.out.block r (hF0 r (by simp only [List.mem_cons]; exact .inr hr))), (BS.out.block _ XR.out.lt).trans XR.out, (NBR.out.keep (Keep71.below BS.out (Nat.le_refl _))).mono (by omega), BBR.out.trans (BS.out.mono hszr), SIR.out, LeQ.refl _, fun i hi j h => by omega, Nat.le_refl _⟩
                      · have := ns1.more [D - 2, D - 1] offS (by intro r hr; simp only [List.mem_cons, List.not_mem_nil, or_false] at hr; omega)
                        simpa using this
                      · rw [← HCL.out j hj]
                        exact (BBR.out.trans (BS.out.mono hszr)).cell (p := ⟨b, _, none⟩) hb
                    have eD1 : wR.heap.size = D - 2 := by have := HD.out; omega
                    have eD2 : D - 2 + 1 = D - 1 := by have := HD.out; omega
                    rw [eD1, eD2]
                    have hDlt : A0 < D ∧ p2 < D ∧ p1 < D ∧ Bo < D ∧ g2 < D ∧ g1 < D := by have := HD.out; omega
                    have hD2 : w.heap.size + 2 ≤ D := by have := HD.out; omega
                    have hFD : ∀ r ∈ B16 :: (Ds ++ [A1, A2, A3, Bp]), r < D := fun r hr => by have := hF0 r hr; have := HD.out; omega
                    have IP := Lib.hid I0
                    have HDLT := Lib.hid hDlt
                    have HD2 := Lib.hid hD2
                    have HFD := Lib.hid hFD
                    clear I0 hF0 NSRl hDlt hFD eD1 eD2
                    refine (wpIn_wide (n := 3)).1 ?_
                    refine' wpIn_rangeFunc_P (F := Fence.wide) (n := 3) rfl (by omega) (gf := 59) (lb := #[.pointer (some ⟨D - 2, 0, none⟩), .pointer (some ⟨D - 1, 0, none⟩)]) rfl trivial (enters_of Tryd.func59 (by kernel_rfl) rfl)
                      (targ_reads Fence.wide (3 - 1) trivial rfl (by omega) (D - 2) (D - 1) b (o + jn * 10) f jn (by omega) (by omega))
                      (fun _ => rfl)
                      (fun k W => ∃ Q' O', RgI l fr w A0 A1 A2 A3 p1 p2 Bo Bp g1 g2 B16 D b o n jn f (.slice (some ⟨b, o, none⟩) n cap) FV Ds o2 pr QR (2 * un QR n + OR.length) Q' O' k W) (fun c _ W => RgX l fr w A1 A2 A3 Ds c W) ?abides ?abx (fun _ _ h => by obtain ⟨_, _, h⟩ := h; exact h.pre) ⟨_, _, IP.out⟩
                      _ ?assign ?body ?done ?stop
                    case assign =>
                      intro l' x W K hK
                      gi_wp2
                      exact hK
                    case abides =>
                      rw [ZS.out]
                      rintro k A B ⟨Q', O', h⟩ ho
                      exact ⟨Q', O', h.only ho HD2.out HDLT.out HFD.out hb HFA.out.cases⟩
                    case abx =>
                      rw [ZS.out]
                      intro c k A B h ho
                      exact h.only ho (by have := HD2.out; omega) (fun r hr => HFD.out r (by simp only [List.mem_cons, List.mem_append, List.not_mem_nil, or_false] at hr ⊢; rcases hr with h | h | h | h <;> simp [h]))
                    case body =>
                      rw [ZS.out]
                      rintro l' k hk W ⟨Q', O', hI⟩ hz
                      have hkx : k < (targF f.x jn).length := hk
                      obtain ⟨x, hx⟩ : ∃ x, x = (targF f.x jn)[k] := ⟨_, rfl⟩
                      rw [← hx]
                      have HX := Lib.hid hx
                      have HI := Lib.hid hI
                      have off2 := hI.off
                      have nsF := hI.ns.more [D, D + 1] hI.off (by
                        intro r hr
                        have := HDLT.out
                        simp only [List.mem_cons, List.not_mem_nil, or_false] at hr
                        omega)
                      have cpp := hI.fb.cp.cell
                      rw [HFVx.out] at cpp
                      have cbx := hI.box.cell
                      have c1 := hI.fb.c1.cell
                      have c2 := hI.fb.c2.cell
                      have c3 := hI.fb.c3.cell
                      have hOl : O'.length + 1 ≤ 10000000000000 := by have := hI.si.cnt; have := HN.out; omega
                      have hP := hI.si.pass x o2 (fun j hj hjl => Forced.step HJL.out HFJ.out (by rw [← HFX.out]; exact HO2.out) hjl (by rw [← HFX.out, ← hj, hx]; exact List.getElem_mem _))
                      rw [← HN.out] at hP
                      have CP := Lib.hid (CallsIn.inRound l' ((callsIn_wide (n := 0)).2 (pass53 W x (.pointer pr) o2 nsF hI.nest hOl)))
                      have HP := Lib.hid hP
                      clear hx hI off2 nsF hP hOl
                      gi_wp2
                      refine ⟨trivial, ?_⟩
                      refine CP.out.mono ?_
                      rintro e W2 ⟨rfl, ns2, nk2⟩
                      have B2 := Lib.hid (HI.out.below.trans nk2.below)
                      have K2 : Hid (∀ r ∈ [D, D + 1] ++ ([D - 2, D - 1, B16] ++ (Ds ++ [A1, A2, A3, Bp])), W2.heap[r]? = W.heap[r]?) := Lib.hid nk2.keep
                      have FB2 := Lib.hid (HI.out.fb.keep (fun r hr => K2.out r (by simp only [List.mem_append] at hr ⊢; exact .inr (.inr hr))))
                      obtain ⟨r, hr⟩ : ∃ r, r = (passF Q' n O' x o2).1 := ⟨_, rfl⟩
                      rw [← hr] at HP ⊢
                      obtain ⟨Q2, hQ2⟩ : ∃ q, q = (passF Q' n O' x o2).2.1 := ⟨_, rfl⟩
                      obtain ⟨O2, hO2⟩ : ∃ q, q = (passF Q' n O' x o2).2.2 := ⟨_, rfl⟩
                      rw [← hQ2, ← hO2] at ns2 HP
                      have NS2 := Lib.hid ns2.less
                      have NE2 : Hid (NestB W2 D o2.reverse (.pointer pr)) := Lib.hid (HI.out.nest.keep nk2.nests)
                      have PR2 : Hid (TPre (D - 2) (D - 1) b (o + jn * 10) f jn W2) := Lib.hid (by
                        have hp := HI.out.pre
                        refine ⟨(K2.out _ (by simp)).trans hp.b1, (K2.out _ (by simp)).trans hp.b2, fun j hj => ?_, HFA.out.cases.keep B2.out⟩
                        rw [← HCL.out j hj]
                        exact B2.out.cell (p := ⟨b, _, none⟩) hb)
                      have BX2 : Hid (Boxed W2 B16 69 (.pointer pr)) := Lib.hid ((K2.out _ (by simp)).trans HI.out.box)
                      have KD : Hid (W2.heap[D]? = W.heap[D]? ∧ W2.heap[D + 1]? = W.heap[D + 1]?) := Lib.hid ⟨K2.out _ (by simp), K2.out _ (by simp)⟩
                      have HW2 : Hid (D + 2 ≤ W2.heap.size) := Lib.hid (by have := nk2.below.size; omega)
                      clear hr hQ2 hO2 ns2 nk2 K2 CP
                      cases r with
                      | true =>
                        obtain ⟨si2, le2, ex2, cn2⟩ := HP.out.2 rfl
                        have fin : Hid (RgI l fr w A0 A1 A2 A3 p1 p2 Bo Bp g1 g2 B16 D b o n jn f (.slice (some ⟨b, o, none⟩) n cap) FV Ds o2 pr QR (2 * un QR n + OR.length) Q2 O2 (k + 1) W2) := Lib.hid ⟨NS2.out.1, NS2.out.2, PR2.out, FB2.out, BX2.out, NE2.out, B2.out, si2, HI.out.le.trans le2, fun i hi j hik he hjl => by
                          rcases Nat.lt_succ_iff_lt_or_eq.1 hik with q' | q'
                          · exact le2 _ _ (HI.out.done i hi j q' he hjl)
                          · subst q'
                            exact ex2 j (by rw [HX.out]; exact he) (by rw [HN.out]; exact hjl), by have := HI.out.cnt; omega⟩
                        clear si2 le2 ex2 cn2 HP NS2 PR2 BX2 NE2 HI FB2 B2
                        gi_wp2
                        exact ⟨KD.out, Q2, O2, fin.out⟩
                      | false =>
                        have hno := HP.out.1 rfl
                        obtain ⟨e2, v2, e4, v3⟩ := three_facts FB2.out.c1 FB2.out.c2 FB2.out.c3 (.slice none 0 0) (.slice none 0 0)
                        have cc1 := FB2.out.c1.cell
                        have v1 := FB2.out.c1.frozen
                        have bb := three_set FB2.out.c1 FB2.out.c2 FB2.out.c3 (.slice none 0 0) (.slice none 0 0) (.int .i64 182)
                        have hA : A1 < D ∧ A2 < D ∧ A3 < D := ⟨HFD.out _ (by simp), HFD.out _ (by simp), HFD.out _ (by simp)⟩
                        have fin : Hid ((_ ∧ _) ∧ RgX l fr w A1 A2 A3 Ds .ret (((W2.setCell ⟨A1, 0, none⟩ (.slice none 0 0)).setCell ⟨A2, 0, none⟩ (.slice none 0 0)).setCell ⟨A3, 0, none⟩ (.int .i64 182))) := Lib.hid ⟨⟨(bb.2.2.2.block D (by have := HW2.out; omega) (by simp only [List.mem_cons, List.not_mem_nil, or_false, not_or]; omega)).trans KD.out.1, (bb.2.2.2.block (D + 1) (by have := HW2.out; omega) (by simp only [List.mem_cons, List.not_mem_nil, or_false, not_or]; omega)).trans KD.out.2⟩, rfl, bb.1, bb.2.1, bb.2.2.1, fun E hE => (bb.2.2.2.block E (Array.getElem?_eq_some_iff.1 (FB2.out.ds E hE)).1 (by
                          simp only [List.mem_cons, List.not_mem_nil, or_false, not_or]
                          exact ⟨Ne.symm (not_mark (FB2.out.ds E hE) FB2.out.c1), Ne.symm (not_mark (FB2.out.ds E hE) FB2.out.c2), Ne.symm (not_mark (FB2.out.ds E hE) FB2.out.c3)⟩)).trans (FB2.out.ds E hE), B2.out.trans (bb.2.2.2.below (by intro r hr; simp only [List.mem_cons, List.not_mem_nil, or_false] at hr; have := HA1.out; have := HA2.out; have := HA3.out; omega) B2.out.size), hno⟩
                        clear bb hno HP NS2 PR2 BX2 NE2 HI FB2 B2
                        gi_wp2
                        exact fin.out
                    case done =>
                      rw [ZS.out]
                      rintro W hz ⟨Q', O', hI⟩ hDm
                      have HI := Lib.hid hI
                      have hnD : D ∉ Ds := fun hm => by have := HFD.out D (by simp [hm]); omega
                      have hdon : Don l Q' jn t := fun hi => ⟨fun j hj h1 h2 => hI.le _ _ (HNR.out j hj (by rw [HFX.out]; exact h1) (by rw [HFX.out]; exact h2)), o2, by rw [← HFX.out]; exact HO2.out, fun j hj hm => by
                        rw [← HFX.out] at hm
                        obtain ⟨i, hi', e⟩ := List.getElem_of_mem hm
                        exact hI.done i hi' j hi' e hj⟩
                      have hsi : SI l fr Q' O' (-1) := hI.si.done (hI.le _ _ (LER.out _ _ HQJ.out)) hdon
                      have hns : NS A0 p2 p1 Bo g2 g1 w.heap.size W.heap.size (.slice (some ⟨b, o, none⟩) n cap) n ((D :: Ds) ++ [A1, A2, A3, Bp]) Q' O' W := by
                        have h1 := (hI.ns.less.1.mono (show D ≤ W.heap.size by omega)).more [D] (fun v hv g' hg' hm => hI.off v hv g' hg' (by simp only [List.mem_singleton] at hm; simp [hm])) (by
                          intro r hr
                          have := HDLT.out
                          simp only [List.mem_singleton] at hr
                          omega)
                        simpa using h1
                      have hfb : FBx A1 A2 A3 Bp FV (D :: Ds) W := ⟨hI.fb.c1, hI.fb.c2, hI.fb.c3, hI.fb.cp, fun E hE => by
                        rcases List.mem_cons.1 hE with rfl | hE
                        · exact hDm
                        · exact hI.fb.ds E hE⟩
                      have hnd : (D :: Ds).Nodup := List.nodup_cons.2 ⟨hnD, HND.out⟩
                      have hdl : ∀ E ∈ D :: Ds, w.heap.size ≤ E := fun E hE => by
                        rcases List.mem_cons.1 hE with rfl | hE
                        · have := HD2.out; omega
                        · exact HDL.out E hE
                      have hcn : 2 * un Q' n + O'.length < mu := by have h1 := hI.cnt; have h2 := CNR.out; have h3 := HMU.out; have h4 := HQL.out; simp only [List.length_append, List.length_cons, List.length_nil] at h3; omega
                      have hen : ∀ i : Nat, (i : Int) ∈ fr → i < l.length → Q' i = some [] := fun i h1 h2 => hI.le _ _ (LER.out _ _ (HEN.out i h1 h2))
                      have FIN := Lib.hid (And.intro (Lib.hid hnd) (And.intro (Lib.hid hdl) (And.intro (Lib.hid hns) (And.intro (Lib.hid hfb) (And.intro (Lib.hid hI.below) (And.intro (Lib.hid hsi) (Lib.hid hen)))))))
                      have HCN := Lib.hid hcn
                      clear hI hnD hdon hsi hns hfb hnd hdl hcn hen hDm
                      go_wp2_with fail
                      refine Handed.intro (2 * un Q' n + O'.length) HCN.out (hJ _ _ _ ?_)
                      refine ⟨D :: Ds, Q', O', ?_⟩
                      (repeat apply Exists.intro)
                      exact ⟨⟨rfl, FIN.out⟩, rfl⟩
                    case stop =>
                      rw [ZS.out]
                      intro c k W hz hk hX hDm
                      have hnD : D ∉ Ds := fun hm => by have := HFD.out D (by simp [hm]); omega
                      obtain rfl := hX.ret
                      have HXX := Lib.hid hX
                      have HDM := Lib.hid hDm
                      clear hX hDm
                      gi_wp2
                      exact end_err (Ds := D :: Ds) rfl rfl rfl HXX.out.b1 HXX.out.b2 HXX.out.b3 (List.nodup_cons.2 ⟨hnD, HND.out⟩) (fun E hE => by
                        rcases List.mem_cons.1 hE with rfl | hE
                        · exact HDM.out
                        · exact HXX.out.ds E hE) (fun E hE => by
                        rcases List.mem_cons.1 hE with rfl | hE
                        · have := HD2.out; omega
                        · exact HDL.out E hE) HXX.out.below (by decide) (triesF_try HIN.out HXX.out.no)
end Go.Proofs.YtekfnonjhcfdmaaDoor
