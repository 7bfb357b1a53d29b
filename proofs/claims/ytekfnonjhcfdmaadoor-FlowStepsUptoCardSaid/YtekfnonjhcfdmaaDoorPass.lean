/- flow.nests' closure pass: the search's state in memory. -/
import Derived.Test.YtekfnonjhcfdmaaDoorNest
namespace Go.Proofs.YtekfnonjhcfdmaaDoor
open Go.RowKit Go.Rt Go.Rw

theorem NestAt.ptr {w : World} : ∀ (r : List Int) (v : Value), NestAt w r v → ∃ p, v = .pointer p
  | [], _, h => ⟨none, h⟩
  | _ :: _, _, ⟨b, _, h, _⟩ => ⟨some ⟨b, 0, none⟩, h⟩
/-- The search's state: what is known of the instructions (Q), what is open (O); blocks of a list F are others'. -/
structure NS (Bl Bs Bb Bo gS gB base m : Nat) (lv : Value) (n : Nat) (F : List Nat) (Q : Nat → Option (List Int)) (O : List Int) (W : World) : Prop where
  l : Boxed W Bl 22 lv
  bs : Boxed W Bs 47 (.slice (some ⟨gS, 0, none⟩) n n)
  bb : Boxed W Bb 52 (.slice (some ⟨gB, 0, none⟩) n n)
  seen : Blk W gS 4 ((List.range n).map fun i => Value.bool (Q i).isSome).toArray
  bef : ∃ T : List Value, T.length = n ∧ Blk W gB 69 T.toArray ∧ ∀ (i : Nat) (h : i < T.length), NestB W m ((Q i).getD []).reverse T[i]
  op : ∃ v, Boxed W Bo 23 v ∧ Sl W base 3 1 inC v O ∧ Off v F
  lo : base ≤ Bo ∧ base ≤ gS ∧ base ≤ gB ∧ base ≤ W.heap.size
  fr : ∀ r ∈ F, r < W.heap.size ∧ r ≠ gS ∧ r ≠ gB ∧ r ≠ Bo
/-- What a step of the search leaves alone. -/
structure NK (base : Nat) (F : List Nat) (w w' : World) : Prop where
  below : Below base w w'
  keep : ∀ r ∈ F, w'.heap[r]? = w.heap[r]?
  nests : Keep71 w w'
theorem NK.trans {base : Nat} {F : List Nat} {a b c : World} (h : NK base F a b) (k : NK base F b c) : NK base F a c := ⟨h.below.trans k.below, fun r hr => (k.keep r hr).trans (h.keep r hr), h.nests.trans k.nests⟩
theorem NK.of {base m : Nat} {F : List Nat} {w w' : World} (h : Below m w w') (hm : w.heap.size ≤ m) (hb : base ≤ m) (hF : ∀ r ∈ F, r < w.heap.size) : NK base F w w' := ⟨h.mono hb, fun r hr => h.block r (by have := hF r hr; omega), Keep71.below h hm⟩
theorem NS.below {Bl Bs Bb Bo gS gB base m : Nat} {lv : Value} {n m2 : Nat} {F : List Nat} {Q : Nat → Option (List Int)} {O : List Int} {w w' : World} (h : NS Bl Bs Bb Bo gS gB base m lv n F Q O w) (hb : Below m2 w w') (hm : w.heap.size ≤ m2) : NS Bl Bs Bb Bo gS gB base m lv n F Q O w' := by
  obtain ⟨v, o1, o2, o3⟩ := h.op
  obtain ⟨T, t1, t2, t3⟩ := h.bef
  have K := Keep71.below hb hm
  exact ⟨(hb.block _ (Nat.lt_of_lt_of_le h.l.lt hm)).trans h.l, (hb.block _ (Nat.lt_of_lt_of_le h.bs.lt hm)).trans h.bs, (hb.block _ (Nat.lt_of_lt_of_le h.bb.lt hm)).trans h.bb,
    h.seen.below hb (Nat.lt_of_lt_of_le h.seen.lt hm), ⟨T, t1, t2.below hb (Nat.lt_of_lt_of_le t2.lt hm), fun i hi => (t3 i hi).keep K⟩,
    ⟨v, (hb.block _ (Nat.lt_of_lt_of_le o1.lt hm)).trans o1, o2.below hb (fun g hg => Nat.lt_of_lt_of_le (o2.lt g hg).2 hm), o3⟩,
    ⟨h.lo.1, h.lo.2.1, h.lo.2.2.1, Nat.le_trans h.lo.2.2.2 hb.size⟩, fun r hr => ⟨Nat.lt_of_lt_of_le (h.fr r hr).1 hb.size, (h.fr r hr).2⟩⟩
/-- One more handler list is known. -/
def setQ (Q : Nat → Option (List Int)) (i : Nat) (t : List Int) : Nat → Option (List Int) := fun k => if k = i then some t else Q k
theorem map_setQ (Q : Nat → Option (List Int)) (n i : Nat) (t : List Int) (hi : i < n) : ((List.range n).map fun k => Value.bool (setQ Q i t k).isSome).toArray = (((List.range n).map fun k => Value.bool (Q k).isSome).toArray).setIfInBounds i (.bool true) := by
  apply Array.ext_getElem?
  intro j
  rw [Array.getElem?_setIfInBounds]
  by_cases h : i = j
  · subst h
    simp [hi, setQ]
  · have h' : ¬ j = i := fun e => h e.symm
    simp only [List.getElem?_toArray, List.getElem?_map, if_neg h]
    by_cases hj : j < n
    · simp [hj, setQ, h']
    · simp [hj]
/-- What pass does. -/
def passF (Q : Nat → Option (List Int)) (n : Nat) (O : List Int) (i : Int) (t : List Int) : Bool × (Nat → Option (List Int)) × List Int :=
  if 0 ≤ i ∧ i < n then (match Q i.toNat with | some u => (decide (u = t), Q, O) | none => (true, setQ Q i.toNat t, O ++ [i])) else (true, Q, O)
theorem NS.drew {Bl Bs Bb Bo gS gB base m : Nat} {lv : Value} {n : Nat} {F : List Nat} {Q : Nat → Option (List Int)} {O : List Int} {w : World} (h : NS Bl Bs Bb Bo gS gB base m lv n F Q O w) : NS Bl Bs Bb Bo gS gB base m lv n F Q O w.drew :=
  h.below (m2 := w.heap.size) ((Below.refl w.heap.size w).drew) (Nat.le_refl _)
theorem blk_ne {w : World} {a b : Nat} {s t : TypeId} {cs ds : Array Value} (h : Blk w a s cs) (k : Blk w b t ds) (hne : s ≠ t) : a ≠ b := h.ne_ k hne
/-- An instruction is marked. -/
theorem NS.mark {Bl Bs Bb Bo gS gB base m : Nat} {lv : Value} {n : Nat} {F : List Nat} {Q : Nat → Option (List Int)} {O : List Int} {w : World} (h : NS Bl Bs Bb Bo gS gB base m lv n F Q O w) {k : Nat} (hk : k < n) {t : List Int} {p : Option Addr} (hu : NestB w m t.reverse (.pointer p)) :
    NS Bl Bs Bb Bo gS gB base m lv n F (setQ Q k t) O ((w.setCell ⟨gS, k, none⟩ (.bool true)).setCell ⟨gB, k, none⟩ (.pointer p)) ∧ NK base F w ((w.setCell ⟨gS, k, none⟩ (.bool true)).setCell ⟨gB, k, none⟩ (.pointer p)) := by
  obtain ⟨v, o1, o2, o3⟩ := h.op
  obtain ⟨T, t1, t2, t3⟩ := h.bef
  have hon : Only [gS, gB] w ((w.setCell ⟨gS, k, none⟩ (.bool true)).setCell ⟨gB, k, none⟩ (.pointer p)) := (Only.setCell w ⟨gS, k, none⟩ _ (by simp)).trans (Only.setCell _ ⟨gB, k, none⟩ _ (by simp))
  have hsb := blk_ne h.seen t2 (by decide)
  have hot : ∀ {a : Nat} {ty : TypeId} {cs : Array Value}, Blk w a ty cs → ty ≠ 4 → ty ≠ 69 → Blk ((w.setCell ⟨gS, k, none⟩ (.bool true)).setCell ⟨gB, k, none⟩ (.pointer p)) a ty cs := fun {a ty cs} hb n1 n2 => hb.only hon (by
    simp only [List.mem_cons, List.not_mem_nil, or_false, not_or]
    exact ⟨blk_ne hb h.seen n1, blk_ne hb t2 n2⟩)
  have K : Keep71 w ((w.setCell ⟨gS, k, none⟩ (.bool true)).setCell ⟨gB, k, none⟩ (.pointer p)) := fun g cs hb => hot hb (by decide) (by decide)
  refine ⟨⟨hot h.l (by decide) (by decide), hot h.bs (by decide) (by decide), hot h.bb (by decide) (by decide), ?_, ⟨T.set k (.pointer p), by simp [t1], ?_, ?_⟩, ⟨v, hot o1 (by decide) (by decide), o2.only hon ?_, o3⟩, ⟨h.lo.1, h.lo.2.1, h.lo.2.2.1, by have := h.lo.2.2.2; have := hon.size; omega⟩, fun r hr => ⟨Nat.lt_of_lt_of_le (h.fr r hr).1 hon.size, (h.fr r hr).2⟩⟩, ⟨hon.below (by
      intro b hb
      simp only [List.mem_cons, List.not_mem_nil, or_false] at hb
      rcases hb with rfl | rfl
      · exact h.lo.2.1
      · exact h.lo.2.2.1) h.lo.2.2.2, fun r hr => hon.block r (h.fr r hr).1 (by
      simp only [List.mem_cons, List.not_mem_nil, or_false, not_or]
      exact ⟨(h.fr r hr).2.1, (h.fr r hr).2.2.1⟩), K⟩⟩
  · rw [map_setQ Q n k t hk]
    exact (h.seen.set_ k (.bool true)).far (p := ⟨gB, k, none⟩) hsb _
  · have := (t2.far (p := ⟨gS, k, none⟩) (Ne.symm hsb) (.bool true)).set_ k (.pointer p)
    simpa using this
  · intro i hi
    simp only [List.length_set] at hi
    rw [List.getElem_set]
    unfold setQ
    by_cases hik : i = k
    · subst hik
      simpa using hu.keep K
    · rw [if_neg hik, if_neg (fun e => hik e.symm)]
      exact (t3 i hi).keep K
  · intro g hg hm
    simp only [List.mem_cons, List.not_mem_nil, or_false] at hm
    rcases o2.2 with ⟨q, _⟩ | ⟨g2, cap2, cur, q, _, q3, _⟩
    · rw [q] at hg
      simp [Value.ownBlock] at hg
    · rw [q] at hg
      simp only [Value.ownBlock, Option.some.injEq] at hg
      subst hg
      rcases hm with e | e
      · exact blk_ne (show Blk w g2 3 cur from q3) h.seen (by decide) e
      · exact blk_ne (show Blk w g2 3 cur from q3) t2 (by decide) e
/-- An instruction is pushed. -/
theorem NS.push {Bl Bs Bb Bo gS gB base m : Nat} {lv : Value} {n : Nat} {F : List Nat} {Q : Nat → Option (List Int)} {O : List Int} {w : World} (h : NS Bl Bs Bb Bo gS gB base m lv n F Q O w) (x : Int) (hl : O.length + 1 ≤ 10000000000000) :
    ∃ sa co g cap W2, Boxed w Bo 23 (.slice sa O.length co) ∧ (Builtin.append_ #[23, 23] 23 #[.slice sa O.length co, .slice (some ⟨w.heap.size, 0, none⟩) 1 1]).run Tryd.prog (w.alloc (.cells #[.int .i64 x] 3)) = .ok (.slice (some ⟨g, 0, none⟩) (O.length + 1) cap) W2 ∧ Boxed W2 Bo 23 (.slice sa O.length co) ∧
      NS Bl Bs Bb Bo gS gB base m lv n F Q (O ++ [x]) (W2.setCell ⟨Bo, 0, none⟩ (.slice (some ⟨g, 0, none⟩) (O.length + 1) cap)) ∧ NK base F w (W2.setCell ⟨Bo, 0, none⟩ (.slice (some ⟨g, 0, none⟩) (O.length + 1) cap)) := by
  obtain ⟨v, o1, o2, o3⟩ := h.op
  obtain ⟨T, t1, t2, t3⟩ := h.bef
  obtain ⟨sa, co, hv⟩ : ∃ sa co, v = .slice sa O.length co := by
    rcases o2.form with ⟨rfl, q⟩ | ⟨g0, cap0, rfl, _⟩
    · exact ⟨none, 0, by rw [q]; rfl⟩
    · exact ⟨_, _, rfl⟩
  subst hv
  have hbw := h.lo.2.2.2
  obtain ⟨g, cap, W2, hrun, sl2, hgrow, hwh⟩ := sl_push_in (o2.only (bs := []) (Only.alloc [] w (.cells #[.int .i64 x] 3)) (fun g hg hm => by cases hm)) x w.heap.size (Blk.new w 3 _) hl (by simp; omega)
  obtain ⟨a1, a2, a3, _, a5⟩ := Boxed.appended (n₀ := base) o1 (by decide) o2 hbw h.lo.1 sl2 hgrow
  have og : Only (Bo :: (Value.slice sa O.length co).ownBlock.toList) w (W2.setCell ⟨Bo, 0, none⟩ (.slice (some ⟨g, 0, none⟩) (O.length + 1) cap)) :=
    (((Only.alloc _ _ _).trans (grown_only hgrow)).mono (fun b hb => .inl (by simp only [List.mem_cons]; exact .inr hb))).trans (Only.setCell _ _ _ (by simp))
  have hot : ∀ {a : Nat} {ty : TypeId} {cs : Array Value}, Blk w a ty cs → ty ≠ 23 → ty ≠ 3 → Blk (W2.setCell ⟨Bo, 0, none⟩ (.slice (some ⟨g, 0, none⟩) (O.length + 1) cap)) a ty cs := fun {a ty cs} hb n1 n2 => hb.only og (by
    simp only [List.mem_cons, Option.mem_toList, not_or]
    refine ⟨blk_ne hb o1 n1, fun e => ?_⟩
    rcases o2.2 with ⟨q, _⟩ | ⟨g2, cap2, cur, q, _, q3, _⟩
    · rw [q] at e
      simp [Value.ownBlock] at e
    · rw [q] at e
      simp only [Value.ownBlock, Option.some.injEq] at e
      subst e
      exact blk_ne hb (show Blk w _ 3 cur from q3) n2 rfl)
  have K : Keep71 w (W2.setCell ⟨Bo, 0, none⟩ (.slice (some ⟨g, 0, none⟩) (O.length + 1) cap)) := fun g cs hb => hot hb (by decide) (by decide)
  have hF : ∀ r ∈ F, r ∉ Bo :: (Value.slice sa O.length co).ownBlock.toList := fun r hr hm => by
    simp only [List.mem_cons, Option.mem_toList] at hm
    rcases hm with e | e
    · exact (h.fr r hr).2.2.2 e
    · exact o3 r e hr
  refine ⟨sa, co, g, cap, W2, o1, hrun, a1, ⟨hot h.l (by decide) (by decide), hot h.bs (by decide) (by decide), hot h.bb (by decide) (by decide), hot h.seen (by decide) (by decide), ⟨T, t1, hot t2 (by decide) (by decide), fun i hi => (t3 i hi).keep K⟩, ⟨_, a2, ?_, ?_⟩, ⟨h.lo.1, h.lo.2.1, h.lo.2.2.1, by have := og.size; omega⟩, fun r hr => ⟨Nat.lt_of_lt_of_le (h.fr r hr).1 og.size, (h.fr r hr).2⟩⟩, ⟨a5, fun r hr => og.block r (h.fr r hr).1 (hF r hr), K⟩⟩
  · have := a3
    unfold Sl
    simpa using this
  · intro g' hg' hm
    simp only [Value.ownBlock, Option.some.injEq] at hg'
    subst hg'
    rcases hwh with q | q
    · exact o3 _ q hm
    · have := (h.fr _ hm).1
      simp at q
      omega
set_option maxRecDepth 100000 in
set_option maxHeartbeats 4000000 in
theorem pass53 {Bl Bs Bb Bo gS gB base m : Nat} {sa : Option Addr} {cap n : Nat} {F : List Nat} {Q : Nat → Option (List Int)} {O : List Int} (w : World) (i : Int) (u : Value) (t : List Int) (h : NS Bl Bs Bb Bo gS gB base m (.slice sa n cap) n F Q O w) (hu : NestB w m t.reverse u) (hO : O.length + 1 ≤ 10000000000000) :
    Calls Tryd.prog 53 #[.int .i64 i, u, .pointer (some ⟨Bl, 0, none⟩), .pointer (some ⟨Bs, 0, none⟩), .pointer (some ⟨Bb, 0, none⟩), .pointer (some ⟨Bo, 0, none⟩)] w fun e w' =>
      e = .returned (.bool (passF Q n O i t).1) ∧ NS Bl Bs Bb Bo gS gB base m (.slice sa n cap) n F (passF Q n O i t).2.1 (passF Q n O i t).2.2 w' ∧ NK base F w w' := by
  have HS := Lib.hid h
  have HF : Hid (∀ r ∈ F, r < w.heap.size) := Lib.hid (fun r hr => (h.fr r hr).1)
  have HU := Lib.hid hu
  have HB := Lib.hid h.lo.2.2.2
  have cl := h.l.cell
  obtain ⟨p, rfl⟩ := hu.at.ptr
  clear hu
  by_cases h0 : i < 0
  · have HP : Hid (passF Q n O i t = (true, Q, O)) := Lib.hid (by unfold passF; rw [if_neg (by omega)])
    clear h
    rw [HP.out]
    go_enter Tryd.func53, Tryd.ntmps53
    go_wp2_with fail
    go_ret
    exact ⟨rfl, HS.out, NK.of (Below.refl w.heap.size w) (Nat.le_refl _) HB.out HF.out⟩
  · by_cases h1 : (n : Int) ≤ i
    · have HP : Hid (passF Q n O i t = (true, Q, O)) := Lib.hid (by unfold passF; rw [if_neg (by omega)])
      clear h
      rw [HP.out]
      go_enter Tryd.func53, Tryd.ntmps53
      go_wp2_with fail
      go_ret
      exact ⟨rfl, HS.out, NK.of (Below.refl w.heap.size w) (Nat.le_refl _) HB.out HF.out⟩
    · obtain ⟨k, rfl⟩ := Int.eq_ofNat_of_zero_le (show 0 ≤ i by omega)
      have hk : k < n := by omega
      have hki : (k : Int) < (n : Int) := by omega
      have cs := h.bs.cell
      have cb := h.bb.cell
      have ck : w.cell? ⟨gS, k, none⟩ = some (.bool (Q k).isSome) := by
        have := h.seen.cell k
        simpa [hk] using this
      cases hq : Q k with
      | some v =>
        have HP : Hid (passF Q n O k t = (decide (v = t), Q, O)) := Lib.hid (by unfold passF; rw [if_pos (by omega), Int.toNat_natCast, hq])
        rw [hq] at ck
        simp only [Option.isSome_some] at ck
        obtain ⟨T, t1, t2, t3⟩ := h.bef
        have tk : w.cell? ⟨gB, k, none⟩ = some (T[k]'(by omega)) := by
          have := t2.cell k
          rw [this]
          simp [t1, hk]
        have nk := t3 k (by omega)
        rw [hq, Option.getD_some] at nk
        obtain ⟨p', hp'⟩ := nk.at.ptr
        rw [hp'] at tk nk
        have NKk := Lib.hid nk
        have HVT : Hid (decide (v.reverse = t.reverse) = decide (v = t)) := Lib.hid (by simp)
        clear h t1 t2 t3 nk hp' hq h0 h1
        rw [HP.out]
        go_enter Tryd.func53, Tryd.ntmps53
        go_wp2_with fail
        refine (same54 v.reverse t.reverse _ _ w NKk.out.at HU.out.at).mono ?_
        rintro e w1 ⟨rfl, b1⟩
        have B1 := Lib.hid b1
        clear b1
        go_wp2_with fail
        go_ret
        exact ⟨by rw [← HVT.out]; rfl, HS.out.below B1.out (Nat.le_refl _), NK.of B1.out (Nat.le_refl _) HB.out HF.out⟩
      | none =>
        have HP : Hid (passF Q n O k t = (true, setQ Q k t, O ++ [(k : Int)])) := Lib.hid (by unfold passF; rw [if_pos (by omega), Int.toNat_natCast, hq])
        rw [hq] at ck
        simp only [Option.isSome_none] at ck
        obtain ⟨T, t1, t2, t3⟩ := h.bef
        obtain ⟨tv, tk⟩ : ∃ x, w.cell? ⟨gB, k, none⟩ = some x := ⟨T[k]'(by omega), by
          have := t2.cell k
          rw [this]
          simp [t1, hk]⟩
        have fs := h.seen.frozen k
        have fb := t2.frozen k
        have hsb := h.seen.ne_ t2 (by decide)
        clear h0 h1 hq h
        rw [HP.out]
        go_enter Tryd.func53, Tryd.ntmps53
        go_upto_region 5 with fail
        refine wp_region_held_drew (S := (fun w' => w'.cell? ⟨Bs, 0, none⟩ = some (.slice (some ⟨gS, 0, none⟩) n n) ∧ w'.cell? ⟨Bb, 0, none⟩ = some (.slice (some ⟨gB, 0, none⟩) n n))) (by kernel_rfl) (⟨cs, cb⟩) (fun hS => ?_)
        have ck3 : w.drew.cell? ⟨gS, k, none⟩ = some (.bool false) := ck
        have tk3 : w.drew.cell? ⟨gB, k, none⟩ = some tv := tk
        have fs3 : w.drew.frozen? ⟨gS, k, none⟩ = false := fs
        have fb3 : w.drew.frozen? ⟨gB, k, none⟩ = false := fb
        refine wpAnyH_take (i := 0) (v := ?_) rfl (by kernel_rfl) (by kernel_rfl) (by kernel_rfl) (fun _ _ _ h => h) (Or.inl ⟨by rfl, ?_⟩) (by assumption) ?_
        rotate_left
        · intro w hSw
          go_simp
          with_reducible rfl
        change wpAnyH _ _ _ _ _ _ _ (Act.put _ (some 27) _) _
        simp only [Act.put, List.setIfInBounds_toArray, List.set_cons_zero, List.set_cons_succ]
        refine wpAnyH_take (i := 1) (v := ?_) rfl (by kernel_rfl) (by kernel_rfl) (by kernel_rfl) (fun _ _ _ h => h) (Or.inl ⟨by rfl, ?_⟩) (by assumption) ?_
        rotate_left
        · intro w hSw
          go_simp
          with_reducible rfl
        change wpAnyH _ _ _ _ _ _ _ (Act.put _ (some 28) _) _
        simp only [Act.put, List.setIfInBounds_toArray, List.set_cons_zero, List.set_cons_succ]
        refine wpAnyH_take (i := 2) (v := ?_) rfl (by kernel_rfl) (by kernel_rfl) (by kernel_rfl) (fun _ _ _ h => h) (Or.inl ⟨by rfl, ?_⟩) (by assumption) ?_
        rotate_left
        · intro w hSw
          go_simp
          with_reducible rfl
        change wpAnyH _ _ _ _ _ _ _ (Act.put _ (some 29) _) _
        simp only [Act.put, List.setIfInBounds_toArray, List.set_cons_zero, List.set_cons_succ]
        refine wpAnyH_take (i := 3) (v := ?_) rfl (by kernel_rfl) (by kernel_rfl) (by kernel_rfl) (fun _ _ _ h => h) (Or.inl ⟨by rfl, ?_⟩) (by assumption) ?_
        rotate_left
        · intro w hSw
          go_simp
          with_reducible rfl
        change wpAnyH _ _ _ _ _ _ _ (Act.put _ (some 30) _) _
        simp only [Act.put, List.setIfInBounds_toArray, List.set_cons_zero, List.set_cons_succ]
        refine wpAnyH_take (i := 4) (v := ?_) rfl (by kernel_rfl) (by kernel_rfl) (by kernel_rfl) (fun _ _ _ h => h) (Or.inl ⟨by rfl, ?_⟩) (by assumption) ?_
        rotate_left
        · intro w hSw
          go_simp
          with_reducible rfl
        change wpAnyH _ _ _ _ _ _ _ (Act.put _ (some 31) _) _
        simp only [Act.put, List.setIfInBounds_toArray, List.set_cons_zero, List.set_cons_succ]
        refine wpAnyH_take (i := 5) (v := ?_) rfl (by kernel_rfl) (by kernel_rfl) (by kernel_rfl) (fun _ _ _ h => h) (Or.inl ⟨by rfl, ?_⟩) (by assumption) ?_
        rotate_left
        · intro w hSw
          go_simp
          with_reducible rfl
        change wpAnyH _ _ _ _ _ _ _ (Act.put _ (some 32) _) _
        simp only [Act.put, List.setIfInBounds_toArray, List.set_cons_zero, List.set_cons_succ]
        refine wpAnyH_ready (rs := [6]) (by kernel_rfl) (by simp) ?_
        refine AllReadyH.cons rfl (fun K hK => ?_) AllReadyH.nil
        go_simp
        have c1' : (w.setCell ⟨gS, k, none⟩ (.bool true)).drew.cell? ⟨Bs, 0, none⟩ = some (.slice (some ⟨gS, 0, none⟩) n n) := (((show Blk w Bs 47 _ from HS.out.bs).far (p := ⟨gS, k, none⟩) (blk_ne HS.out.bs HS.out.seen (by decide)) _).cell 0)
        have c2' : (w.setCell ⟨gS, k, none⟩ (.bool true)).drew.cell? ⟨Bb, 0, none⟩ = some (.slice (some ⟨gB, 0, none⟩) n n) := (((show Blk w Bb 52 _ from HS.out.bb).far (p := ⟨gS, k, none⟩) (blk_ne HS.out.bb HS.out.seen (by decide)) _).cell 0)
        have tk4 : (w.setCell ⟨gS, k, none⟩ (.bool true)).drew.cell? ⟨gB, k, none⟩ = some tv := by rw [← tk]; exact World.cell?_setCell_far w ⟨gS, k, none⟩ ⟨gB, k, none⟩ _ hsb
        have fb4 : (w.setCell ⟨gS, k, none⟩ (.bool true)).drew.frozen? ⟨gB, k, none⟩ = false := (t2.far (p := ⟨gS, k, none⟩) (Ne.symm hsb) _).frozen k
        refine hK.out _ _ (⟨c1', c2'⟩) (fun hS => ?_)
        clear hK K
        try simp only [Act.put, List.setIfInBounds_toArray, List.set_cons_zero, List.set_cons_succ]
        have HM := Lib.hid (HS.out.mark hk HU.out)
        refine wpAnyH_take (i := 7) (v := ?_) rfl (by kernel_rfl) (by kernel_rfl) (by kernel_rfl) (fun _ _ _ h => h) (Or.inl ⟨by rfl, ?_⟩) (by assumption) ?_
        rotate_left
        · intro w hSw
          go_simp
          with_reducible rfl
        change wpAnyH _ _ _ _ _ _ _ (Act.put _ (some 33) _) _
        simp only [Act.put, List.setIfInBounds_toArray, List.set_cons_zero, List.set_cons_succ]
        refine wpAnyH_ready (rs := [8]) (by kernel_rfl) (by simp) ?_
        refine AllReadyH.cons rfl (fun K hK => ?_) AllReadyH.nil
        go_simp
        have HN := Lib.hid HM.out.1.drew
        have HNK := Lib.hid (HM.out.2.trans (NK.of ((Below.refl _ ((w.setCell ⟨gS, k, none⟩ (.bool true)).setCell ⟨gB, k, none⟩ (.pointer p))).drew) (Nat.le_refl _) HM.out.1.lo.2.2.2 (fun r hr => (HM.out.1.fr r hr).1)))
        refine hK.out _ _ (⟨HM.out.1.bs.cell, HM.out.1.bb.cell⟩) (fun hS => ?_)
        clear hK K
        try simp only [Act.put, List.setIfInBounds_toArray, List.set_cons_zero, List.set_cons_succ]
        refine wpAnyH_done (by kernel_rfl) ?_ _
        generalize ((w.setCell ⟨gS, k, none⟩ (.bool true)).setCell ⟨gB, k, none⟩ (.pointer p)).drew = w5 at HN HNK ⊢
        obtain ⟨sa', co, g, cap', W2, q1, hrun, q2, q3, q4⟩ := HN.out.push k hO
        have HRN := Lib.hid hrun
        have Q3 := Lib.hid q3
        have Q4 := Lib.hid (HNK.out.trans q4)
        have d0 := q1.cell
        have d1 := q2.cell
        have d2 := q2.frozen
        clear hrun q1 q2 q3 q4 HN HNK HM cs cb ck tk fs fb ck3 tk3 fs3 fb3 c1' c2' tk4 fb4 t1 t2 t3 cl
        go_wp2_with (at_builtin; refine wpList_append_run rfl _ _ 23 23 rfl rfl rfl HRN.out ?_)
        go_ret
        exact ⟨rfl, Q3.out, Q4.out⟩
end Go.Proofs.YtekfnonjhcfdmaaDoor
