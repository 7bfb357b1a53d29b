/- The terms of the reference's plain reader are within bounds; it answers as the plain parser does. -/
import Derived.Test.YtcpdmlnodhokmaaRb
namespace Go.Proofs.Ytcpdmlnodhokmaa
open Go.RowKit Go.Rt Go.Rw

/-- The state behind a step: no more to read than before, as many parts may come. -/
def Dn (st st' : Sr) : Prop := st'.r.length ≤ st.r.length ∧ st'.left = st.left ∧ (st'.bad = false → st.bad = false)
theorem Dn.trans {a b c : Sr} (h : Dn a b) (k : Dn b c) : Dn a c := ⟨Nat.le_trans k.1 h.1, k.2.1.trans h.2.1, fun q => h.2.2 (k.2.2 q)⟩
theorem Dn_take (st : Sr) (n : Nat) : Dn st (takeS st n).2 := by
  refine ⟨?_, takeS_left st n, takeS_bad st n⟩
  unfold takeS
  split
  · exact Nat.le_refl _
  · simp
theorem Dn_num (st : Sr) (k : Nat) : Dn st (numS st k).2 := Dn_take st k
theorem Dn_bad (c : Bool) (st : Sr) : Dn st (badS c st) := by
  refine ⟨?_, badS_left c st, fun h => (badS_bad c st h).2⟩
  unfold badS
  split <;> exact Nat.le_refl _
theorem Dn_name (st : Sr) : Dn st (nameS st).2 := by unfold nameS; exact (((Dn_num st 1).trans (Dn_bad _ _)).trans (Dn_num _ 1)).trans (Dn_take _ _)
theorem Dn_large (st : Sr) : Dn st (largeS st).2 := by unfold largeS largeT; exact (((Dn_num st 1).trans (Dn_num _ 1)).trans (Dn_take _ _)).trans (Dn_bad _ _)
theorem name_len (st : Sr) : (nameS st).1.length ≤ 255 := by
  unfold nameS
  have h1 := (takeS_len (numS (badS (decide ((numS st 1).1 ≠ 119)) (numS st 1).2) 1).2 (numS (badS (decide ((numS st 1).1 ≠ 119)) (numS st 1).2) 1).1).1
  have h2 := numS_lt (badS (decide ((numS st 1).1 ≠ 119)) (numS st 1).2) 1
  omega
theorem large_bounds (st : Sr) : -9223372036854775808 ≤ (largeS st).1 ∧ (largeS st).1 ≤ 9223372036854775807 := by
  unfold largeS largeT toI64
  dsimp only
  omega
/-- What the reader's term is, for each state that it is called with. -/
def SF (T : Sr → Tm × Sr) (d : Nat) : Prop := ∀ st : Sr, st.bad = false → 0 ≤ st.left → st.left < d → st.r.length ≤ 200000 →
  fitT (T st).1 ∧ (T st).2.r.length ≤ 200000 ∧ (cnt (T st).1 : Int) + (T st).2.left = st.left ∧ ((T st).2.bad = false → 0 ≤ (T st).2.left)
theorem items_fit {T : Sr → Tm × Sr} {d : Nat} (hT : SF T d) : ∀ (n : Nat) (st : Sr), st.left < d → (st.bad = false → 0 ≤ st.left) → st.r.length ≤ 200000 →
    fitL (itemsS T n st).1 ∧ (itemsS T n st).2.r.length ≤ 200000 ∧ (cntL (itemsS T n st).1 : Int) + (itemsS T n st).2.left = st.left ∧ ((itemsS T n st).2.bad = false → 0 ≤ (itemsS T n st).2.left)
  | 0, st, _, hb, hr => ⟨trivial, hr, by rw [itemsS, cntL]; dsimp only; omega, hb⟩
  | n + 1, st, hd, hb, hr => by
    cases hbad : st.bad with
    | true =>
      rw [itemsS_bad T _ st hbad]
      exact ⟨trivial, hr, by rw [cntL]; dsimp only; omega, hb⟩
    | false =>
      obtain ⟨f1, r1, c1, b1⟩ := hT st hbad (hb hbad) hd hr
      obtain ⟨f2, r2, c2, b2⟩ := items_fit hT n (T st).2 (by have := cnt_pos (T st).1; omega) b1 r1
      rw [itemsS, if_neg (by rw [hbad]; exact Bool.false_ne_true)]
      dsimp only
      rw [fitL, cntL]
      exact ⟨⟨f1, f2⟩, r2, by omega, b2⟩
theorem fit_flat_mk {f : Fl} {st st' : Sr} (hf : fitF f) (h : Dn st st') (hr : st.r.length ≤ 200000) (hb : st.bad = false → 0 ≤ st.left) :
    fitT (.mk f []) ∧ st'.r.length ≤ 200000 ∧ (cnt (.mk f []) : Int) + st'.left = st.left + 1 ∧ (st'.bad = false → 0 ≤ st'.left) := by
  refine ⟨?_, Nat.le_trans h.1 hr, ?_, fun q => ?_⟩
  · rw [fitT]; exact ⟨hf, trivial⟩
  · rw [cnt, cntL, h.2.1]; omega
  · rw [h.2.1]; exact hb (h.2.2 q)
theorem fit_deep_mk {T : Sr → Tm × Sr} {d : Nat} (hT : SF T d) {f : Fl} {st st' : Sr} {n : Nat} (hf : fitF f) (h : Dn st st') (hr : st.r.length ≤ 200000) (hd : st.left < d) (hb : st.bad = false → 0 ≤ st.left) :
    fitT (.mk f (itemsS T n st').1) ∧ (itemsS T n st').2.r.length ≤ 200000 ∧ (cnt (.mk f (itemsS T n st').1) : Int) + (itemsS T n st').2.left = st.left + 1 ∧ ((itemsS T n st').2.bad = false → 0 ≤ (itemsS T n st').2.left) := by
  obtain ⟨f1, r1, c1, b1⟩ := items_fit hT n st' (by rw [h.2.1]; exact hd) (fun q => by rw [h.2.1]; exact hb (h.2.2 q)) (Nat.le_trans h.1 hr)
  refine ⟨?_, r1, ?_, b1⟩
  · rw [fitT]; exact ⟨hf, f1⟩
  · rw [cnt]; have := h.2.1; omega
theorem num_nat (st : Sr) (k : Nat) (hk : k ≤ 4) : -9223372036854775808 ≤ ((numS st k).1 : Int) ∧ ((numS st k).1 : Int) ≤ 9223372036854775807 := by
  have h := numS_lt st k
  have : 256 ^ k ≤ 256 ^ 4 := Nat.pow_le_pow_right (by omega) hk
  omega
theorem bytes_le (st : Sr) (n : Nat) (hr : st.r.length ≤ 200000) : (takeS st n).1.length ≤ 200000 := Nat.le_trans (takeS_len st n).2 hr
set_option maxHeartbeats 1000000 in
theorem tag_fit {T : Sr → Tm × Sr} {d : Nat} (hT : SF T d) (tag : Nat) (st : Sr) (hd : st.left < d) (hb : st.bad = false → 0 ≤ st.left) (hr : st.r.length ≤ 200000) (hq : tag = 119 → st.r.length + 1 ≤ 200000) :
    fitT (tagS T tag st).1 ∧ (tagS T tag st).2.r.length ≤ 200000 ∧ (cnt (tagS T tag st).1 : Int) + (tagS T tag st).2.left = st.left + 1 ∧ ((tagS T tag st).2.bad = false → 0 ≤ (tagS T tag st).2.left) := by
  have z : -9223372036854775808 ≤ (0 : Int) ∧ (0 : Int) ≤ 9223372036854775807 := by omega
  have nB : noB.size ≤ 200000 := by decide
  have kk : ∀ k : Int, 0 ≤ k ∧ k ≤ 10 → -9223372036854775808 ≤ k ∧ k ≤ 9223372036854775807 := fun k h => by omega
  have aB : ∀ a : List UInt8, a.length ≤ 255 → (bA a).size ≤ 200000 := fun a h => by rw [bA_size]; omega
  have bB : ∀ a : List UInt8, a.length ≤ 200000 → (bA a).size ≤ 200000 := fun a h => by rw [bA_size]; omega
  by_cases h97 : tag = 97
  · rw [show tagS T tag st = s97 st by unfold tagS; rw [if_pos h97]]
    exact fit_flat_mk (fitF_mk nB nB nB (kk 1 (by omega)) (num_nat _ _ (by omega)) z z z) (Dn_num st 1) hr hb
  by_cases h98 : tag = 98
  · rw [show tagS T tag st = s98 st by unfold tagS; rw [if_neg h97, if_pos h98]]
    refine fit_flat_mk (fitF_mk nB nB nB (kk 1 (by omega)) ?_ z z z) (Dn_num st 4) hr hb
    have := numS_lt st 4
    unfold toI32
    split <;> omega
  by_cases h110 : tag = 110
  · rw [show tagS T tag st = s110 st by unfold tagS; rw [if_neg h97, if_neg h98, if_pos h110]]
    exact fit_flat_mk (fitF_mk nB nB nB (kk 1 (by omega)) (large_bounds st) z z z) (Dn_large st) hr hb
  by_cases h119 : tag = 119
  · rw [show tagS T tag st = s119 st by unfold tagS; rw [if_neg h97, if_neg h98, if_neg h110, if_pos h119]]
    refine ⟨?_, ?_, ?_, ?_⟩
    · show fitT (.mk _ [])
      rw [fitT]
      exact ⟨fitF_mk (aB _ (name_len _)) nB nB (kk 2 (by omega)) z z z z, trivial⟩
    · have h1 := (Dn_name ⟨119 :: st.r, st.left, st.bad⟩).1
      have h2 := hq h119
      have h3 : (119 :: st.r).length = st.r.length + 1 := List.length_cons
      show (nameS ⟨119 :: st.r, st.left, st.bad⟩).2.r.length ≤ 200000
      exact Nat.le_trans h1 (by show (119 :: st.r).length ≤ _; omega)
    · show (cnt (.mk _ []) : Int) + (nameS ⟨119 :: st.r, st.left, st.bad⟩).2.left = st.left + 1
      rw [cnt, cntL, (Dn_name _).2.1]
      show ((1 + 0 : Nat) : Int) + st.left = _
      omega
    · show (nameS ⟨119 :: st.r, st.left, st.bad⟩).2.bad = false → 0 ≤ (nameS ⟨119 :: st.r, st.left, st.bad⟩).2.left
      intro q
      rw [(Dn_name _).2.1]
      exact hb ((Dn_name ⟨119 :: st.r, st.left, st.bad⟩).2.2 q)
  by_cases h104 : tag = 104
  · rw [show tagS T tag st = s104 T st by unfold tagS; rw [if_neg h97, if_neg h98, if_neg h110, if_neg h119, if_pos h104]]
    exact fit_deep_mk hT (fitF_mk nB nB nB (kk 7 (by omega)) z z z z) (Dn_num st 1) hr hd hb
  by_cases h106 : tag = 106
  · rw [show tagS T tag st = s106 st by unfold tagS; rw [if_neg h97, if_neg h98, if_neg h110, if_neg h119, if_neg h104, if_pos h106]]
    exact fit_flat_mk (fitF_mk nB nB nB (kk 8 (by omega)) z z z z) ⟨Nat.le_refl _, rfl, id⟩ hr hb
  by_cases h108 : tag = 108
  · rw [show tagS T tag st = s108 T st by unfold tagS; rw [if_neg h97, if_neg h98, if_neg h110, if_neg h119, if_neg h104, if_neg h106, if_pos h108]]
    exact fit_deep_mk hT (fitF_mk nB nB nB (kk 9 (by omega)) z z z z) (Dn_num st 4) hr hd hb
  by_cases h109 : tag = 109
  · rw [show tagS T tag st = s109 st by unfold tagS; rw [if_neg h97, if_neg h98, if_neg h110, if_neg h119, if_neg h104, if_neg h106, if_neg h108, if_pos h109]]
    have := bytes_le (numS st 4).2 (numS st 4).1 (Nat.le_trans (Dn_num st 4).1 hr)
    exact fit_flat_mk (fitF_mk nB nB (bB _ this) (kk 10 (by omega)) z z z (by omega)) ((Dn_num st 4).trans (Dn_take _ _)) hr hb
  by_cases h77 : tag = 77
  · rw [show tagS T tag st = s77 st by unfold tagS; rw [if_neg h97, if_neg h98, if_neg h110, if_neg h119, if_neg h104, if_neg h106, if_neg h108, if_neg h109, if_pos h77]]
    have := bytes_le (numS (numS st 4).2 1).2 (numS st 4).1 (Nat.le_trans ((Dn_num st 4).trans (Dn_num _ 1)).1 hr)
    have h2 := numS_lt (numS st 4).2 1
    exact fit_flat_mk (fitF_mk nB nB (bB _ this) (kk 10 (by omega)) z z z (by omega)) (((Dn_num st 4).trans (Dn_num _ 1)).trans (Dn_take _ _)) hr hb
  by_cases h88 : tag = 88
  · rw [show tagS T tag st = s88 st by unfold tagS; rw [if_neg h97, if_neg h98, if_neg h110, if_neg h119, if_neg h104, if_neg h106, if_neg h108, if_neg h109, if_neg h77, if_pos h88]]
    exact fit_flat_mk (fitF_mk (aB _ (name_len _)) nB nB (kk 6 (by omega)) (num_nat _ _ (by omega)) (num_nat _ _ (by omega)) z z) ((((Dn_name st).trans (Dn_num _ 4)).trans (Dn_num _ 4)).trans (Dn_num _ 4)) hr hb
  by_cases h90 : tag = 90
  · rw [show tagS T tag st = s90 st by unfold tagS; rw [if_neg h97, if_neg h98, if_neg h110, if_neg h119, if_neg h104, if_neg h106, if_neg h108, if_neg h109, if_neg h77, if_neg h88, if_pos h90]]
    exact fit_flat_mk (fitF_mk (aB _ (name_len _)) nB nB (kk 3 (by omega)) (num_nat _ _ (by omega)) (num_nat _ _ (by omega)) z z) ((((Dn_num st 2).trans (Dn_name _)).trans (Dn_num _ 4)).trans (Dn_num _ 4)) hr hb
  by_cases h113 : tag = 113
  · rw [show tagS T tag st = s113 st by unfold tagS; rw [if_neg h97, if_neg h98, if_neg h110, if_neg h119, if_neg h104, if_neg h106, if_neg h108, if_neg h109, if_neg h77, if_neg h88, if_neg h90, if_pos h113]]
    exact fit_flat_mk (fitF_mk (aB _ (name_len _)) (aB _ (name_len _)) nB (kk 5 (by omega)) z z (num_nat _ _ (by omega)) z) (((((Dn_name st).trans (Dn_name _)).trans (Dn_num _ 1)).trans (Dn_bad _ _)).trans (Dn_num _ 1)) hr hb
  by_cases h112 : tag = 112
  · rw [show tagS T tag st = s112 T st by unfold tagS; rw [if_neg h97, if_neg h98, if_neg h110, if_neg h119, if_neg h104, if_neg h106, if_neg h108, if_neg h109, if_neg h77, if_neg h88, if_neg h90, if_neg h113, if_pos h112]]
    exact fit_deep_mk hT (fitF_mk (aB _ (name_len _)) nB nB (kk 4 (by omega)) (num_nat _ _ (by omega)) (num_nat _ _ (by omega)) (num_nat _ _ (by omega)) z) (((((Dn_num st 1).trans (Dn_num _ 2)).trans (Dn_num _ 1)).trans (Dn_name _)).trans (Dn_num _ 4)) hr hd hb
  rw [show tagS T tag st = (zeroT, ⟨st.r, st.left, true⟩) by unfold tagS; rw [if_neg h97, if_neg h98, if_neg h110, if_neg h119, if_neg h104, if_neg h106, if_neg h108, if_neg h109, if_neg h77, if_neg h88, if_neg h90, if_neg h113, if_neg h112]]
  exact fit_flat_mk (f := zeroFl) (fitF_mk nB nB nB z z z z z) (Dn_bad true st) hr hb
theorem numS_first {st st' : Sr} {n : Nat} (h : numS st 1 = (n, st')) (hn : n ≠ 0) : st.r.length = st'.r.length + 1 := by
  unfold numS at h
  obtain ⟨h1, h2⟩ := Prod.mk.inj h
  unfold takeS at h1 h2
  split at h1
  · exact absurd (by rw [← h1]; rfl) hn
  · rename_i hc
    rw [if_neg hc] at h2
    rw [← h2]
    simp only [not_or, Nat.not_lt] at hc
    show st.r.length = (st.r.drop 1).length + 1
    rw [List.length_drop]
    omega
theorem term_fit : ∀ d, SF (termS d) d
  | 0 => fun st hb h0 hd => by omega
  | d + 1 => fun st hb h0 hd hr => by
    rw [termS]
    unfold bodyS
    have hs : startS st = badS (decide (st.left - 1 < 0)) ⟨st.r, st.left - 1, false⟩ := by unfold startS; rw [hb]
    have hl : (startS st).left = st.left - 1 := by rw [hs]; exact badS_left _ _
    have hsr : (startS st).r = st.r := by rw [hs]; unfold badS; split <;> rfl
    have hsb : (startS st).bad = false → 0 ≤ st.left - 1 := fun q => by
      rw [hs] at q
      have := (badS_bad _ _ q).1
      rw [decide_eq_false_iff_not] at this
      omega
    have hD := Dn_num (startS st) 1
    have hF := numS_first (st := startS st) (n := (numS (startS st) 1).1) (st' := (numS (startS st) 1).2) rfl
    obtain ⟨h1, h2, h3, h4⟩ := tag_fit (term_fit d) (numS (startS st) 1).1 (numS (startS st) 1).2 (by rw [hD.2.1, hl]; omega) (fun q => by rw [hD.2.1, hl]; exact hsb (hD.2.2 q)) (by have := hD.1; rw [hsr] at this; omega) (fun q => by
      have := hF (by omega)
      rw [hsr] at this
      omega)
    refine ⟨h1, h2, ?_, h4⟩
    rw [hD.2.1, hl] at h3
    omega
/-- What the reference's Take returns. -/
def rtakeF (s : ByteArray) : Tm × Nat × Int :=
  if (termS 2001 ⟨s.data.toList, 2000, false⟩).2.bad = true ∨ validB (termS 2001 ⟨s.data.toList, 2000, false⟩).1 = false ∨ codeT (termS 2001 ⟨s.data.toList, 2000, false⟩).1 ≠ s.data.toList.take (s.size - (termS 2001 ⟨s.data.toList, 2000, false⟩).2.r.length) then (zeroT, 0, 6)
  else ((termS 2001 ⟨s.data.toList, 2000, false⟩).1, s.size - (termS 2001 ⟨s.data.toList, 2000, false⟩).2.r.length, 0)
/-- The program's Take and the reference's answer alike. -/
theorem rtakeF_eq (s : ByteArray) (hs : s.size ≤ 200000) : rtakeF s = takeF s := by
  have hsl := size_list s
  obtain ⟨hfit, _, hcnt, _⟩ := term_fit 2001 ⟨s.data.toList, 2000, false⟩ rfl (by show (0 : Int) ≤ 2000; omega) (by show (2000 : Int) < 2001; omega) (by rw [← hsl]; exact hs)
  rcases takeF_e s with h0 | h6
  · obtain ⟨hv, hf, ⟨m, hm⟩, hn⟩ := takeF_snd hs h0
    have hc := cnt_size _ (validB_iff hv).1
    have hsz := (validB_iff hv).2
    have hb := termS_back (takeF s).1 (validB_iff hv).1 hf 2001 2000 m (by omega) (by omega) (by decide)
    rw [← hm] at hb
    have hlen := congrArg List.length hm
    rw [List.length_append, ← hsl] at hlen
    unfold rtakeF
    rw [hb]
    dsimp only
    rw [show s.size - m.length = (codeT (takeF s).1).length by omega, if_neg]
    · rw [← hn, ← h0]
    · simp only [Bool.false_eq_true, false_or, not_or]
      refine ⟨by rw [hv]; decide, ?_⟩
      rw [hm]
      simp
  · unfold rtakeF
    split
    · exact h6.symm
    · rename_i hc
      exfalso
      simp only [not_or, Bool.not_eq_true, Bool.not_eq_false, ne_eq, Classical.not_not] at hc
      obtain ⟨_, hv, hcode⟩ := hc
      have := takeF_code hv hfit (s := s) (m := s.data.toList.drop (s.size - (termS 2001 ⟨s.data.toList, 2000, false⟩).2.r.length)) (by rw [hcode, List.take_append_drop])
      rw [h6] at this
      have := congrArg (fun q => q.2.2) this
      simp at this
end Go.Proofs.Ytcpdmlnodhokmaa
