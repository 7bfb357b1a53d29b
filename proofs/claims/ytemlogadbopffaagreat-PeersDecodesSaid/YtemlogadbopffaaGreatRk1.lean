/- The reference's plain reader takes the encoding of every well-formed term back; its terms are within bounds; it answers as the plain parser does. The terms of the reference's plain reader are within bounds; it answers as the plain parser does. stagehandref07.Take. -/
import Derived.Test.YtemlogadbopffaaGreatRs
import Derived.Test.YtemlogadbopffaaGreatRt
namespace Go.Proofs.YtemlogadbopffaaGreat
open Go.RowKit Go.Rt Go.Rw

theorem takeS_app (a r : List UInt8) (L : Int) (n : Nat) (h : a.length = n) : takeS ⟨a ++ r, L, false⟩ n = (a, ⟨r, L, false⟩) := by
 subst h
 unfold takeS
 rw [if_neg (by simp)]
 simp
theorem numS_app (a r : List UInt8) (L : Int) (k : Nat) (h : a.length = k) : numS ⟨a ++ r, L, false⟩ k = (beN a, ⟨r, L, false⟩) := by
 unfold numS
 rw [takeS_app a r L k h]
theorem numS_cons (c : UInt8) (r : List UInt8) (L : Int) : numS ⟨c :: r, L, false⟩ 1 = (c.toNat, ⟨r, L, false⟩) := by
 have := numS_app [c] r L 1 rfl
 rw [List.singleton_append] at this
 rw [this]
 simp [beN]
theorem numS_u8 (n : Int) (r : List UInt8) (L : Int) : numS ⟨u8 n :: r, L, false⟩ 1 = ((n % 256).toNat, ⟨r, L, false⟩) := by
 have := u8_toNat n
 rw [numS_cons, show (u8 n).toNat = (n % 256).toNat by omega]
theorem numS_num4 (n : Int) (r : List UInt8) (L : Int) : numS ⟨num4 n ++ r, L, false⟩ 4 = ((n % 4294967296).toNat, ⟨r, L, false⟩) := by
 have := beN_num4 n
 rw [numS_app _ _ _ 4 rfl, show beN (num4 n) = (n % 4294967296).toNat by omega]
theorem numS_num2 (n : Int) (r : List UInt8) (L : Int) : numS ⟨num2 n ++ r, L, false⟩ 2 = ((n % 65536).toNat, ⟨r, L, false⟩) := by
 have := beN_num2 n
 rw [numS_app _ _ _ 2 rfl, show beN (num2 n) = (n % 65536).toNat by omega]
theorem nameS_app (s : ByteArray) (h : s.size < 256) (r : List UInt8) (L : Int) : nameS ⟨atomB s ++ r, L, false⟩ = (s.data.toList, ⟨r, L, false⟩) := by
 unfold nameS atomB
 rw [List.cons_append, List.cons_append, numS_cons]
 dsimp only
 rw [show decide ((119 : UInt8).toNat ≠ 119) = false from rfl, show badS false ⟨u8 s.size :: (s.data.toList ++ r), L, false⟩ = ⟨u8 s.size :: (s.data.toList ++ r), L, false⟩ from rfl, numS_u8]
 dsimp only
 rw [takeS_app]
 simp
 omega
theorem toI64_id (n : Int) (hn : -9223372036854775808 ≤ n ∧ n ≤ 9223372036854775807) : toI64 n = n := by unfold toI64; omega
theorem largeS_back (n : Int) (_h : n < -2147483648 ∨ 2147483648 ≤ n) (hn : -9223372036854775808 ≤ n ∧ n ≤ 9223372036854775807) (r : List UInt8) (L : Int) : largeS ⟨u8 (leB n.natAbs).length :: signB n :: leB n.natAbs ++ r, L, false⟩ = (n, ⟨r, L, false⟩) := by
 have h8 := leB_len 8 n.natAbs (by omega)
 have hl := leN_leB n.natAbs
 have hs : (signB n).toNat = if n < 0 then 1 else 0 := by unfold signB; split <;> rfl
 unfold largeS
 rw [List.cons_append, List.cons_append, numS_u8]
 dsimp only
 rw [numS_cons]
 dsimp only
 rw [show (((leB n.natAbs).length : Int) % 256).toNat = (leB n.natAbs).length by omega, takeS_app _ _ _ _ rfl]
 unfold largeT
 rw [show (decide (8 < (leB n.natAbs).length) || decide (1 < (signB n).toNat)) = false by
  rw [hs]
  split <;> simp <;> omega]
 show (toI64 (if (signB n).toNat = 1 then -((leN (leB n.natAbs) : Nat) : Int) else ((leN (leB n.natAbs) : Nat) : Int)), _) = _
 rw [hl, hs]
 by_cases h0 : n < 0
 ·
  rw [if_pos h0, if_pos rfl, show -((n.natAbs : Nat) : Int) = n by omega, toI64_id n hn]
  rfl
 ·
  rw [if_neg h0, if_neg (by decide), show ((n.natAbs : Nat) : Int) = n by omega, toI64_id n hn]
  rfl
theorem bodyS_cons (T : Sr → Tm × Sr) (c : UInt8) (k : Nat) (hk : c.toNat = k) (r : List UInt8) (L : Int) : bodyS T (numS ⟨c :: r, L, false⟩ 1) = tagS T k ⟨r, L, false⟩ := by
 rw [numS_cons, hk]
 rfl
theorem intS_back (T : Sr → Tm × Sr) (n : Int) (hn : -9223372036854775808 ≤ n ∧ n ≤ 9223372036854775807) (r : List UInt8) (L : Int) : bodyS T (numS ⟨intB n ++ r, L, false⟩ 1) = (intT n, ⟨r, L, false⟩) := by
 unfold intB
 split
 ·
  rename_i h
  show bodyS T (numS ⟨97 :: u8 n :: r, L, false⟩ 1) = _
  rw [bodyS_cons T _ 97 rfl]
  show s97 _ = _
  unfold s97
  rw [numS_u8]
  dsimp only
  rw [show (((n % 256).toNat : Nat) : Int) = n by omega]
 ·
  split
  ·
   rename_i h1 h2
   show bodyS T (numS ⟨98 :: (num4 n ++ r), L, false⟩ 1) = _
   rw [bodyS_cons T _ 98 rfl]
   show s98 _ = _
   unfold s98
   rw [numS_num4]
   dsimp only
   rw [show toI32 (n % 4294967296).toNat = n by unfold toI32; split <;> omega]
  ·
   rename_i h1 h2
   show bodyS T (numS ⟨110 :: (u8 (leB n.natAbs).length :: signB n :: leB n.natAbs ++ r), L, false⟩ 1) = _
   rw [bodyS_cons T _ 110 rfl]
   show s110 _ = _
   unfold s110
   rw [largeS_back n (by omega) hn]
theorem tagS_104 (T : Sr → Tm × Sr) (st : Sr) : tagS T 104 st = s104 T st := by simp [tagS]
theorem tagS_108 (T : Sr → Tm × Sr) (st : Sr) : tagS T 108 st = s108 T st := by simp [tagS]
theorem tagS_112 (T : Sr → Tm × Sr) (st : Sr) : tagS T 112 st = s112 T st := by simp [tagS]
theorem tagS_119 (T : Sr → Tm × Sr) (st : Sr) : tagS T 119 st = s119 st := by simp [tagS]
theorem tagS_109 (T : Sr → Tm × Sr) (st : Sr) : tagS T 109 st = s109 st := by simp [tagS]
theorem tagS_77 (T : Sr → Tm × Sr) (st : Sr) : tagS T 77 st = s77 st := by simp [tagS]
theorem tagS_88 (T : Sr → Tm × Sr) (st : Sr) : tagS T 88 st = s88 st := by simp [tagS]
theorem tagS_90 (T : Sr → Tm × Sr) (st : Sr) : tagS T 90 st = s90 st := by simp [tagS]
theorem tagS_113 (T : Sr → Tm × Sr) (st : Sr) : tagS T 113 st = s113 st := by simp [tagS]
theorem headS_back {f : Fl} {l : List Tm} (h : Shape f l) (hfit : fitF f) (T : Sr → Tm × Sr) (L : Int) (m : List UInt8) (hlen2 : cntL l ≤ 2001)
  (hl : ∀ r, itemsS T l.length ⟨codeL l ++ r, L, false⟩ = (l, ⟨r, L - cntL l, false⟩)) : bodyS T (numS ⟨headB f l.length ++ codeL l ++ m, L, false⟩ 1) = (.mk f l, ⟨m, L - cntL l, false⟩) := by
 have hlen := cntL_len l
 have hIQ : ∀ n r, n = l.length → itemsS T n ⟨codeL l ++ r, L, false⟩ = (l, ⟨r, L - cntL l, false⟩) := by
  rintro n r rfl
  exact hl r
 have hL0 : L - ((0 : Nat) : Int) = L := by omega
 rw [List.append_assoc]
 cases h with
 | int n =>
  rw [show cntL [] = 0 from rfl, hL0]
  exact intS_back T n hfit.2.2.1 m L
 | atom s h =>
  have := nameF_size s h
  have e : headB ⟨2, 0, 0, s, noB, 0, noB, 0⟩ ([] : List Tm).length = atomB s := rfl
  rw [e, codeL, List.nil_append, show cntL [] = 0 from rfl, hL0]
  show bodyS T (numS ⟨119 :: (u8 s.size :: s.data.toList ++ m), L, false⟩ 1) = _
  rw [bodyS_cons T _ 119 rfl, tagS_119]
  unfold s119
  show (Tm.mk ⟨2, 0, 0, bA (nameS ⟨atomB s ++ m, L, false⟩).1, noB, 0, noB, 0⟩ [], (nameS ⟨atomB s ++ m, L, false⟩).2) = _
  rw [nameS_app s (by omega)]
  dsimp only
  rw [bA_list]
 | ref n g s hn hg h =>
  have := nameF_size s h
  have e : headB ⟨3, n, g, s, noB, 0, noB, 0⟩ ([] : List Tm).length = 90 :: ([0, 1] ++ (atomB s ++ (num4 g ++ num4 n))) := by simp [headB]
  rw [e, codeL, List.nil_append, List.cons_append, List.append_assoc, show cntL [] = 0 from rfl, hL0]
  rw [bodyS_cons T _ 90 rfl, tagS_90]
  unfold s90
  rw [numS_app _ _ _ 2 rfl]
  dsimp only
  rw [List.append_assoc, nameS_app s (by omega)]
  unfold k90
  dsimp only
  rw [List.append_assoc, numS_num4]
  unfold j90
  dsimp only
  rw [numS_num4]
  unfold i90
  dsimp only
  rw [bA_list, show (((g % 4294967296).toNat : Nat) : Int) = g by omega, show (((n % 4294967296).toNat : Nat) : Int) = n by omega]
 | clo n g s a l hn hg h ha hl2 =>
  have := nameF_size s h
  have e : headB ⟨4, n, g, s, noB, a, noB, 0⟩ l.length = 112 :: u8 a :: (num2 n ++ (u8 l.length :: (atomB s ++ num4 g))) := by simp [headB]
  rw [e, List.cons_append, List.cons_append, List.append_assoc]
  rw [bodyS_cons T _ 112 rfl, tagS_112]
  unfold s112
  rw [numS_u8]
  unfold m112
  dsimp only
  rw [numS_num2]
  unfold l112
  dsimp only
  rw [List.cons_append, numS_u8]
  unfold k112
  dsimp only
  rw [List.append_assoc, nameS_app s (by omega)]
  unfold j112
  dsimp only
  rw [numS_num4]
  unfold i112
  dsimp only
  rw [hIQ _ m (by omega)]
  dsimp only
  rw [bA_list, show (((g % 4294967296).toNat : Nat) : Int) = g by omega, show (((n % 65536).toNat : Nat) : Int) = n by omega, show (((a % 256).toNat : Nat) : Int) = a by omega]
 | exp s f a h h2 ha =>
  have := nameF_size s h
  have := nameF_size f h2
  have ia : intB a = [97, u8 a] := by unfold intB; rw [if_pos (by omega)]
  have e : headB ⟨5, 0, 0, s, f, a, noB, 0⟩ ([] : List Tm).length = 113 :: (atomB s ++ (atomB f ++ intB a)) := by simp [headB]
  rw [e, codeL, List.nil_append, List.cons_append, List.append_assoc, show cntL [] = 0 from rfl, hL0]
  rw [bodyS_cons T _ 113 rfl, tagS_113]
  unfold s113
  rw [nameS_app s (by omega)]
  unfold l113
  dsimp only
  rw [List.append_assoc, nameS_app f (by omega)]
  unfold k113
  dsimp only
  rw [ia, List.cons_append, List.singleton_append, numS_cons]
  unfold j113
  dsimp only
  rw [show decide ((97 : UInt8).toNat ≠ 97) = false from rfl, show badS false ⟨u8 a :: m, L, false⟩ = ⟨u8 a :: m, L, false⟩ from rfl, numS_u8]
  unfold i113
  dsimp only
  rw [bA_list, bA_list, show (((a % 256).toNat : Nat) : Int) = a by omega]
 | pid n g s hn hg h =>
  have := nameF_size s h
  have e : headB ⟨6, n, g, s, noB, 0, noB, 0⟩ ([] : List Tm).length = 88 :: (atomB s ++ (num4 n ++ (num4 0 ++ num4 g))) := by simp [headB]
  rw [e, codeL, List.nil_append, List.cons_append, List.append_assoc, show cntL [] = 0 from rfl, hL0]
  rw [bodyS_cons T _ 88 rfl, tagS_88]
  unfold s88
  rw [nameS_app s (by omega)]
  unfold k88
  dsimp only
  rw [List.append_assoc, numS_num4]
  unfold j88
  dsimp only
  rw [List.append_assoc, numS_num4]
  dsimp only
  rw [numS_num4]
  unfold i88
  dsimp only
  rw [bA_list, show (((g % 4294967296).toNat : Nat) : Int) = g by omega, show (((n % 4294967296).toNat : Nat) : Int) = n by omega]
 | tup l hl2 =>
  have e : headB ⟨7, 0, 0, noB, noB, 0, noB, 0⟩ l.length = [104, u8 l.length] := by simp [headB]
  rw [e, List.cons_append, List.singleton_append]
  rw [bodyS_cons T _ 104 rfl, tagS_104]
  unfold s104
  rw [numS_u8]
  unfold i104
  dsimp only
  rw [hIQ _ m (by omega)]
 | nil =>
  rw [show cntL [] = 0 from rfl, hL0]
  show bodyS T (numS ⟨106 :: ([] ++ m), L, false⟩ 1) = _
  rw [bodyS_cons T _ 106 rfl]
  rfl
 | list l hl2 =>
  have e : headB ⟨9, 0, 0, noB, noB, 0, noB, 0⟩ l.length = 108 :: num4 ((l.length : Int) - 1) := by simp [headB]
  rw [e, List.cons_append]
  rw [bodyS_cons T _ 108 rfl, tagS_108]
  unfold s108
  rw [numS_num4]
  unfold i108
  dsimp only
  rw [hIQ _ m (by omega)]
 | bits s bt h =>
  unfold bitsB at h
  rw [Bool.and_eq_true, Bool.and_eq_true, decide_eq_true_eq] at h
  obtain ⟨hb, hs, _⟩ := h
  have hb := inB_iff hb
  rw [show cntL [] = 0 from rfl, hL0, codeL, List.nil_append]
  by_cases h8 : bt % 8 = 0
  ·
   have e : headB ⟨10, 0, 0, noB, noB, 0, s, bt⟩ ([] : List Tm).length = 109 :: (num4 s.size ++ s.data.toList) := by simp [headB, h8]
   rw [e, List.cons_append, bodyS_cons T _ 109 rfl, tagS_109]
   unfold s109
   rw [List.append_assoc, numS_num4]
   dsimp only
   rw [takeS_app _ _ _ _ (by simp; omega)]
   unfold i109
   dsimp only
   rw [bA_list, show 8 * ((s.data.toList.length : Nat) : Int) = bt by simp; omega]
  ·
   have e : headB ⟨10, 0, 0, noB, noB, 0, s, bt⟩ ([] : List Tm).length = 77 :: (num4 s.size ++ (u8 (bt % 8) :: s.data.toList)) := by simp [headB, h8]
   rw [e, List.cons_append, bodyS_cons T _ 77 rfl, tagS_77]
   unfold s77
   rw [List.append_assoc, numS_num4]
   unfold j77
   dsimp only
   rw [List.cons_append, numS_u8]
   dsimp only
   rw [takeS_app _ _ _ _ (by simp; omega)]
   unfold i77
   dsimp only
   rw [bA_list, show 8 * ((s.data.toList.length : Nat) : Int) - 8 + ((bt % 8 % 256).toNat : Int) = bt by simp; omega]
mutual
/-- What is encoded is taken back by the reference's reader, whatever follows. -/
theorem termS_back : ∀ t, formed t = true → fitT t → ∀ d (q : Int) m, (cnt t : Int) ≤ q → cnt t ≤ d → q ≤ 2000 → termS d ⟨codeT t ++ m, q, false⟩ = (t, ⟨m, q - cnt t, false⟩)
 | .mk f l, h, hf, d, q, m, hq, hd, h2 => by
  rw [formed, Bool.and_eq_true] at h
  rw [fitT] at hf
  rw [cnt] at hq hd ⊢
  obtain ⟨e, rfl⟩ : ∃ e, d = e + 1 := ⟨d - 1, by omega⟩
  rw [termS, codeT]
  have hs : startS ⟨headB f l.length ++ codeL l ++ m, q, false⟩ = ⟨headB f l.length ++ codeL l ++ m, q - 1, false⟩ := by
   unfold startS
   dsimp only
   rw [decide_eq_false (by omega)]
   rfl
  rw [hs, headS_back (shape h.1) hf.1 _ _ _ (by omega) (fun r => itemsS_back l h.2 hf.2 e (q - 1) r (by omega) (by omega) (by omega))]
  congr 2
  omega
theorem itemsS_back : ∀ l, formedL l = true → fitL l → ∀ d (q : Int) m, (cntL l : Int) ≤ q → cntL l ≤ d → q ≤ 2000 → itemsS (termS d) l.length ⟨codeL l ++ m, q, false⟩ = (l, ⟨m, q - cntL l, false⟩)
 | [], _, _, d, q, m, _, _, _ => by
  rw [List.length_nil, itemsS, codeL, cntL]
  congr 2
  omega
 | t :: r, h, hf, d, q, m, hq, hd, h2 => by
  rw [formedL, Bool.and_eq_true] at h
  rw [fitL] at hf
  rw [cntL] at hq hd ⊢
  rw [List.length_cons, itemsS, if_neg Bool.false_ne_true, codeL, List.append_assoc, termS_back t h.1 hf.1 d q _ (by omega) (by omega) h2]
  dsimp only
  rw [itemsS_back r h.2 hf.2 d (q - cnt t) m (by omega) (by omega) (by omega)]
  dsimp only
  congr 2
  omega
end
end Go.Proofs.YtemlogadbopffaaGreat
namespace Go.Proofs.YtemlogadbopffaaGreat
open Go.RowKit Go.Rt Go.Rw

/-- The state behind a step: no more to read than before, as many parts may come. -/
def Dn (st st' : Sr) : Prop := st'.r.length ≤ st.r.length ∧ st'.left = st.left ∧ (st'.bad = false → st.bad = false)
theorem Dn.trans {a b c : Sr} (h : Dn a b) (k : Dn b c) : Dn a c := ⟨Nat.le_trans k.1 h.1, k.2.1.trans h.2.1, fun q => h.2.2 (k.2.2 q)⟩
theorem Dn_take (st : Sr) (n : Nat) : Dn st (takeS st n).2 := by
 refine ⟨?_, takeS_left st n, takeS_bad st n⟩
 unfold takeS
 split
 ·
  exact Nat.le_refl _
 ·
  simp
theorem Dn_num (st : Sr) (k : Nat) : Dn st (numS st k).2 := Dn_take st k
theorem Dn_bad (c : Bool) (st : Sr) : Dn st (badS c st) := by
 refine ⟨?_, badS_left c st, fun h => (badS_bad c st h).2⟩
 unfold badS
 split <;> exact Nat.le_refl _
theorem Dn_name (st : Sr) : Dn st (nameS st).2 := by unfold nameS; exact (((Dn_num st 1).trans (Dn_bad _ _)).trans (Dn_num _ 1)).trans (Dn_take _ _)
theorem Dn_large (st : Sr) : Dn st (largeS st).2 := by unfold largeS largeT; exact (((Dn_num st 1).trans (Dn_num _ 1)).trans (Dn_take _ _)).trans (Dn_bad _ _)
theorem name_len (st : Sr) : (nameS st).1.length ≤ 255 := by
 unfold nameS
 have h1 := (takeS_len (numS (badS (decide ((numS st 1).1 ≠ 119)) (numS st 1).2) 1).2 (numS (badS (decide ((numS st 1).1 ≠ 119)) (numS st 1).2) 1).1).1
 have h2 := numS_lt (badS (decide ((numS st 1).1 ≠ 119)) (numS st 1).2) 1
 omega
theorem large_bounds (st : Sr) : -9223372036854775808 ≤ (largeS st).1 ∧ (largeS st).1 ≤ 9223372036854775807 := by
 unfold largeS largeT toI64
 dsimp only
 omega
/-- What the reader's term is, for each state that it is called with. -/
def SF (T : Sr → Tm × Sr) (d : Nat) : Prop := ∀ st : Sr, st.bad = false → 0 ≤ st.left → st.left < d → st.r.length ≤ 200000 →
 fitT (T st).1 ∧ (T st).2.r.length ≤ 200000 ∧ (cnt (T st).1 : Int) + (T st).2.left = st.left ∧ ((T st).2.bad = false → 0 ≤ (T st).2.left)
theorem items_fit {T : Sr → Tm × Sr} {d : Nat} (hT : SF T d) : ∀ (n : Nat) (st : Sr), st.left < d → (st.bad = false → 0 ≤ st.left) → st.r.length ≤ 200000 →
  fitL (itemsS T n st).1 ∧ (itemsS T n st).2.r.length ≤ 200000 ∧ (cntL (itemsS T n st).1 : Int) + (itemsS T n st).2.left = st.left ∧ ((itemsS T n st).2.bad = false → 0 ≤ (itemsS T n st).2.left)
 | 0, st, _, hb, hr => ⟨trivial, hr, by rw [itemsS, cntL]; dsimp only; omega, hb⟩
 | n + 1, st, hd, hb, hr => by
  cases hbad : st.bad with
  | true =>
   rw [itemsS_bad T _ st hbad]
   exact ⟨trivial, hr, by rw [cntL]; dsimp only; omega, hb⟩
  | false =>
   obtain ⟨f1, r1, c1, b1⟩ := hT st hbad (hb hbad) hd hr
   obtain ⟨f2, r2, c2, b2⟩ := items_fit hT n (T st).2 (by have := cnt_pos (T st).1; omega) b1 r1
   rw [itemsS, if_neg (by rw [hbad]; exact Bool.false_ne_true)]
   dsimp only
   rw [fitL, cntL]
   exact ⟨⟨f1, f2⟩, r2, by omega, b2⟩
theorem fit_flat_mk {f : Fl} {st st' : Sr} (hf : fitF f) (h : Dn st st') (hr : st.r.length ≤ 200000) (hb : st.bad = false → 0 ≤ st.left) :
  fitT (.mk f []) ∧ st'.r.length ≤ 200000 ∧ (cnt (.mk f []) : Int) + st'.left = st.left + 1 ∧ (st'.bad = false → 0 ≤ st'.left) := by
 refine ⟨?_, Nat.le_trans h.1 hr, ?_, fun q => ?_⟩
 ·
  rw [fitT]; exact ⟨hf, trivial⟩
 ·
  rw [cnt, cntL, h.2.1]; omega
 ·
  rw [h.2.1]; exact hb (h.2.2 q)
theorem fit_deep_mk {T : Sr → Tm × Sr} {d : Nat} (hT : SF T d) {f : Fl} {st st' : Sr} {n : Nat} (hf : fitF f) (h : Dn st st') (hr : st.r.length ≤ 200000) (hd : st.left < d) (hb : st.bad = false → 0 ≤ st.left) :
  fitT (.mk f (itemsS T n st').1) ∧ (itemsS T n st').2.r.length ≤ 200000 ∧ (cnt (.mk f (itemsS T n st').1) : Int) + (itemsS T n st').2.left = st.left + 1 ∧ ((itemsS T n st').2.bad = false → 0 ≤ (itemsS T n st').2.left) := by
 obtain ⟨f1, r1, c1, b1⟩ := items_fit hT n st' (by rw [h.2.1]; exact hd) (fun q => by rw [h.2.1]; exact hb (h.2.2 q)) (Nat.le_trans h.1 hr)
 refine ⟨?_, r1, ?_, b1⟩
 ·
  rw [fitT]; exact ⟨hf, f1⟩
 ·
  rw [cnt]; have := h.2.1; omega
theorem num_nat (st : Sr) (k : Nat) (hk : k ≤ 4) : -9223372036854775808 ≤ ((numS st k).1 : Int) ∧ ((numS st k).1 : Int) ≤ 9223372036854775807 := by
 have h := numS_lt st k
 have : 256 ^ k ≤ 256 ^ 4 := Nat.pow_le_pow_right (by omega) hk
 omega
theorem bytes_le (st : Sr) (n : Nat) (hr : st.r.length ≤ 200000) : (takeS st n).1.length ≤ 200000 := Nat.le_trans (takeS_len st n).2 hr
set_option maxHeartbeats 1000000 in
theorem tag_fit {T : Sr → Tm × Sr} {d : Nat} (hT : SF T d) (tag : Nat) (st : Sr) (hd : st.left < d) (hb : st.bad = false → 0 ≤ st.left) (hr : st.r.length ≤ 200000) (hq : tag = 119 → st.r.length + 1 ≤ 200000) :
  fitT (tagS T tag st).1 ∧ (tagS T tag st).2.r.length ≤ 200000 ∧ (cnt (tagS T tag st).1 : Int) + (tagS T tag st).2.left = st.left + 1 ∧ ((tagS T tag st).2.bad = false → 0 ≤ (tagS T tag st).2.left) := by
 have z : -9223372036854775808 ≤ (0 : Int) ∧ (0 : Int) ≤ 9223372036854775807 := by omega
 have nB : noB.size ≤ 200000 := by decide
 have kk : ∀ k : Int, 0 ≤ k ∧ k ≤ 10 → -9223372036854775808 ≤ k ∧ k ≤ 9223372036854775807 := fun k h => by omega
 have aB : ∀ a : List UInt8, a.length ≤ 255 → (bA a).size ≤ 200000 := fun a h => by rw [bA_size]; omega
 have bB : ∀ a : List UInt8, a.length ≤ 200000 → (bA a).size ≤ 200000 := fun a h => by rw [bA_size]; omega
 by_cases h97 : tag = 97
 ·
  rw [show tagS T tag st = s97 st by unfold tagS; rw [if_pos h97]]
  exact fit_flat_mk (fitF_mk nB nB nB (kk 1 (by omega)) (num_nat _ _ (by omega)) z z z) (Dn_num st 1) hr hb
 by_cases h98 : tag = 98
 ·
  rw [show tagS T tag st = s98 st by unfold tagS; rw [if_neg h97, if_pos h98]]
  refine fit_flat_mk (fitF_mk nB nB nB (kk 1 (by omega)) ?_ z z z) (Dn_num st 4) hr hb
  have := numS_lt st 4
  unfold toI32
  split <;> omega
 by_cases h110 : tag = 110
 ·
  rw [show tagS T tag st = s110 st by unfold tagS; rw [if_neg h97, if_neg h98, if_pos h110]]
  exact fit_flat_mk (fitF_mk nB nB nB (kk 1 (by omega)) (large_bounds st) z z z) (Dn_large st) hr hb
 by_cases h119 : tag = 119
 ·
  rw [show tagS T tag st = s119 st by unfold tagS; rw [if_neg h97, if_neg h98, if_neg h110, if_pos h119]]
  refine ⟨?_, ?_, ?_, ?_⟩
  ·
   show fitT (.mk _ [])
   rw [fitT]
   exact ⟨fitF_mk (aB _ (name_len _)) nB nB (kk 2 (by omega)) z z z z, trivial⟩
  ·
   have h1 := (Dn_name ⟨119 :: st.r, st.left, st.bad⟩).1
   have h2 := hq h119
   have h3 : (119 :: st.r).length = st.r.length + 1 := List.length_cons
   show (nameS ⟨119 :: st.r, st.left, st.bad⟩).2.r.length ≤ 200000
   exact Nat.le_trans h1 (by show (119 :: st.r).length ≤ _; omega)
  ·
   show (cnt (.mk _ []) : Int) + (nameS ⟨119 :: st.r, st.left, st.bad⟩).2.left = st.left + 1
   rw [cnt, cntL, (Dn_name _).2.1]
   show ((1 + 0 : Nat) : Int) + st.left = _
   omega
  ·
   show (nameS ⟨119 :: st.r, st.left, st.bad⟩).2.bad = false → 0 ≤ (nameS ⟨119 :: st.r, st.left, st.bad⟩).2.left
   intro q
   rw [(Dn_name _).2.1]
   exact hb ((Dn_name ⟨119 :: st.r, st.left, st.bad⟩).2.2 q)
 by_cases h104 : tag = 104
 ·
  rw [show tagS T tag st = s104 T st by unfold tagS; rw [if_neg h97, if_neg h98, if_neg h110, if_neg h119, if_pos h104]]
  exact fit_deep_mk hT (fitF_mk nB nB nB (kk 7 (by omega)) z z z z) (Dn_num st 1) hr hd hb
 by_cases h106 : tag = 106
 ·
  rw [show tagS T tag st = s106 st by unfold tagS; rw [if_neg h97, if_neg h98, if_neg h110, if_neg h119, if_neg h104, if_pos h106]]
  exact fit_flat_mk (fitF_mk nB nB nB (kk 8 (by omega)) z z z z) ⟨Nat.le_refl _, rfl, id⟩ hr hb
 by_cases h108 : tag = 108
 ·
  rw [show tagS T tag st = s108 T st by unfold tagS; rw [if_neg h97, if_neg h98, if_neg h110, if_neg h119, if_neg h104, if_neg h106, if_pos h108]]
  exact fit_deep_mk hT (fitF_mk nB nB nB (kk 9 (by omega)) z z z z) (Dn_num st 4) hr hd hb
 by_cases h109 : tag = 109
 ·
  rw [show tagS T tag st = s109 st by unfold tagS; rw [if_neg h97, if_neg h98, if_neg h110, if_neg h119, if_neg h104, if_neg h106, if_neg h108, if_pos h109]]
  have := bytes_le (numS st 4).2 (numS st 4).1 (Nat.le_trans (Dn_num st 4).1 hr)
  exact fit_flat_mk (fitF_mk nB nB (bB _ this) (kk 10 (by omega)) z z z (by omega)) ((Dn_num st 4).trans (Dn_take _ _)) hr hb
 by_cases h77 : tag = 77
 ·
  rw [show tagS T tag st = s77 st by unfold tagS; rw [if_neg h97, if_neg h98, if_neg h110, if_neg h119, if_neg h104, if_neg h106, if_neg h108, if_neg h109, if_pos h77]]
  have := bytes_le (numS (numS st 4).2 1).2 (numS st 4).1 (Nat.le_trans ((Dn_num st 4).trans (Dn_num _ 1)).1 hr)
  have h2 := numS_lt (numS st 4).2 1
  exact fit_flat_mk (fitF_mk nB nB (bB _ this) (kk 10 (by omega)) z z z (by omega)) (((Dn_num st 4).trans (Dn_num _ 1)).trans (Dn_take _ _)) hr hb
 by_cases h88 : tag = 88
 ·
  rw [show tagS T tag st = s88 st by unfold tagS; rw [if_neg h97, if_neg h98, if_neg h110, if_neg h119, if_neg h104, if_neg h106, if_neg h108, if_neg h109, if_neg h77, if_pos h88]]
  exact fit_flat_mk (fitF_mk (aB _ (name_len _)) nB nB (kk 6 (by omega)) (num_nat _ _ (by omega)) (num_nat _ _ (by omega)) z z) ((((Dn_name st).trans (Dn_num _ 4)).trans (Dn_num _ 4)).trans (Dn_num _ 4)) hr hb
 by_cases h90 : tag = 90
 ·
  rw [show tagS T tag st = s90 st by unfold tagS; rw [if_neg h97, if_neg h98, if_neg h110, if_neg h119, if_neg h104, if_neg h106, if_neg h108, if_neg h109, if_neg h77, if_neg h88, if_pos h90]]
  exact fit_flat_mk (fitF_mk (aB _ (name_len _)) nB nB (kk 3 (by omega)) (num_nat _ _ (by omega)) (num_nat _ _ (by omega)) z z) ((((Dn_num st 2).trans (Dn_name _)).trans (Dn_num _ 4)).trans (Dn_num _ 4)) hr hb
 by_cases h113 : tag = 113
 ·
  rw [show tagS T tag st = s113 st by unfold tagS; rw [if_neg h97, if_neg h98, if_neg h110, if_neg h119, if_neg h104, if_neg h106, if_neg h108, if_neg h109, if_neg h77, if_neg h88, if_neg h90, if_pos h113]]
  exact fit_flat_mk (fitF_mk (aB _ (name_len _)) (aB _ (name_len _)) nB (kk 5 (by omega)) z z (num_nat _ _ (by omega)) z) (((((Dn_name st).trans (Dn_name _)).trans (Dn_num _ 1)).trans (Dn_bad _ _)).trans (Dn_num _ 1)) hr hb
 by_cases h112 : tag = 112
 ·
  rw [show tagS T tag st = s112 T st by unfold tagS; rw [if_neg h97, if_neg h98, if_neg h110, if_neg h119, if_neg h104, if_neg h106, if_neg h108, if_neg h109, if_neg h77, if_neg h88, if_neg h90, if_neg h113, if_pos h112]]
  exact fit_deep_mk hT (fitF_mk (aB _ (name_len _)) nB nB (kk 4 (by omega)) (num_nat _ _ (by omega)) (num_nat _ _ (by omega)) (num_nat _ _ (by omega)) z) (((((Dn_num st 1).trans (Dn_num _ 2)).trans (Dn_num _ 1)).trans (Dn_name _)).trans (Dn_num _ 4)) hr hd hb
 rw [show tagS T tag st = (zeroT, ⟨st.r, st.left, true⟩) by unfold tagS; rw [if_neg h97, if_neg h98, if_neg h110, if_neg h119, if_neg h104, if_neg h106, if_neg h108, if_neg h109, if_neg h77, if_neg h88, if_neg h90, if_neg h113, if_neg h112]]
 exact fit_flat_mk (f := zeroFl) (fitF_mk nB nB nB z z z z z) (Dn_bad true st) hr hb
theorem numS_first {st st' : Sr} {n : Nat} (h : numS st 1 = (n, st')) (hn : n ≠ 0) : st.r.length = st'.r.length + 1 := by
 unfold numS at h
 obtain ⟨h1, h2⟩ := Prod.mk.inj h
 unfold takeS at h1 h2
 split at h1
 ·
  exact absurd (by rw [← h1]; rfl) hn
 ·
  rename_i hc
  rw [if_neg hc] at h2
  rw [← h2]
  simp only [not_or, Nat.not_lt] at hc
  show st.r.length = (st.r.drop 1).length + 1
  rw [List.length_drop]
  omega
theorem term_fit : ∀ d, SF (termS d) d
 | 0 => fun st hb h0 hd => by omega
 | d + 1 => fun st hb h0 hd hr => by
  rw [termS]
  unfold bodyS
  have hs : startS st = badS (decide (st.left - 1 < 0)) ⟨st.r, st.left - 1, false⟩ := by unfold startS; rw [hb]
  have hl : (startS st).left = st.left - 1 := by rw [hs]; exact badS_left _ _
  have hsr : (startS st).r = st.r := by rw [hs]; unfold badS; split <;> rfl
  have hsb : (startS st).bad = false → 0 ≤ st.left - 1 := fun q => by
   rw [hs] at q
   have := (badS_bad _ _ q).1
   rw [decide_eq_false_iff_not] at this
   omega
  have hD := Dn_num (startS st) 1
  have hF := numS_first (st := startS st) (n := (numS (startS st) 1).1) (st' := (numS (startS st) 1).2) rfl
  obtain ⟨h1, h2, h3, h4⟩ := tag_fit (term_fit d) (numS (startS st) 1).1 (numS (startS st) 1).2 (by rw [hD.2.1, hl]; omega) (fun q => by rw [hD.2.1, hl]; exact hsb (hD.2.2 q)) (by have := hD.1; rw [hsr] at this; omega) (fun q => by
   have := hF (by omega)
   rw [hsr] at this
   omega)
  refine ⟨h1, h2, ?_, h4⟩
  rw [hD.2.1, hl] at h3
  omega
/-- What the reference's Take returns. -/
def rtakeF (s : ByteArray) : Tm × Nat × Int :=
 if (termS 2001 ⟨s.data.toList, 2000, false⟩).2.bad = true ∨ validB (termS 2001 ⟨s.data.toList, 2000, false⟩).1 = false ∨ codeT (termS 2001 ⟨s.data.toList, 2000, false⟩).1 ≠ s.data.toList.take (s.size - (termS 2001 ⟨s.data.toList, 2000, false⟩).2.r.length) then (zeroT, 0, 6)
 else ((termS 2001 ⟨s.data.toList, 2000, false⟩).1, s.size - (termS 2001 ⟨s.data.toList, 2000, false⟩).2.r.length, 0)
/-- The program's Take and the reference's answer alike. -/
theorem rtakeF_eq (s : ByteArray) (hs : s.size ≤ 200000) : rtakeF s = takeF s := by
 have hsl := size_list s
 obtain ⟨hfit, _, hcnt, _⟩ := term_fit 2001 ⟨s.data.toList, 2000, false⟩ rfl (by show (0 : Int) ≤ 2000; omega) (by show (2000 : Int) < 2001; omega) (by rw [← hsl]; exact hs)
 rcases takeF_e s with h0 | h6
 ·
  obtain ⟨hv, hf, ⟨m, hm⟩, hn⟩ := takeF_snd hs h0
  have hc := cnt_size _ (validB_iff hv).1
  have hsz := (validB_iff hv).2
  have hb := termS_back (takeF s).1 (validB_iff hv).1 hf 2001 2000 m (by omega) (by omega) (by decide)
  rw [← hm] at hb
  have hlen := congrArg List.length hm
  rw [List.length_append, ← hsl] at hlen
  unfold rtakeF
  rw [hb]
  dsimp only
  rw [show s.size - m.length = (codeT (takeF s).1).length by omega, if_neg]
  ·
   rw [← hn, ← h0]
  ·
   simp only [Bool.false_eq_true, false_or, not_or]
   refine ⟨by rw [hv]; decide, ?_⟩
   rw [hm]
   simp
 ·
  unfold rtakeF
  split
  ·
   exact h6.symm
  ·
   rename_i hc
   exfalso
   simp only [not_or, Bool.not_eq_true, Bool.not_eq_false, ne_eq, Classical.not_not] at hc
   obtain ⟨_, hv, hcode⟩ := hc
   have := takeF_code hv hfit (s := s) (m := s.data.toList.drop (s.size - (termS 2001 ⟨s.data.toList, 2000, false⟩).2.r.length)) (by rw [hcode, List.take_append_drop])
   rw [h6] at this
   have := congrArg (fun q => q.2.2) this
   simp at this
end Go.Proofs.YtemlogadbopffaaGreat
namespace Go.Proofs.YtemlogadbopffaaGreat
open Go.RowKit Go.Rt Go.Rw

theorem TmAt.old {S : Nat → Prop} {w : World} {t : Tm} {x : Ft} (h : TmAt S w t x) : TmAt (fun b => b < w.heap.size) w t x := h.map (Nat.le_refl _) (fun _ _ _ => rfl) (fun _ _ h => h)

theorem step_conv_run {P : Program} {ops : Array Oper} {o : Oper} {a : Act} {w w' : World} {K : Act → World → Prop} {Q : Exit → Act → World → Prop} {E : Prop} {v v' : Value}
  (hw : Region.wanted o (yielded ops a.tmps) = true) (src dst : TypeId) (x : Operand) (ho : o.op = .convert src dst x) (hx : a.eval x = v) (hrun : (convert src dst v).run P w = .ok v' w') (hK : K (a.put o.dst v') w') :
  if Region.wanted o (yielded ops a.tmps) = true then Oper.wp P o a w K Q else E := by
 rw [if_pos hw]
 unfold Oper.wp execOp
 simp only [ho, hx, Sem.run_bind, Sem.run_pure, Result.andThen_ok, hrun, Oper.upon]
 exact hK
theorem results_ctt {P : Program} {fn : Func} {a b c : Tmp} {ty t : TypeId} (h : fn.results = #[.cell a ty, .tmp b, .tmp c]) (tmps : Array Value) (w : World) (g : Nat) (cs : Array Value) (d : TypeDesc) (u v : Value) (hx : tmps.getD a undef = .pointer (some ⟨g, 0, none⟩)) (hb : tmps.getD b undef = u) (hv : tmps.getD c undef = v)
  (hc : Blk w g t cs) (hu : P.underlying ty = some d) (hd : d.isRow = true) (hi : (P.info? ty).map (·.size) = some cs.size) : (results fn tmps).run P w = .ok (.tuple #[.agg cs, u, v]) w := by
 have := run_loadVar_mid (P := P) w g 0 ty cs.toList d hc.range hu hd (by simpa using hi)
 rw [Array.getD_eq_getD_getElem?] at hx hb hv
 simp only [Array.toArray_toList] at this
 simp [results, h, hx, asAddr, this, hb, hv]
set_option maxRecDepth 100000 in
set_option maxHeartbeats 2000000 in
theorem rtk_any (s : ByteArray) (hs : s.size ≤ 200000) (w : World) : Calls Tryz.prog 70 #[.string s] w (TakeR (rtakeF s) w) := by
 obtain ⟨F, hF⟩ : ∃ F, F = rtakeF s := ⟨_, rfl⟩
 rw [← hF]
 unfold rtakeF at hF
 have hsl := size_list s
 have hfit0 := term_fit 2001 ⟨s.data.toList, 2000, false⟩ rfl (by show (0 : Int) ≤ 2000; omega) (by show (2000 : Int) < 2001; omega) (by rw [← hsl]; exact hs)
 have X_0 := Lib.hid ((Blk.new w 24 #[.int .i64 0, .int .i64 0, .int .i64 0, .string ⟨#[]⟩, .string ⟨#[]⟩, .int .i64 0, .slice none 0 0, .string ⟨#[]⟩, .int .i64 0]).alloc (.cells #[.string s, .int .i64 0, .int .i64 2000, .bool false] 154))
 have rb0 := Blk.new (w.alloc (.cells #[.int .i64 0, .int .i64 0, .int .i64 0, .string ⟨#[]⟩, .string ⟨#[]⟩, .int .i64 0, .slice none 0 0, .string ⟨#[]⟩, .int .i64 0] 24)) 154 #[.string s, .int .i64 0, .int .i64 2000, .bool false]
 have B_0 := Lib.hid (((Below.refl w.heap.size w).alloc (Nat.le_refl _) (.cells #[.int .i64 0, .int .i64 0, .int .i64 0, .string ⟨#[]⟩, .string ⟨#[]⟩, .int .i64 0, .slice none 0 0, .string ⟨#[]⟩, .int .i64 0] 24)).alloc (by simp) (.cells #[.string s, .int .i64 0, .int .i64 2000, .bool false] 154))
 simp only [World.size_alloc] at rb0
 have R_0 : Hid (RS s (w.heap.size + 1) ⟨s.data.toList, 2000, false⟩ ((w.alloc (.cells #[.int .i64 0, .int .i64 0, .int .i64 0, .string ⟨#[]⟩, .string ⟨#[]⟩, .int .i64 0, .slice none 0 0, .string ⟨#[]⟩, .int .i64 0] 24)).alloc (.cells #[.string s, .int .i64 0, .int .i64 2000, .bool false] 154))) := Lib.hid ⟨0, by show 0 + s.data.toList.length = s.size; rw [← hsl]; omega, by show s.data.toList.drop 0 = _; rfl, rb0⟩
 clear rb0
 go_enter Tryz.func70, Tryz.ntmps70
 go_upto_region 2 with fail
 have HC := rrterm_any hs 2001 ⟨s.data.toList, 2000, false⟩ _ R_0.out rfl (by show (0 : Int) ≤ 2000; omega) (by show (2000 : Int) < 2001; omega) (by show (2000 : Int) ≤ 2000; omega)
 obtain ⟨q, hq⟩ : ∃ q, q = termS 2001 ⟨s.data.toList, 2000, false⟩ := ⟨_, rfl⟩
 rw [← hq] at HC hF hfit0
 clear hq
 obtain ⟨t, st⟩ := q
 obtain ⟨r, left, bad⟩ := st
 dsimp only at hF hfit0
 have HF := Lib.hid hF
 obtain ⟨hfit, _, hcnt, _⟩ := hfit0
 have HC' := Lib.hid HC
 clear HC
 have HFIT := Lib.hid hfit
 have HCNT := Lib.hid hcnt
 clear hF hfit hcnt hsl
 go_wp2_with fail
 generalize (w.alloc (.cells #[.int .i64 0, .int .i64 0, .int .i64 0, .string ⟨#[]⟩, .string ⟨#[]⟩, .int .i64 0, .slice none 0 0, .string ⟨#[]⟩, .int .i64 0] 24)).alloc (.cells #[.string s, .int .i64 0, .int .i64 2000, .bool false] 154) = v0 at X_0 B_0 R_0 HC' ⊢
 refine HC'.out.mono ?_
 rintro e v1 ⟨ox, x, rfl, tx, rx, hl1, hl2, hl3⟩
 dsimp only at tx rx hl2 hl1
 have HLB : Hid (bulk t ≤ 4611686018427387904) := Lib.hid (by have h1 := bulk_cnt t; have h2 := HCNT.out; omega)
 obtain ⟨_, sx, cx, vx⟩ := tx.its.2.form
 obtain ⟨xf, xv⟩ := x
 dsimp only at vx
 subst vx
 obtain ⟨li, hli⟩ : ∃ l, l = t.l.length := ⟨_, rfl⟩
 rw [← hli] at tx ⊢
 have hx0 := X_0.out.lt
 have X_1 := Lib.hid ((X_0.out.only ox (by simp)).alloc (.cells #[.int .i64 xf.k, .int .i64 xf.n, .int .i64 xf.g, .string xf.nm, .string xf.fn, .int .i64 xf.ar, .slice sx li cx, .string xf.bs, .int .i64 xf.bt] 24))
 have B_1 := Lib.hid ((B_0.out.trans (ox.below (by simp) B_0.out.size)).alloc (by have := B_0.out.size; have := ox.size; omega) (.cells #[.int .i64 xf.k, .int .i64 xf.n, .int .i64 xf.g, .string xf.nm, .string xf.fn, .int .i64 xf.ar, .slice sx li cx, .string xf.bs, .int .i64 xf.bt] 24))
 have T_1 := Lib.hid (Blk.new v1 24 #[.int .i64 xf.k, .int .i64 xf.n, .int .i64 xf.g, .string xf.nm, .string xf.fn, .int .i64 xf.ar, .slice sx li cx, .string xf.bs, .int .i64 xf.bt])
 have TX_1 := Lib.hid ((tx.below ((Below.refl v1.heap.size v1).alloc (Nat.le_refl _) (.cells #[.int .i64 xf.k, .int .i64 xf.n, .int .i64 xf.g, .string xf.nm, .string xf.fn, .int .i64 xf.ar, .slice sx li cx, .string xf.bs, .int .i64 xf.bt] 24)) (fun _ _ h => h)).mono (S' := fun c => w.heap.size + 1 ≤ c) (fun b hb _ => by have := R_0.out.lt; omega))
 have HG : Hid (w.heap.size + 1 < v1.heap.size) := Lib.hid rx.lt
 obtain ⟨at', h1, h2, h3⟩ := rx.below ((Below.refl v1.heap.size v1).alloc (Nat.le_refl _) (.cells #[.int .i64 xf.k, .int .i64 xf.n, .int .i64 xf.g, .string xf.nm, .string xf.fn, .int .i64 xf.ar, .slice sx li cx, .string xf.bs, .int .i64 xf.bt] 24))
 dsimp only at h1 h2 h3
 have HA1 := Lib.hid h1
 have HA2 := Lib.hid h2
 have RB_1 := Lib.hid h3
 clear ox tx rx hli hl1 hl2 hl3 HC' HCNT X_0 B_0 R_0 h1 h2 h3 hx0
 unfold ftV
 dsimp only
 go_upto_region 3 with fail
 generalize v1.alloc (.cells #[.int .i64 xf.k, .int .i64 xf.n, .int .i64 xf.g, .string xf.nm, .string xf.fn, .int .i64 xf.ar, .slice sx li cx, .string xf.bs, .int .i64 xf.bt] 24) = v2 at X_1 B_1 T_1 TX_1 RB_1 ⊢
 generalize v1.heap.size = g6 at T_1 HG ⊢
 cases bad with
 | true =>
  obtain rfl : F = (zeroT, 0, 6) := by rw [HF.out, if_pos (.inl rfl)]
  clear HF
  have HS0 : Hid (∀ W, Blk W g6 24 #[.int .i64 xf.k, .int .i64 xf.n, .int .i64 xf.g, .string xf.nm, .string xf.fn, .int .i64 xf.ar, .slice sx li cx, .string xf.bs, .int .i64 xf.bt] → Blk W (w.heap.size + 1) 154 #[.string s, .int .i64 (at' : Int), .int .i64 left, .bool true] → (W.cell? ⟨g6, 0, none⟩ = some (.int .i64 xf.k) ∧ W.cell? ⟨g6, 1, none⟩ = some (.int .i64 xf.n) ∧ W.cell? ⟨g6, 2, none⟩ = some (.int .i64 xf.g) ∧ W.cell? ⟨g6, 3, none⟩ = some (.string xf.nm) ∧ W.cell? ⟨g6, 4, none⟩ = some (.string xf.fn) ∧ W.cell? ⟨g6, 5, none⟩ = some (.int .i64 xf.ar) ∧ W.cell? ⟨g6, 6, none⟩ = some (.slice sx li cx) ∧ W.cell? ⟨g6, 7, none⟩ = some (.string xf.bs) ∧ W.cell? ⟨g6, 8, none⟩ = some (.int .i64 xf.bt) ∧ W.cell? ⟨w.heap.size + 1, 1, none⟩ = some (.int .i64 (at' : Int)) ∧ W.cell? ⟨w.heap.size + 1, 3, none⟩ = some (.bool true))) := Lib.hid (fun W h g => ⟨h.cell 0, h.cell 1, h.cell 2, h.cell 3, h.cell 4, h.cell 5, h.cell 6, h.cell 7, h.cell 8, g.cell 1, g.cell 3⟩)
  refine wp_region_held_drew (S := (fun w' => w'.cell? ⟨g6, 0, none⟩ = some (.int .i64 xf.k) ∧ w'.cell? ⟨g6, 1, none⟩ = some (.int .i64 xf.n) ∧ w'.cell? ⟨g6, 2, none⟩ = some (.int .i64 xf.g) ∧ w'.cell? ⟨g6, 3, none⟩ = some (.string xf.nm) ∧ w'.cell? ⟨g6, 4, none⟩ = some (.string xf.fn) ∧ w'.cell? ⟨g6, 5, none⟩ = some (.int .i64 xf.ar) ∧ w'.cell? ⟨g6, 6, none⟩ = some (.slice sx li cx) ∧ w'.cell? ⟨g6, 7, none⟩ = some (.string xf.bs) ∧ w'.cell? ⟨g6, 8, none⟩ = some (.int .i64 xf.bt) ∧ w'.cell? ⟨w.heap.size + 1, 1, none⟩ = some (.int .i64 (at' : Int)) ∧ w'.cell? ⟨w.heap.size + 1, 3, none⟩ = some (.bool true))) (by kernel_rfl) (HS0.out _ T_1.out.drew RB_1.out.drew) (fun hS => ?_)
  have X_2 := Lib.hid X_1.out.drew
  have B_2 := Lib.hid (B_1.out.trans (show Below w.heap.size v2 v2.drew from (Below.refl _ _).drew))
  have T_2 := Lib.hid T_1.out.drew
  have RB_2 := Lib.hid RB_1.out.drew
  have TX_2 := Lib.hid (TX_1.out.below (show Below v2.heap.size v2 v2.drew from (Below.refl _ _).drew) (fun _ _ h => h))
  clear X_1 B_1 T_1 RB_1 TX_1
  generalize v2.drew = w2 at *
  refine wpAnyH_take (i := 0) (v := ?_) rfl (by kernel_rfl) (by kernel_rfl) (by kernel_rfl) (fun _ _ _ h => h) (Or.inl ⟨by rfl, ?_⟩) (by assumption) ?_
  rotate_left
  ·
   intro w hSw
   go_simp
   with_reducible rfl
  change wpAnyH _ _ _ _ _ _ _ (Act.put _ (some 12) _) _
  simp only [Act.put, List.setIfInBounds_toArray, List.set_cons_zero, List.set_cons_succ]
  refine wpAnyH_take (i := 1) (v := ?_) rfl (by kernel_rfl) (by kernel_rfl) (by kernel_rfl) (fun _ _ _ h => h) (Or.inl ⟨by rfl, ?_⟩) (by assumption) ?_
  rotate_left
  ·
   intro w hSw
   go_simp
   with_reducible rfl
  change wpAnyH _ _ _ _ _ _ _ (Act.put _ (some 13) _) _
  simp only [Act.put, List.setIfInBounds_toArray, List.set_cons_zero, List.set_cons_succ]
  refine wpAnyH_take (i := 2) (v := ?_) rfl (by kernel_rfl) (by kernel_rfl) (by kernel_rfl) (fun _ _ _ h => h) (Or.inl ⟨by rfl, ?_⟩) (by assumption) ?_
  rotate_left
  ·
   intro w hSw
   go_simp
   with_reducible rfl
  change wpAnyH _ _ _ _ _ _ _ (Act.put _ (some 14) _) _
  simp only [Act.put, List.setIfInBounds_toArray, List.set_cons_zero, List.set_cons_succ]
  refine wpAnyH_take (i := 3) (v := ?_) rfl (by kernel_rfl) (by kernel_rfl) (by kernel_rfl) (fun _ _ _ h => h) (Or.inl ⟨by rfl, ?_⟩) (by assumption) ?_
  rotate_left
  ·
   intro w hSw
   go_simp
   with_reducible rfl
  change wpAnyH _ _ _ _ _ _ _ (Act.put _ (some 15) _) _
  simp only [Act.put, List.setIfInBounds_toArray, List.set_cons_zero, List.set_cons_succ]
  refine wpAnyH_take (i := 4) (v := ?_) rfl (by kernel_rfl) (by kernel_rfl) (by kernel_rfl) (fun _ _ _ h => h) (Or.inl ⟨by rfl, ?_⟩) (by assumption) ?_
  rotate_left
  ·
   intro w hSw
   go_simp
   with_reducible rfl
  change wpAnyH _ _ _ _ _ _ _ (Act.put _ (some 16) _) _
  simp only [Act.put, List.setIfInBounds_toArray, List.set_cons_zero, List.set_cons_succ]
  refine wpAnyH_take (i := 5) (v := undef) rfl (by kernel_rfl) (by kernel_rfl) (by kernel_rfl) (fun _ _ _ h => h) (Or.inr ⟨by rfl, rfl⟩) (by assumption) ?_
  change wpAnyH _ _ _ _ _ _ _ (Act.put _ (some 17) _) _
  simp only [Act.put, List.setIfInBounds_toArray, List.set_cons_zero, List.set_cons_succ]
  refine wpAnyH_take (i := 6) (v := undef) rfl (by kernel_rfl) (by kernel_rfl) (by kernel_rfl) (fun _ _ _ h => h) (Or.inr ⟨by rfl, rfl⟩) (by assumption) ?_
  change wpAnyH _ _ _ _ _ _ _ (Act.put _ (some 18) _) _
  simp only [Act.put, List.setIfInBounds_toArray, List.set_cons_zero, List.set_cons_succ]
  refine wpAnyH_take (i := 7) (v := undef) rfl (by kernel_rfl) (by kernel_rfl) (by kernel_rfl) (fun _ _ _ h => h) (Or.inr ⟨by rfl, rfl⟩) (by assumption) ?_
  change wpAnyH _ _ _ _ _ _ _ (Act.put _ (some 19) _) _
  simp only [Act.put, List.setIfInBounds_toArray, List.set_cons_zero, List.set_cons_succ]
  refine wpAnyH_take (i := 8) (v := ?_) rfl (by kernel_rfl) (by kernel_rfl) (by kernel_rfl) (fun _ _ _ h => h) (Or.inl ⟨by rfl, ?_⟩) (by assumption) ?_
  rotate_left
  ·
   intro w hSw
   go_simp
   with_reducible rfl
  change wpAnyH _ _ _ _ _ _ _ (Act.put _ (some 20) _) _
  simp only [Act.put, List.setIfInBounds_toArray, List.set_cons_zero, List.set_cons_succ]
  refine wpAnyH_take (i := 9) (v := ?_) rfl (by kernel_rfl) (by kernel_rfl) (by kernel_rfl) (fun _ _ _ h => h) (Or.inl ⟨by rfl, ?_⟩) (by assumption) ?_
  rotate_left
  ·
   intro w hSw
   go_simp
   with_reducible rfl
  change wpAnyH _ _ _ _ _ _ _ (Act.put _ (some 21) _) _
  simp only [Act.put, List.setIfInBounds_toArray, List.set_cons_zero, List.set_cons_succ]
  refine wpAnyH_take (i := 10) (v := undef) rfl (by kernel_rfl) (by kernel_rfl) (by kernel_rfl) (fun _ _ _ h => h) (Or.inr ⟨by rfl, rfl⟩) (by assumption) ?_
  change wpAnyH _ _ _ _ _ _ _ (Act.put _ (some 22) _) _
  simp only [Act.put, List.setIfInBounds_toArray, List.set_cons_zero, List.set_cons_succ]
  refine wpAnyH_take (i := 11) (v := undef) rfl (by kernel_rfl) (by kernel_rfl) (by kernel_rfl) (fun _ _ _ h => h) (Or.inr ⟨by rfl, rfl⟩) (by assumption) ?_
  change wpAnyH _ _ _ _ _ _ _ (Act.put _ (some 23) _) _
  simp only [Act.put, List.setIfInBounds_toArray, List.set_cons_zero, List.set_cons_succ]
  refine wpAnyH_take (i := 12) (v := undef) rfl (by kernel_rfl) (by kernel_rfl) (by kernel_rfl) (fun _ _ _ h => h) (Or.inr ⟨by rfl, rfl⟩) (by assumption) ?_
  change wpAnyH _ _ _ _ _ _ _ (Act.put _ (some 24) _) _
  simp only [Act.put, List.setIfInBounds_toArray, List.set_cons_zero, List.set_cons_succ]
  refine wpAnyH_take (i := 13) (v := undef) rfl (by kernel_rfl) (by kernel_rfl) (by kernel_rfl) (fun _ _ _ h => h) (Or.inr ⟨by rfl, rfl⟩) (by assumption) ?_
  change wpAnyH _ _ _ _ _ _ _ (Act.put _ (some 25) _) _
  simp only [Act.put, List.setIfInBounds_toArray, List.set_cons_zero, List.set_cons_succ]
  refine wpAnyH_take (i := 14) (v := undef) rfl (by kernel_rfl) (by kernel_rfl) (by kernel_rfl) (fun _ _ _ h => h) (Or.inr ⟨by rfl, rfl⟩) (by assumption) ?_
  change wpAnyH _ _ _ _ _ _ _ (Act.put _ (some 26) _) _
  simp only [Act.put, List.setIfInBounds_toArray, List.set_cons_zero, List.set_cons_succ]
  refine wpAnyH_take (i := 15) (v := undef) rfl (by kernel_rfl) (by kernel_rfl) (by kernel_rfl) (fun _ _ _ h => h) (Or.inr ⟨by rfl, rfl⟩) (by assumption) ?_
  change wpAnyH _ _ _ _ _ _ _ (Act.put _ (some 27) _) _
  simp only [Act.put, List.setIfInBounds_toArray, List.set_cons_zero, List.set_cons_succ]
  refine wpAnyH_take (i := 16) (v := undef) rfl (by kernel_rfl) (by kernel_rfl) (by kernel_rfl) (fun _ _ _ h => h) (Or.inr ⟨by rfl, rfl⟩) (by assumption) ?_
  change wpAnyH _ _ _ _ _ _ _ (Act.put _ (some 28) _) _
  simp only [Act.put, List.setIfInBounds_toArray, List.set_cons_zero, List.set_cons_succ]
  refine wpAnyH_take (i := 17) (v := undef) rfl (by kernel_rfl) (by kernel_rfl) (by kernel_rfl) (fun _ _ _ h => h) (Or.inr ⟨by rfl, rfl⟩) (by assumption) ?_
  change wpAnyH _ _ _ _ _ _ _ (Act.put _ (some 29) _) _
  simp only [Act.put, List.setIfInBounds_toArray, List.set_cons_zero, List.set_cons_succ]
  refine wpAnyH_take (i := 18) (v := undef) rfl (by kernel_rfl) (by kernel_rfl) (by kernel_rfl) (fun _ _ _ h => h) (Or.inr ⟨by rfl, rfl⟩) (by assumption) ?_
  change wpAnyH _ _ _ _ _ _ _ (Act.put _ (some 30) _) _
  simp only [Act.put, List.setIfInBounds_toArray, List.set_cons_zero, List.set_cons_succ]
  refine wpAnyH_take (i := 19) (v := undef) rfl (by kernel_rfl) (by kernel_rfl) (by kernel_rfl) (fun _ _ _ h => h) (Or.inr ⟨by rfl, rfl⟩) (by assumption) ?_
  change wpAnyH _ _ _ _ _ _ _ (Act.put _ (some 31) _) _
  simp only [Act.put, List.setIfInBounds_toArray, List.set_cons_zero, List.set_cons_succ]
  refine wpAnyH_take (i := 20) (v := ?_) rfl (by kernel_rfl) (by kernel_rfl) (by kernel_rfl) (fun _ _ _ h => h) (Or.inl ⟨by rfl, ?_⟩) (by assumption) ?_
  rotate_left
  ·
   intro w hSw
   go_simp
   with_reducible rfl
  change wpAnyH _ _ _ _ _ _ _ (Act.put _ (some 32) _) _
  simp only [Act.put, List.setIfInBounds_toArray, List.set_cons_zero, List.set_cons_succ]
  refine wpAnyH_done (by kernel_rfl) ?_ _
  go_wp2_with (refine wpList_store_blk rfl 24 _ _ rfl rfl w.heap.size zeroC _ 24 rfl rfl X_2.out rfl info25 (by simp [zeroC, Value.oneCell']) ?_; intro vF bF oF)
  exact bodyPost_ret (results_ctt (a := 2) (b := 3) (c := 4) rfl _ _ w.heap.size _ _ (.int .i64 0) (.int .i64 6) rfl rfl rfl bF Tryz.underlying24 rfl info25) rfl (takeR_zero (B_2.out.trans (oF.below (by simp) B_2.out.size)))
 | false =>
  obtain ⟨V, hv⟩ : ∃ V, V = validB t := ⟨_, rfl⟩
  rw [← hv] at HF
  have HV := Lib.hid hv.symm
  have HS0 : Hid (∀ W, Blk W g6 24 #[.int .i64 xf.k, .int .i64 xf.n, .int .i64 xf.g, .string xf.nm, .string xf.fn, .int .i64 xf.ar, .slice sx li cx, .string xf.bs, .int .i64 xf.bt] → Blk W (w.heap.size + 1) 154 #[.string s, .int .i64 (at' : Int), .int .i64 left, .bool false] → (W.cell? ⟨g6, 0, none⟩ = some (.int .i64 xf.k) ∧ W.cell? ⟨g6, 1, none⟩ = some (.int .i64 xf.n) ∧ W.cell? ⟨g6, 2, none⟩ = some (.int .i64 xf.g) ∧ W.cell? ⟨g6, 3, none⟩ = some (.string xf.nm) ∧ W.cell? ⟨g6, 4, none⟩ = some (.string xf.fn) ∧ W.cell? ⟨g6, 5, none⟩ = some (.int .i64 xf.ar) ∧ W.cell? ⟨g6, 6, none⟩ = some (.slice sx li cx) ∧ W.cell? ⟨g6, 7, none⟩ = some (.string xf.bs) ∧ W.cell? ⟨g6, 8, none⟩ = some (.int .i64 xf.bt) ∧ W.cell? ⟨w.heap.size + 1, 1, none⟩ = some (.int .i64 (at' : Int)) ∧ W.cell? ⟨w.heap.size + 1, 3, none⟩ = some (.bool false))) := Lib.hid (fun W h g => ⟨h.cell 0, h.cell 1, h.cell 2, h.cell 3, h.cell 4, h.cell 5, h.cell 6, h.cell 7, h.cell 8, g.cell 1, g.cell 3⟩)
  refine wp_region_held_drew (S := (fun w' => w'.cell? ⟨g6, 0, none⟩ = some (.int .i64 xf.k) ∧ w'.cell? ⟨g6, 1, none⟩ = some (.int .i64 xf.n) ∧ w'.cell? ⟨g6, 2, none⟩ = some (.int .i64 xf.g) ∧ w'.cell? ⟨g6, 3, none⟩ = some (.string xf.nm) ∧ w'.cell? ⟨g6, 4, none⟩ = some (.string xf.fn) ∧ w'.cell? ⟨g6, 5, none⟩ = some (.int .i64 xf.ar) ∧ w'.cell? ⟨g6, 6, none⟩ = some (.slice sx li cx) ∧ w'.cell? ⟨g6, 7, none⟩ = some (.string xf.bs) ∧ w'.cell? ⟨g6, 8, none⟩ = some (.int .i64 xf.bt) ∧ w'.cell? ⟨w.heap.size + 1, 1, none⟩ = some (.int .i64 (at' : Int)) ∧ w'.cell? ⟨w.heap.size + 1, 3, none⟩ = some (.bool false))) (by kernel_rfl) (HS0.out _ T_1.out.drew RB_1.out.drew) (fun hS => ?_)
  have X_2 := Lib.hid X_1.out.drew
  have B_2 := Lib.hid (B_1.out.trans (show Below w.heap.size v2 v2.drew from (Below.refl _ _).drew))
  have T_2 := Lib.hid T_1.out.drew
  have RB_2 := Lib.hid RB_1.out.drew
  have TX_2 := Lib.hid (TX_1.out.below (show Below v2.heap.size v2 v2.drew from (Below.refl _ _).drew) (fun _ _ h => h))
  clear X_1 B_1 T_1 RB_1 TX_1
  generalize v2.drew = w2 at *
  refine wpAnyH_take (i := 0) (v := ?_) rfl (by kernel_rfl) (by kernel_rfl) (by kernel_rfl) (fun _ _ _ h => h) (Or.inl ⟨by rfl, ?_⟩) (by assumption) ?_
  rotate_left
  ·
   intro w hSw
   go_simp
   with_reducible rfl
  change wpAnyH _ _ _ _ _ _ _ (Act.put _ (some 12) _) _
  simp only [Act.put, List.setIfInBounds_toArray, List.set_cons_zero, List.set_cons_succ]
  refine wpAnyH_take (i := 1) (v := ?_) rfl (by kernel_rfl) (by kernel_rfl) (by kernel_rfl) (fun _ _ _ h => h) (Or.inl ⟨by rfl, ?_⟩) (by assumption) ?_
  rotate_left
  ·
   intro w hSw
   go_simp
   with_reducible rfl
  change wpAnyH _ _ _ _ _ _ _ (Act.put _ (some 13) _) _
  simp only [Act.put, List.setIfInBounds_toArray, List.set_cons_zero, List.set_cons_succ]
  refine wpAnyH_take (i := 2) (v := ?_) rfl (by kernel_rfl) (by kernel_rfl) (by kernel_rfl) (fun _ _ _ h => h) (Or.inl ⟨by rfl, ?_⟩) (by assumption) ?_
  rotate_left
  ·
   intro w hSw
   go_simp
   with_reducible rfl
  change wpAnyH _ _ _ _ _ _ _ (Act.put _ (some 14) _) _
  simp only [Act.put, List.setIfInBounds_toArray, List.set_cons_zero, List.set_cons_succ]
  refine wpAnyH_take (i := 3) (v := ?_) rfl (by kernel_rfl) (by kernel_rfl) (by kernel_rfl) (fun _ _ _ h => h) (Or.inl ⟨by rfl, ?_⟩) (by assumption) ?_
  rotate_left
  ·
   intro w hSw
   go_simp
   with_reducible rfl
  change wpAnyH _ _ _ _ _ _ _ (Act.put _ (some 15) _) _
  simp only [Act.put, List.setIfInBounds_toArray, List.set_cons_zero, List.set_cons_succ]
  refine wpAnyH_take (i := 4) (v := ?_) rfl (by kernel_rfl) (by kernel_rfl) (by kernel_rfl) (fun _ _ _ h => h) (Or.inl ⟨by rfl, ?_⟩) (by assumption) ?_
  rotate_left
  ·
   intro w hSw
   go_simp
   with_reducible rfl
  change wpAnyH _ _ _ _ _ _ _ (Act.put _ (some 16) _) _
  simp only [Act.put, List.setIfInBounds_toArray, List.set_cons_zero, List.set_cons_succ]
  refine wpAnyH_take (i := 5) (v := ?_) rfl (by kernel_rfl) (by kernel_rfl) (by kernel_rfl) (fun _ _ _ h => h) (Or.inl ⟨by rfl, ?_⟩) (by assumption) ?_
  rotate_left
  ·
   intro w hSw
   go_simp
   with_reducible rfl
  change wpAnyH _ _ _ _ _ _ _ (Act.put _ (some 17) _) _
  simp only [Act.put, List.setIfInBounds_toArray, List.set_cons_zero, List.set_cons_succ]
  have CV := rvalid_any _ t ⟨xf, .slice sx li cx⟩ w2 TX_2.out HFIT.out HLB.out
  rw [← hv] at CV
  unfold ftV at CV
  try dsimp only at CV
  have CV := Lib.hid CV
  clear hv
  refine wpAnyH_ready (rs := [6]) (by kernel_rfl) (by simp) ?_
  refine AllReadyH.cons rfl (fun K hK => ?_) AllReadyH.nil
  go_simp
  refine CV.out.mono ?_
  rintro e v3 ⟨rfl, b3⟩
  have X_3 := Lib.hid (X_2.out.below b3 X_2.out.lt)
  have T_3 := Lib.hid (T_2.out.below b3 T_2.out.lt)
  have RB_3 := Lib.hid (RB_2.out.below b3 RB_2.out.lt)
  have TX_3 := Lib.hid (TX_2.out.below b3 (fun _ _ h => h))
  have B_3 := Lib.hid (B_2.out.trans (b3.mono B_2.out.size))
  clear X_2 T_2 RB_2 TX_2 B_2
  clear b3 CV
  go_wp2_with fail
  refine hK.out _ _ (HS0.out _ T_3.out RB_3.out) (fun hS => ?_)
  clear hK K
  try simp only [Act.put, List.setIfInBounds_toArray, List.set_cons_zero, List.set_cons_succ]
  cases V with
  | false =>
   obtain rfl : F = (zeroT, 0, 6) := by rw [HF.out, if_pos (.inr (.inl rfl))]
   clear HF HV
   refine wpAnyH_take (i := 7) (v := ?_) rfl (by kernel_rfl) (by kernel_rfl) (by kernel_rfl) (fun _ _ _ h => h) (Or.inl ⟨by rfl, ?_⟩) (by assumption) ?_
   rotate_left
   ·
    intro w hSw
    go_simp
    with_reducible rfl
   change wpAnyH _ _ _ _ _ _ _ (Act.put _ (some 19) _) _
   simp only [Act.put, List.setIfInBounds_toArray, List.set_cons_zero, List.set_cons_succ]
   refine wpAnyH_take (i := 8) (v := ?_) rfl (by kernel_rfl) (by kernel_rfl) (by kernel_rfl) (fun _ _ _ h => h) (Or.inl ⟨by rfl, ?_⟩) (by assumption) ?_
   rotate_left
   ·
    intro w hSw
    go_simp
    with_reducible rfl
   change wpAnyH _ _ _ _ _ _ _ (Act.put _ (some 20) _) _
   simp only [Act.put, List.setIfInBounds_toArray, List.set_cons_zero, List.set_cons_succ]
   refine wpAnyH_take (i := 9) (v := ?_) rfl (by kernel_rfl) (by kernel_rfl) (by kernel_rfl) (fun _ _ _ h => h) (Or.inl ⟨by rfl, ?_⟩) (by assumption) ?_
   rotate_left
   ·
    intro w hSw
    go_simp
    with_reducible rfl
   change wpAnyH _ _ _ _ _ _ _ (Act.put _ (some 21) _) _
   simp only [Act.put, List.setIfInBounds_toArray, List.set_cons_zero, List.set_cons_succ]
   refine wpAnyH_take (i := 10) (v := undef) rfl (by kernel_rfl) (by kernel_rfl) (by kernel_rfl) (fun _ _ _ h => h) (Or.inr ⟨by rfl, rfl⟩) (by assumption) ?_
   change wpAnyH _ _ _ _ _ _ _ (Act.put _ (some 22) _) _
   simp only [Act.put, List.setIfInBounds_toArray, List.set_cons_zero, List.set_cons_succ]
   refine wpAnyH_take (i := 11) (v := undef) rfl (by kernel_rfl) (by kernel_rfl) (by kernel_rfl) (fun _ _ _ h => h) (Or.inr ⟨by rfl, rfl⟩) (by assumption) ?_
   change wpAnyH _ _ _ _ _ _ _ (Act.put _ (some 23) _) _
   simp only [Act.put, List.setIfInBounds_toArray, List.set_cons_zero, List.set_cons_succ]
   refine wpAnyH_take (i := 12) (v := undef) rfl (by kernel_rfl) (by kernel_rfl) (by kernel_rfl) (fun _ _ _ h => h) (Or.inr ⟨by rfl, rfl⟩) (by assumption) ?_
   change wpAnyH _ _ _ _ _ _ _ (Act.put _ (some 24) _) _
   simp only [Act.put, List.setIfInBounds_toArray, List.set_cons_zero, List.set_cons_succ]
   refine wpAnyH_take (i := 13) (v := undef) rfl (by kernel_rfl) (by kernel_rfl) (by kernel_rfl) (fun _ _ _ h => h) (Or.inr ⟨by rfl, rfl⟩) (by assumption) ?_
   change wpAnyH _ _ _ _ _ _ _ (Act.put _ (some 25) _) _
   simp only [Act.put, List.setIfInBounds_toArray, List.set_cons_zero, List.set_cons_succ]
   refine wpAnyH_take (i := 14) (v := undef) rfl (by kernel_rfl) (by kernel_rfl) (by kernel_rfl) (fun _ _ _ h => h) (Or.inr ⟨by rfl, rfl⟩) (by assumption) ?_
   change wpAnyH _ _ _ _ _ _ _ (Act.put _ (some 26) _) _
   simp only [Act.put, List.setIfInBounds_toArray, List.set_cons_zero, List.set_cons_succ]
   refine wpAnyH_take (i := 15) (v := undef) rfl (by kernel_rfl) (by kernel_rfl) (by kernel_rfl) (fun _ _ _ h => h) (Or.inr ⟨by rfl, rfl⟩) (by assumption) ?_
   change wpAnyH _ _ _ _ _ _ _ (Act.put _ (some 27) _) _
   simp only [Act.put, List.setIfInBounds_toArray, List.set_cons_zero, List.set_cons_succ]
   refine wpAnyH_take (i := 16) (v := undef) rfl (by kernel_rfl) (by kernel_rfl) (by kernel_rfl) (fun _ _ _ h => h) (Or.inr ⟨by rfl, rfl⟩) (by assumption) ?_
   change wpAnyH _ _ _ _ _ _ _ (Act.put _ (some 28) _) _
   simp only [Act.put, List.setIfInBounds_toArray, List.set_cons_zero, List.set_cons_succ]
   refine wpAnyH_take (i := 17) (v := undef) rfl (by kernel_rfl) (by kernel_rfl) (by kernel_rfl) (fun _ _ _ h => h) (Or.inr ⟨by rfl, rfl⟩) (by assumption) ?_
   change wpAnyH _ _ _ _ _ _ _ (Act.put _ (some 29) _) _
   simp only [Act.put, List.setIfInBounds_toArray, List.set_cons_zero, List.set_cons_succ]
   refine wpAnyH_take (i := 18) (v := undef) rfl (by kernel_rfl) (by kernel_rfl) (by kernel_rfl) (fun _ _ _ h => h) (Or.inr ⟨by rfl, rfl⟩) (by assumption) ?_
   change wpAnyH _ _ _ _ _ _ _ (Act.put _ (some 30) _) _
   simp only [Act.put, List.setIfInBounds_toArray, List.set_cons_zero, List.set_cons_succ]
   refine wpAnyH_take (i := 19) (v := undef) rfl (by kernel_rfl) (by kernel_rfl) (by kernel_rfl) (fun _ _ _ h => h) (Or.inr ⟨by rfl, rfl⟩) (by assumption) ?_
   change wpAnyH _ _ _ _ _ _ _ (Act.put _ (some 31) _) _
   simp only [Act.put, List.setIfInBounds_toArray, List.set_cons_zero, List.set_cons_succ]
   refine wpAnyH_take (i := 20) (v := ?_) rfl (by kernel_rfl) (by kernel_rfl) (by kernel_rfl) (fun _ _ _ h => h) (Or.inl ⟨by rfl, ?_⟩) (by assumption) ?_
   rotate_left
   ·
    intro w hSw
    go_simp
    with_reducible rfl
   change wpAnyH _ _ _ _ _ _ _ (Act.put _ (some 32) _) _
   simp only [Act.put, List.setIfInBounds_toArray, List.set_cons_zero, List.set_cons_succ]
   refine wpAnyH_done (by kernel_rfl) ?_ _
   go_wp2_with (refine wpList_store_blk rfl 24 _ _ rfl rfl w.heap.size zeroC _ 24 rfl rfl X_3.out rfl info25 (by simp [zeroC, Value.oneCell']) ?_; intro vF bF oF)
   exact bodyPost_ret (results_ctt (a := 2) (b := 3) (c := 4) rfl _ _ w.heap.size _ _ (.int .i64 0) (.int .i64 6) rfl rfl rfl bF Tryz.underlying24 rfl info25) rfl (takeR_zero (B_3.out.trans (oF.below (by simp) B_3.out.size)))
  | true =>
   have hv := HV.out
   have hcl : (codeT t).length ≤ 1000000 := by have := putS_short hv HFIT.out; omega
   have CC := Lib.hid (rcode_any t HFIT.out (validB_iff hv).1 hcl _ ⟨xf, .slice sx li cx⟩ v3 (fun b hb => hb) TX_3.out.old)
   have hat : s.size - r.length = at' := by have := HA1.out; omega
   rw [hat] at HF
   obtain ⟨D, hD⟩ : ∃ D, D = (⟨(codeT t).toArray⟩ : ByteArray) := ⟨_, rfl⟩
   have hle : at' ≤ s.size := by have := HA1.out; omega
   have hDA : (D.toList != (s.extract 0 at').toList) = decide (codeT t ≠ s.data.toList.take at') := by
    have e1 : (s.extract 0 at').data.toList = s.data.toList.take at' := by rw [ByteArray.data_extract, Array.toList_extract]; simp [List.extract]
    have e2 : D.data.toList = codeT t := by rw [hD]
    by_cases h : D = s.extract 0 at'
    ·
     rw [decide_eq_false (by simp only [ne_eq, Classical.not_not]; rw [← e1, ← e2, h]), h]
     exact bne_self_eq_false _
    ·
     rw [decide_eq_true (by intro q; exact h (bytes_list (by rw [e1, e2]; exact q))), bne_iff_ne]
     exact fun e => h (bytes_ext e)
   have hsl : ∀ W, (Instr.slice 9 (.string s) none (some (.int .i64 (at' : Int))) none).run Tryz.prog W = .ok (.string (s.extract 0 at')) W := fun W => by rw [run_slice_string_to_if W 9 s .i64 at' Tryz.underlying9, if_pos (by omega)]; rfl
   have HD := Lib.hid hD
   unfold ftV at CC
   try dsimp only at CC
   have HF2 : Hid (F = if codeT t ≠ s.data.toList.take at' then (zeroT, 0, 6) else (t, at', 0)) := Lib.hid (by
    rw [HF.out]
    by_cases h : codeT t ≠ s.data.toList.take at'
    ·
     rw [if_pos (.inr (.inr h)), if_pos h]
    ·
     rw [if_neg (by simp only [Bool.false_eq_true, Bool.true_eq_false, false_or]; exact h), if_neg h])
   clear hv hcl hat HF HV hle hD
   generalize s.extract 0 at' = AA at hDA hsl
   refine wpAnyH_take (i := 7) (v := ?_) rfl (by kernel_rfl) (by kernel_rfl) (by kernel_rfl) (fun _ _ _ h => h) (Or.inl ⟨by rfl, ?_⟩) (by assumption) ?_
   rotate_left
   ·
    intro w hSw
    go_simp
    with_reducible rfl
   change wpAnyH _ _ _ _ _ _ _ (Act.put _ (some 19) _) _
   simp only [Act.put, List.setIfInBounds_toArray, List.set_cons_zero, List.set_cons_succ]
   refine wpAnyH_take (i := 8) (v := ?_) rfl (by kernel_rfl) (by kernel_rfl) (by kernel_rfl) (fun _ _ _ h => h) (Or.inl ⟨by rfl, ?_⟩) (by assumption) ?_
   rotate_left
   ·
    intro w hSw
    go_simp
    with_reducible rfl
   change wpAnyH _ _ _ _ _ _ _ (Act.put _ (some 20) _) _
   simp only [Act.put, List.setIfInBounds_toArray, List.set_cons_zero, List.set_cons_succ]
   refine wpAnyH_take (i := 9) (v := ?_) rfl (by kernel_rfl) (by kernel_rfl) (by kernel_rfl) (fun _ _ _ h => h) (Or.inl ⟨by rfl, ?_⟩) (by assumption) ?_
   rotate_left
   ·
    intro w hSw
    go_simp
    with_reducible rfl
   change wpAnyH _ _ _ _ _ _ _ (Act.put _ (some 21) _) _
   simp only [Act.put, List.setIfInBounds_toArray, List.set_cons_zero, List.set_cons_succ]
   refine wpAnyH_take (i := 10) (v := ?_) rfl (by kernel_rfl) (by kernel_rfl) (by kernel_rfl) (fun _ _ _ h => h) (Or.inl ⟨by rfl, ?_⟩) (by assumption) ?_
   rotate_left
   ·
    intro w hSw
    go_simp
    with_reducible rfl
   change wpAnyH _ _ _ _ _ _ _ (Act.put _ (some 22) _) _
   simp only [Act.put, List.setIfInBounds_toArray, List.set_cons_zero, List.set_cons_succ]
   refine wpAnyH_take (i := 13) (v := ?_) rfl (by kernel_rfl) (by kernel_rfl) (by kernel_rfl) (fun _ _ _ h => h) (Or.inl ⟨by rfl, ?_⟩) (by assumption) ?_
   rotate_left
   ·
    intro w hSw
    go_simp
    with_reducible rfl
   change wpAnyH _ _ _ _ _ _ _ (Act.put _ (some 25) _) _
   simp only [Act.put, List.setIfInBounds_toArray, List.set_cons_zero, List.set_cons_succ]
   refine wpAnyH_take (i := 14) (v := ?_) rfl (by kernel_rfl) (by kernel_rfl) (by kernel_rfl) (fun _ _ _ h => h) (Or.inl ⟨by rfl, ?_⟩) (by assumption) ?_
   rotate_left
   ·
    intro w hSw
    go_simp
    with_reducible rfl
   change wpAnyH _ _ _ _ _ _ _ (Act.put _ (some 26) _) _
   simp only [Act.put, List.setIfInBounds_toArray, List.set_cons_zero, List.set_cons_succ]
   refine wpAnyH_take (i := 15) (v := ?_) rfl (by kernel_rfl) (by kernel_rfl) (by kernel_rfl) (fun _ _ _ h => h) (Or.inl ⟨by rfl, ?_⟩) (by assumption) ?_
   rotate_left
   ·
    intro w hSw
    go_simp
    with_reducible rfl
   change wpAnyH _ _ _ _ _ _ _ (Act.put _ (some 27) _) _
   simp only [Act.put, List.setIfInBounds_toArray, List.set_cons_zero, List.set_cons_succ]
   refine wpAnyH_take (i := 16) (v := ?_) rfl (by kernel_rfl) (by kernel_rfl) (by kernel_rfl) (fun _ _ _ h => h) (Or.inl ⟨by rfl, ?_⟩) (by assumption) ?_
   rotate_left
   ·
    intro w hSw
    go_simp
    with_reducible rfl
   change wpAnyH _ _ _ _ _ _ _ (Act.put _ (some 28) _) _
   simp only [Act.put, List.setIfInBounds_toArray, List.set_cons_zero, List.set_cons_succ]
   refine wpAnyH_take (i := 17) (v := ?_) rfl (by kernel_rfl) (by kernel_rfl) (by kernel_rfl) (fun _ _ _ h => h) (Or.inl ⟨by rfl, ?_⟩) (by assumption) ?_
   rotate_left
   ·
    intro w hSw
    go_simp
    with_reducible rfl
   change wpAnyH _ _ _ _ _ _ _ (Act.put _ (some 29) _) _
   simp only [Act.put, List.setIfInBounds_toArray, List.set_cons_zero, List.set_cons_succ]
   refine wpAnyH_take (i := 18) (v := ?_) rfl (by kernel_rfl) (by kernel_rfl) (by kernel_rfl) (fun _ _ _ h => h) (Or.inl ⟨by rfl, ?_⟩) (by assumption) ?_
   rotate_left
   ·
    intro w hSw
    go_simp
    with_reducible rfl
   change wpAnyH _ _ _ _ _ _ _ (Act.put _ (some 30) _) _
   simp only [Act.put, List.setIfInBounds_toArray, List.set_cons_zero, List.set_cons_succ]
   refine wpAnyH_ready (rs := [11]) (by kernel_rfl) (by simp) ?_
   refine AllReadyH.cons rfl (fun K hK => ?_) AllReadyH.nil
   go_simp
   refine CC.out.mono ?_
   rintro e v4 ⟨gk, ck, rfl, kk, b4⟩
   have X_4 := Lib.hid (X_3.out.below b4 X_3.out.lt)
   have T_4 := Lib.hid (T_3.out.below b4 T_3.out.lt)
   have RB_4 := Lib.hid (RB_3.out.below b4 RB_3.out.lt)
   have TX_4 := Lib.hid (TX_3.out.below b4 (fun _ _ h => h))
   have B_4 := Lib.hid (B_3.out.trans (b4.mono B_3.out.size))
   clear X_3 T_3 RB_3 TX_3 B_3
   have HCV := bs_string kk
   rw [← HD.out] at HCV
   have HCV := Lib.hid HCV
   generalize (codeT t).length = nk at HCV ⊢
   clear b4 kk CC HD
   go_wp2_with fail
   refine hK.out _ _ (HS0.out _ T_4.out RB_4.out) (fun hS => ?_)
   clear hK K
   try simp only [Act.put, List.setIfInBounds_toArray, List.set_cons_zero, List.set_cons_succ]
   refine wpAnyH_ready (rs := [12]) (by kernel_rfl) (by simp) ?_
   refine AllReadyH.cons rfl (fun K hK => ?_) AllReadyH.nil
   refine step_conv_run rfl 48 9 _ rfl rfl HCV.out ?_
   change K (Act.put _ (some 24) _) _
   refine hK.out _ _ (HS0.out _ T_4.out RB_4.out) (fun hS => ?_)
   clear hK K
   try simp only [Act.put, List.setIfInBounds_toArray, List.set_cons_zero, List.set_cons_succ]
   clear HCV
   by_cases hE : codeT t ≠ s.data.toList.take at'
   ·
    rw [decide_eq_true hE] at hDA
    replace hDA : (D.toList == AA.toList) = false := by unfold bne at hDA; generalize (D.toList == AA.toList) = q at hDA; cases q; rfl; cases hDA
    obtain rfl : F = (zeroT, 0, 6) := by rw [HF2.out, if_pos hE]
    clear HF2 hE
    refine wpAnyH_take (i := 19) (v := ?_) rfl (by kernel_rfl) (by kernel_rfl) (by kernel_rfl) (fun _ _ _ h => h) (Or.inl ⟨by rfl, ?_⟩) (by assumption) ?_
    rotate_left
    ·
     intro w hSw
     go_simp
     with_reducible rfl
    change wpAnyH _ _ _ _ _ _ _ (Act.put _ (some 31) _) _
    simp only [Act.put, List.setIfInBounds_toArray, List.set_cons_zero, List.set_cons_succ]
    refine wpAnyH_take (i := 20) (v := ?_) rfl (by kernel_rfl) (by kernel_rfl) (by kernel_rfl) (fun _ _ _ h => h) (Or.inl ⟨by rfl, ?_⟩) (by assumption) ?_
    rotate_left
    ·
     intro w hSw
     go_simp
     with_reducible rfl
    change wpAnyH _ _ _ _ _ _ _ (Act.put _ (some 32) _) _
    simp only [Act.put, List.setIfInBounds_toArray, List.set_cons_zero, List.set_cons_succ]
    refine wpAnyH_done (by kernel_rfl) ?_ _
    go_wp2_with (refine wpList_store_blk rfl 24 _ _ rfl rfl w.heap.size zeroC _ 24 rfl rfl X_4.out rfl info25 (by simp [zeroC, Value.oneCell']) ?_; intro vF bF oF)
    exact bodyPost_ret (results_ctt (a := 2) (b := 3) (c := 4) rfl _ _ w.heap.size _ _ (.int .i64 0) (.int .i64 6) rfl rfl rfl bF Tryz.underlying24 rfl info25) rfl (takeR_zero (B_4.out.trans (oF.below (by simp) B_4.out.size)))
   ·
    rw [decide_eq_false hE] at hDA
    replace hDA : (D.toList == AA.toList) = true := by unfold bne at hDA; generalize (D.toList == AA.toList) = q at hDA; cases q; cases hDA; rfl
    obtain rfl : F = (t, at', 0) := by rw [HF2.out, if_neg hE]
    clear HF2 hE
    refine wpAnyH_take (i := 19) (v := ?_) rfl (by kernel_rfl) (by kernel_rfl) (by kernel_rfl) (fun _ _ _ h => h) (Or.inl ⟨by rfl, ?_⟩) (by assumption) ?_
    rotate_left
    ·
     intro w hSw
     go_simp
     with_reducible rfl
    change wpAnyH _ _ _ _ _ _ _ (Act.put _ (some 31) _) _
    simp only [Act.put, List.setIfInBounds_toArray, List.set_cons_zero, List.set_cons_succ]
    refine wpAnyH_take (i := 20) (v := ?_) rfl (by kernel_rfl) (by kernel_rfl) (by kernel_rfl) (fun _ _ _ h => h) (Or.inl ⟨by rfl, ?_⟩) (by assumption) ?_
    rotate_left
    ·
     intro w hSw
     go_simp
     with_reducible rfl
    change wpAnyH _ _ _ _ _ _ _ (Act.put _ (some 32) _) _
    simp only [Act.put, List.setIfInBounds_toArray, List.set_cons_zero, List.set_cons_succ]
    refine wpAnyH_done (by kernel_rfl) ?_ _
    go_upto_region 5 with fail
    refine wp_region_held_drew (S := (fun w' => w'.cell? ⟨g6, 0, none⟩ = some (.int .i64 xf.k) ∧ w'.cell? ⟨g6, 1, none⟩ = some (.int .i64 xf.n) ∧ w'.cell? ⟨g6, 2, none⟩ = some (.int .i64 xf.g) ∧ w'.cell? ⟨g6, 3, none⟩ = some (.string xf.nm) ∧ w'.cell? ⟨g6, 4, none⟩ = some (.string xf.fn) ∧ w'.cell? ⟨g6, 5, none⟩ = some (.int .i64 xf.ar) ∧ w'.cell? ⟨g6, 6, none⟩ = some (.slice sx li cx) ∧ w'.cell? ⟨g6, 7, none⟩ = some (.string xf.bs) ∧ w'.cell? ⟨g6, 8, none⟩ = some (.int .i64 xf.bt) ∧ w'.cell? ⟨w.heap.size + 1, 1, none⟩ = some (.int .i64 (at' : Int)) ∧ w'.cell? ⟨w.heap.size + 1, 3, none⟩ = some (.bool false))) (by kernel_rfl) (HS0.out _ T_4.out.drew RB_4.out.drew) (fun hS => ?_)
    have X_5 := Lib.hid X_4.out.drew
    have B_5 := Lib.hid (B_4.out.trans (show Below w.heap.size v4 v4.drew from (Below.refl _ _).drew))
    have T_5 := Lib.hid T_4.out.drew
    have RB_5 := Lib.hid RB_4.out.drew
    have TX_5 := Lib.hid (TX_4.out.below (show Below v4.heap.size v4 v4.drew from (Below.refl _ _).drew) (fun _ _ h => h))
    clear X_4 B_4 T_4 RB_4 TX_4 hDA hsl
    generalize v4.drew = v5 at *
    refine wpAnyH_take (i := 0) (v := ?_) rfl (by kernel_rfl) (by kernel_rfl) (by kernel_rfl) (fun _ _ _ h => h) (Or.inl ⟨by rfl, ?_⟩) (by assumption) ?_
    rotate_left
    ·
     intro w hSw
     go_simp
     with_reducible rfl
    change wpAnyH _ _ _ _ _ _ _ (Act.put _ (some 34) _) _
    simp only [Act.put, List.setIfInBounds_toArray, List.set_cons_zero, List.set_cons_succ]
    refine wpAnyH_take (i := 1) (v := ?_) rfl (by kernel_rfl) (by kernel_rfl) (by kernel_rfl) (fun _ _ _ h => h) (Or.inl ⟨by rfl, ?_⟩) (by assumption) ?_
    rotate_left
    ·
     intro w hSw
     go_simp
     with_reducible rfl
    change wpAnyH _ _ _ _ _ _ _ (Act.put _ (some 35) _) _
    simp only [Act.put, List.setIfInBounds_toArray, List.set_cons_zero, List.set_cons_succ]
    refine wpAnyH_take (i := 2) (v := ?_) rfl (by kernel_rfl) (by kernel_rfl) (by kernel_rfl) (fun _ _ _ h => h) (Or.inl ⟨by rfl, ?_⟩) (by assumption) ?_
    rotate_left
    ·
     intro w hSw
     go_simp
     with_reducible rfl
    change wpAnyH _ _ _ _ _ _ _ (Act.put _ (some 36) _) _
    simp only [Act.put, List.setIfInBounds_toArray, List.set_cons_zero, List.set_cons_succ]
    refine wpAnyH_take (i := 3) (v := ?_) rfl (by kernel_rfl) (by kernel_rfl) (by kernel_rfl) (fun _ _ _ h => h) (Or.inl ⟨by rfl, ?_⟩) (by assumption) ?_
    rotate_left
    ·
     intro w hSw
     go_simp
     with_reducible rfl
    change wpAnyH _ _ _ _ _ _ _ (Act.put _ (some 37) _) _
    simp only [Act.put, List.setIfInBounds_toArray, List.set_cons_zero, List.set_cons_succ]
    refine wpAnyH_take (i := 4) (v := ?_) rfl (by kernel_rfl) (by kernel_rfl) (by kernel_rfl) (fun _ _ _ h => h) (Or.inl ⟨by rfl, ?_⟩) (by assumption) ?_
    rotate_left
    ·
     intro w hSw
     go_simp
     with_reducible rfl
    change wpAnyH _ _ _ _ _ _ _ (Act.put _ (some 38) _) _
    simp only [Act.put, List.setIfInBounds_toArray, List.set_cons_zero, List.set_cons_succ]
    refine wpAnyH_ready (rs := [5]) (by kernel_rfl) (by simp) ?_
    refine AllReadyH.cons rfl (fun K hK => ?_) AllReadyH.nil
    refine step_store_blk rfl 24 _ _ rfl rfl w.heap.size #[.int .i64 xf.k, .int .i64 xf.n, .int .i64 xf.g, .string xf.nm, .string xf.fn, .int .i64 xf.ar, .slice sx li cx, .string xf.bs, .int .i64 xf.bt] #[.int .i64 0, .int .i64 0, .int .i64 0, .string ⟨#[]⟩, .string ⟨#[]⟩, .int .i64 0, .slice none 0 0, .string ⟨#[]⟩, .int .i64 0] 24 rfl rfl X_5.out rfl (by kernel_rfl) (by simp [Value.oneCell']) ?_
    intro v6 bF oF
    have T_6 := Lib.hid (T_5.out.only oF (by have := HG.out; simp; omega))
    have RB_6 := Lib.hid (RB_5.out.only oF (by simp))
    refine hK.out _ _ (HS0.out _ T_6.out RB_6.out) (fun hS => ?_)
    clear hK K
    try simp only [Act.put, List.setIfInBounds_toArray, List.set_cons_zero, List.set_cons_succ]
    refine wpAnyH_take (i := 6) (v := ?_) rfl (by kernel_rfl) (by kernel_rfl) (by kernel_rfl) (fun _ _ _ h => h) (Or.inl ⟨by rfl, ?_⟩) (by assumption) ?_
    rotate_left
    ·
     intro w hSw
     go_simp
     with_reducible rfl
    change wpAnyH _ _ _ _ _ _ _ (Act.put _ (some 3) _) _
    simp only [Act.put, List.setIfInBounds_toArray, List.set_cons_zero, List.set_cons_succ]
    refine wpAnyH_take (i := 7) (v := ?_) rfl (by kernel_rfl) (by kernel_rfl) (by kernel_rfl) (fun _ _ _ h => h) (Or.inl ⟨by rfl, ?_⟩) (by assumption) ?_
    rotate_left
    ·
     intro w hSw
     go_simp
     with_reducible rfl
    change wpAnyH _ _ _ _ _ _ _ (Act.put _ (some 4) _) _
    simp only [Act.put, List.setIfInBounds_toArray, List.set_cons_zero, List.set_cons_succ]
    refine wpAnyH_done (by kernel_rfl) ?_ _
    go_wp2_with fail
    refine bodyPost_ret (results_ctt (a := 2) (b := 3) (c := 4) rfl _ _ w.heap.size _ _ (.int .i64 (at' : Int)) (.int .i64 0) rfl rfl rfl bF Tryz.underlying24 rfl info25) rfl ?_
    exact ⟨B_5.out.trans (oF.below (by simp) B_5.out.size), ⟨xf, .slice sx li cx⟩, rfl, (TX_5.out.only oF (fun b hb _ => by simp; omega)).mono (fun b hb _ => by show w.heap.size ≤ b; omega)⟩
end Go.Proofs.YtemlogadbopffaaGreat
