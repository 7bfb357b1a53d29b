/- The reference's plain reader takes the encoding of every well-formed term back; its terms are within bounds; it answers as the plain parser does. -/
import Derived.Test.YtcpdmlnodhokmaaRs
namespace Go.Proofs.Ytcpdmlnodhokmaa
open Go.RowKit Go.Rt Go.Rw

theorem takeS_app (a r : List UInt8) (L : Int) (n : Nat) (h : a.length = n) : takeS ⟨a ++ r, L, false⟩ n = (a, ⟨r, L, false⟩) := by
  subst h
  unfold takeS
  rw [if_neg (by simp)]
  simp
theorem numS_app (a r : List UInt8) (L : Int) (k : Nat) (h : a.length = k) : numS ⟨a ++ r, L, false⟩ k = (beN a, ⟨r, L, false⟩) := by
  unfold numS
  rw [takeS_app a r L k h]
theorem numS_cons (c : UInt8) (r : List UInt8) (L : Int) : numS ⟨c :: r, L, false⟩ 1 = (c.toNat, ⟨r, L, false⟩) := by
  have := numS_app [c] r L 1 rfl
  rw [List.singleton_append] at this
  rw [this]
  simp [beN]
theorem numS_u8 (n : Int) (r : List UInt8) (L : Int) : numS ⟨u8 n :: r, L, false⟩ 1 = ((n % 256).toNat, ⟨r, L, false⟩) := by
  have := u8_toNat n
  rw [numS_cons, show (u8 n).toNat = (n % 256).toNat by omega]
theorem numS_num4 (n : Int) (r : List UInt8) (L : Int) : numS ⟨num4 n ++ r, L, false⟩ 4 = ((n % 4294967296).toNat, ⟨r, L, false⟩) := by
  have := beN_num4 n
  rw [numS_app _ _ _ 4 rfl, show beN (num4 n) = (n % 4294967296).toNat by omega]
theorem numS_num2 (n : Int) (r : List UInt8) (L : Int) : numS ⟨num2 n ++ r, L, false⟩ 2 = ((n % 65536).toNat, ⟨r, L, false⟩) := by
  have := beN_num2 n
  rw [numS_app _ _ _ 2 rfl, show beN (num2 n) = (n % 65536).toNat by omega]
theorem nameS_app (s : ByteArray) (h : s.size < 256) (r : List UInt8) (L : Int) : nameS ⟨atomB s ++ r, L, false⟩ = (s.data.toList, ⟨r, L, false⟩) := by
  unfold nameS atomB
  rw [List.cons_append, List.cons_append, numS_cons]
  dsimp only
  rw [show decide ((119 : UInt8).toNat ≠ 119) = false from rfl, show badS false ⟨u8 s.size :: (s.data.toList ++ r), L, false⟩ = ⟨u8 s.size :: (s.data.toList ++ r), L, false⟩ from rfl, numS_u8]
  dsimp only
  rw [takeS_app]
  simp
  omega
theorem toI64_id (n : Int) (hn : -9223372036854775808 ≤ n ∧ n ≤ 9223372036854775807) : toI64 n = n := by unfold toI64; omega
theorem largeS_back (n : Int) (_h : n < -2147483648 ∨ 2147483648 ≤ n) (hn : -9223372036854775808 ≤ n ∧ n ≤ 9223372036854775807) (r : List UInt8) (L : Int) : largeS ⟨u8 (leB n.natAbs).length :: signB n :: leB n.natAbs ++ r, L, false⟩ = (n, ⟨r, L, false⟩) := by
  have h8 := leB_len 8 n.natAbs (by omega)
  have hl := leN_leB n.natAbs
  have hs : (signB n).toNat = if n < 0 then 1 else 0 := by unfold signB; split <;> rfl
  unfold largeS
  rw [List.cons_append, List.cons_append, numS_u8]
  dsimp only
  rw [numS_cons]
  dsimp only
  rw [show (((leB n.natAbs).length : Int) % 256).toNat = (leB n.natAbs).length by omega, takeS_app _ _ _ _ rfl]
  unfold largeT
  rw [show (decide (8 < (leB n.natAbs).length) || decide (1 < (signB n).toNat)) = false by
    rw [hs]
    split <;> simp <;> omega]
  show (toI64 (if (signB n).toNat = 1 then -((leN (leB n.natAbs) : Nat) : Int) else ((leN (leB n.natAbs) : Nat) : Int)), _) = _
  rw [hl, hs]
  by_cases h0 : n < 0
  · rw [if_pos h0, if_pos rfl, show -((n.natAbs : Nat) : Int) = n by omega, toI64_id n hn]
    rfl
  · rw [if_neg h0, if_neg (by decide), show ((n.natAbs : Nat) : Int) = n by omega, toI64_id n hn]
    rfl
theorem bodyS_cons (T : Sr → Tm × Sr) (c : UInt8) (k : Nat) (hk : c.toNat = k) (r : List UInt8) (L : Int) : bodyS T (numS ⟨c :: r, L, false⟩ 1) = tagS T k ⟨r, L, false⟩ := by
  rw [numS_cons, hk]
  rfl
theorem intS_back (T : Sr → Tm × Sr) (n : Int) (hn : -9223372036854775808 ≤ n ∧ n ≤ 9223372036854775807) (r : List UInt8) (L : Int) : bodyS T (numS ⟨intB n ++ r, L, false⟩ 1) = (intT n, ⟨r, L, false⟩) := by
  unfold intB
  split
  · rename_i h
    show bodyS T (numS ⟨97 :: u8 n :: r, L, false⟩ 1) = _
    rw [bodyS_cons T _ 97 rfl]
    show s97 _ = _
    unfold s97
    rw [numS_u8]
    dsimp only
    rw [show (((n % 256).toNat : Nat) : Int) = n by omega]
  · split
    · rename_i h1 h2
      show bodyS T (numS ⟨98 :: (num4 n ++ r), L, false⟩ 1) = _
      rw [bodyS_cons T _ 98 rfl]
      show s98 _ = _
      unfold s98
      rw [numS_num4]
      dsimp only
      rw [show toI32 (n % 4294967296).toNat = n by unfold toI32; split <;> omega]
    · rename_i h1 h2
      show bodyS T (numS ⟨110 :: (u8 (leB n.natAbs).length :: signB n :: leB n.natAbs ++ r), L, false⟩ 1) = _
      rw [bodyS_cons T _ 110 rfl]
      show s110 _ = _
      unfold s110
      rw [largeS_back n (by omega) hn]
theorem tagS_104 (T : Sr → Tm × Sr) (st : Sr) : tagS T 104 st = s104 T st := by simp [tagS]
theorem tagS_108 (T : Sr → Tm × Sr) (st : Sr) : tagS T 108 st = s108 T st := by simp [tagS]
theorem tagS_112 (T : Sr → Tm × Sr) (st : Sr) : tagS T 112 st = s112 T st := by simp [tagS]
theorem tagS_119 (T : Sr → Tm × Sr) (st : Sr) : tagS T 119 st = s119 st := by simp [tagS]
theorem tagS_109 (T : Sr → Tm × Sr) (st : Sr) : tagS T 109 st = s109 st := by simp [tagS]
theorem tagS_77 (T : Sr → Tm × Sr) (st : Sr) : tagS T 77 st = s77 st := by simp [tagS]
theorem tagS_88 (T : Sr → Tm × Sr) (st : Sr) : tagS T 88 st = s88 st := by simp [tagS]
theorem tagS_90 (T : Sr → Tm × Sr) (st : Sr) : tagS T 90 st = s90 st := by simp [tagS]
theorem tagS_113 (T : Sr → Tm × Sr) (st : Sr) : tagS T 113 st = s113 st := by simp [tagS]
theorem headS_back {f : Fl} {l : List Tm} (h : Shape f l) (hfit : fitF f) (T : Sr → Tm × Sr) (L : Int) (m : List UInt8) (hlen2 : cntL l ≤ 2001)
    (hl : ∀ r, itemsS T l.length ⟨codeL l ++ r, L, false⟩ = (l, ⟨r, L - cntL l, false⟩)) : bodyS T (numS ⟨headB f l.length ++ codeL l ++ m, L, false⟩ 1) = (.mk f l, ⟨m, L - cntL l, false⟩) := by
  have hlen := cntL_len l
  have hIQ : ∀ n r, n = l.length → itemsS T n ⟨codeL l ++ r, L, false⟩ = (l, ⟨r, L - cntL l, false⟩) := by
    rintro n r rfl
    exact hl r
  have hL0 : L - ((0 : Nat) : Int) = L := by omega
  rw [List.append_assoc]
  cases h with
  | int n =>
    rw [show cntL [] = 0 from rfl, hL0]
    exact intS_back T n hfit.2.2.1 m L
  | atom s h =>
    have := nameF_size s h
    have e : headB ⟨2, 0, 0, s, noB, 0, noB, 0⟩ ([] : List Tm).length = atomB s := rfl
    rw [e, codeL, List.nil_append, show cntL [] = 0 from rfl, hL0]
    show bodyS T (numS ⟨119 :: (u8 s.size :: s.data.toList ++ m), L, false⟩ 1) = _
    rw [bodyS_cons T _ 119 rfl, tagS_119]
    unfold s119
    show (Tm.mk ⟨2, 0, 0, bA (nameS ⟨atomB s ++ m, L, false⟩).1, noB, 0, noB, 0⟩ [], (nameS ⟨atomB s ++ m, L, false⟩).2) = _
    rw [nameS_app s (by omega)]
    dsimp only
    rw [bA_list]
  | ref n g s hn hg h =>
    have := nameF_size s h
    have e : headB ⟨3, n, g, s, noB, 0, noB, 0⟩ ([] : List Tm).length = 90 :: ([0, 1] ++ (atomB s ++ (num4 g ++ num4 n))) := by simp [headB]
    rw [e, codeL, List.nil_append, List.cons_append, List.append_assoc, show cntL [] = 0 from rfl, hL0]
    rw [bodyS_cons T _ 90 rfl, tagS_90]
    unfold s90
    rw [numS_app _ _ _ 2 rfl]
    dsimp only
    rw [List.append_assoc, nameS_app s (by omega)]
    unfold k90
    dsimp only
    rw [List.append_assoc, numS_num4]
    unfold j90
    dsimp only
    rw [numS_num4]
    unfold i90
    dsimp only
    rw [bA_list, show (((g % 4294967296).toNat : Nat) : Int) = g by omega, show (((n % 4294967296).toNat : Nat) : Int) = n by omega]
  | clo n g s a l hn hg h ha hl2 =>
    have := nameF_size s h
    have e : headB ⟨4, n, g, s, noB, a, noB, 0⟩ l.length = 112 :: u8 a :: (num2 n ++ (u8 l.length :: (atomB s ++ num4 g))) := by simp [headB]
    rw [e, List.cons_append, List.cons_append, List.append_assoc]
    rw [bodyS_cons T _ 112 rfl, tagS_112]
    unfold s112
    rw [numS_u8]
    unfold m112
    dsimp only
    rw [numS_num2]
    unfold l112
    dsimp only
    rw [List.cons_append, numS_u8]
    unfold k112
    dsimp only
    rw [List.append_assoc, nameS_app s (by omega)]
    unfold j112
    dsimp only
    rw [numS_num4]
    unfold i112
    dsimp only
    rw [hIQ _ m (by omega)]
    dsimp only
    rw [bA_list, show (((g % 4294967296).toNat : Nat) : Int) = g by omega, show (((n % 65536).toNat : Nat) : Int) = n by omega, show (((a % 256).toNat : Nat) : Int) = a by omega]
  | exp s f a h h2 ha =>
    have := nameF_size s h
    have := nameF_size f h2
    have ia : intB a = [97, u8 a] := by unfold intB; rw [if_pos (by omega)]
    have e : headB ⟨5, 0, 0, s, f, a, noB, 0⟩ ([] : List Tm).length = 113 :: (atomB s ++ (atomB f ++ intB a)) := by simp [headB]
    rw [e, codeL, List.nil_append, List.cons_append, List.append_assoc, show cntL [] = 0 from rfl, hL0]
    rw [bodyS_cons T _ 113 rfl, tagS_113]
    unfold s113
    rw [nameS_app s (by omega)]
    unfold l113
    dsimp only
    rw [List.append_assoc, nameS_app f (by omega)]
    unfold k113
    dsimp only
    rw [ia, List.cons_append, List.singleton_append, numS_cons]
    unfold j113
    dsimp only
    rw [show decide ((97 : UInt8).toNat ≠ 97) = false from rfl, show badS false ⟨u8 a :: m, L, false⟩ = ⟨u8 a :: m, L, false⟩ from rfl, numS_u8]
    unfold i113
    dsimp only
    rw [bA_list, bA_list, show (((a % 256).toNat : Nat) : Int) = a by omega]
  | pid n g s hn hg h =>
    have := nameF_size s h
    have e : headB ⟨6, n, g, s, noB, 0, noB, 0⟩ ([] : List Tm).length = 88 :: (atomB s ++ (num4 n ++ (num4 0 ++ num4 g))) := by simp [headB]
    rw [e, codeL, List.nil_append, List.cons_append, List.append_assoc, show cntL [] = 0 from rfl, hL0]
    rw [bodyS_cons T _ 88 rfl, tagS_88]
    unfold s88
    rw [nameS_app s (by omega)]
    unfold k88
    dsimp only
    rw [List.append_assoc, numS_num4]
    unfold j88
    dsimp only
    rw [List.append_assoc, numS_num4]
    dsimp only
    rw [numS_num4]
    unfold i88
    dsimp only
    rw [bA_list, show (((g % 4294967296).toNat : Nat) : Int) = g by omega, show (((n % 4294967296).toNat : Nat) : Int) = n by omega]
  | tup l hl2 =>
    have e : headB ⟨7, 0, 0, noB, noB, 0, noB, 0⟩ l.length = [104, u8 l.length] := by simp [headB]
    rw [e, List.cons_append, List.singleton_append]
    rw [bodyS_cons T _ 104 rfl, tagS_104]
    unfold s104
    rw [numS_u8]
    unfold i104
    dsimp only
    rw [hIQ _ m (by omega)]
  | nil =>
    rw [show cntL [] = 0 from rfl, hL0]
    show bodyS T (numS ⟨106 :: ([] ++ m), L, false⟩ 1) = _
    rw [bodyS_cons T _ 106 rfl]
    rfl
  | list l hl2 =>
    have e : headB ⟨9, 0, 0, noB, noB, 0, noB, 0⟩ l.length = 108 :: num4 ((l.length : Int) - 1) := by simp [headB]
    rw [e, List.cons_append]
    rw [bodyS_cons T _ 108 rfl, tagS_108]
    unfold s108
    rw [numS_num4]
    unfold i108
    dsimp only
    rw [hIQ _ m (by omega)]
  | bits s bt h =>
    unfold bitsB at h
    rw [Bool.and_eq_true, Bool.and_eq_true, decide_eq_true_eq] at h
    obtain ⟨hb, hs, _⟩ := h
    have hb := inB_iff hb
    rw [show cntL [] = 0 from rfl, hL0, codeL, List.nil_append]
    by_cases h8 : bt % 8 = 0
    · have e : headB ⟨10, 0, 0, noB, noB, 0, s, bt⟩ ([] : List Tm).length = 109 :: (num4 s.size ++ s.data.toList) := by simp [headB, h8]
      rw [e, List.cons_append, bodyS_cons T _ 109 rfl, tagS_109]
      unfold s109
      rw [List.append_assoc, numS_num4]
      dsimp only
      rw [takeS_app _ _ _ _ (by simp; omega)]
      unfold i109
      dsimp only
      rw [bA_list, show 8 * ((s.data.toList.length : Nat) : Int) = bt by simp; omega]
    · have e : headB ⟨10, 0, 0, noB, noB, 0, s, bt⟩ ([] : List Tm).length = 77 :: (num4 s.size ++ (u8 (bt % 8) :: s.data.toList)) := by simp [headB, h8]
      rw [e, List.cons_append, bodyS_cons T _ 77 rfl, tagS_77]
      unfold s77
      rw [List.append_assoc, numS_num4]
      unfold j77
      dsimp only
      rw [List.cons_append, numS_u8]
      dsimp only
      rw [takeS_app _ _ _ _ (by simp; omega)]
      unfold i77
      dsimp only
      rw [bA_list, show 8 * ((s.data.toList.length : Nat) : Int) - 8 + ((bt % 8 % 256).toNat : Int) = bt by simp; omega]
mutual
/-- What is encoded is taken back by the reference's reader, whatever follows. -/
theorem termS_back : ∀ t, formed t = true → fitT t → ∀ d (q : Int) m, (cnt t : Int) ≤ q → cnt t ≤ d → q ≤ 2000 → termS d ⟨codeT t ++ m, q, false⟩ = (t, ⟨m, q - cnt t, false⟩)
  | .mk f l, h, hf, d, q, m, hq, hd, h2 => by
    rw [formed, Bool.and_eq_true] at h
    rw [fitT] at hf
    rw [cnt] at hq hd ⊢
    obtain ⟨e, rfl⟩ : ∃ e, d = e + 1 := ⟨d - 1, by omega⟩
    rw [termS, codeT]
    have hs : startS ⟨headB f l.length ++ codeL l ++ m, q, false⟩ = ⟨headB f l.length ++ codeL l ++ m, q - 1, false⟩ := by
      unfold startS
      dsimp only
      rw [decide_eq_false (by omega)]
      rfl
    rw [hs, headS_back (shape h.1) hf.1 _ _ _ (by omega) (fun r => itemsS_back l h.2 hf.2 e (q - 1) r (by omega) (by omega) (by omega))]
    congr 2
    omega
theorem itemsS_back : ∀ l, formedL l = true → fitL l → ∀ d (q : Int) m, (cntL l : Int) ≤ q → cntL l ≤ d → q ≤ 2000 → itemsS (termS d) l.length ⟨codeL l ++ m, q, false⟩ = (l, ⟨m, q - cntL l, false⟩)
  | [], _, _, d, q, m, _, _, _ => by
    rw [List.length_nil, itemsS, codeL, cntL]
    congr 2
    omega
  | t :: r, h, hf, d, q, m, hq, hd, h2 => by
    rw [formedL, Bool.and_eq_true] at h
    rw [fitL] at hf
    rw [cntL] at hq hd ⊢
    rw [List.length_cons, itemsS, if_neg Bool.false_ne_true, codeL, List.append_assoc, termS_back t h.1 hf.1 d q _ (by omega) (by omega) h2]
    dsimp only
    rw [itemsS_back r h.2 hf.2 d (q - cnt t) m (by omega) (by omega) (by omega)]
    dsimp only
    congr 2
    omega
end
end Go.Proofs.Ytcpdmlnodhokmaa
