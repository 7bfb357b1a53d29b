/- The plain parser takes the encoding of every well-formed term back. -/
import Derived.Test.YtoaimoemaoinhaaGreatDoorFun
namespace Go.Proofs.YtoaimoemaoinhaaGreatDoor
open Go.RowKit Go.Rt Go.Rw

theorem takeL_app (a r : List UInt8) (n : Nat) (h : a.length = n) : takeL (a ++ r) n = some (a, r) := by
  subst h
  unfold takeL
  rw [if_pos (by simp)]
  simp
theorem numP_app (a r : List UInt8) (k : Nat) (h : a.length = k) : numP (a ++ r) k = some (beN a, r) := by
  unfold numP
  rw [takeL_app a r k h]
  rfl
theorem numP_cons (c : UInt8) (r : List UInt8) : numP (c :: r) 1 = some (c.toNat, r) := by
  have := numP_app [c] r 1 rfl
  rw [List.singleton_append] at this
  rw [this]
  simp [beN]
theorem beN_num4 (n : Int) : (beN (num4 n) : Int) = n % 4294967296 := by
  have h1 := u8_toNat (n / 16777216)
  have h2 := u8_toNat (n / 65536)
  have h3 := u8_toNat (n / 256)
  have h4 := u8_toNat n
  show ((((((0 * 256 + (u8 (n / 16777216)).toNat) * 256 + (u8 (n / 65536)).toNat) * 256 + (u8 (n / 256)).toNat) * 256 + (u8 n).toNat : Nat)) : Int) = _
  omega
theorem beN_num2 (n : Int) : (beN (num2 n) : Int) = n % 65536 := by
  have h3 := u8_toNat (n / 256)
  have h4 := u8_toNat n
  show ((((0 * 256 + (u8 (n / 256)).toNat) * 256 + (u8 n).toNat : Nat)) : Int) = _
  omega
theorem numP_num4 (n : Int) (r : List UInt8) : numP (num4 n ++ r) 4 = some ((n % 4294967296).toNat, r) := by
  have := beN_num4 n
  rw [numP_app _ _ 4 rfl, show beN (num4 n) = (n % 4294967296).toNat by omega]
theorem numP_num2 (n : Int) (r : List UInt8) : numP (num2 n ++ r) 2 = some ((n % 65536).toNat, r) := by
  have := beN_num2 n
  rw [numP_app _ _ 2 rfl, show beN (num2 n) = (n % 65536).toNat by omega]
theorem numP_u8 (n : Int) (r : List UInt8) : numP (u8 n :: r) 1 = some ((n % 256).toNat, r) := by
  have := u8_toNat n
  rw [numP_cons, show (u8 n).toNat = (n % 256).toNat by omega]
theorem bA_list (s : ByteArray) : bA s.data.toList = s := by unfold bA; simp
theorem nameP_app (s : ByteArray) (h : s.size < 256) (r : List UInt8) : nameP (atomB s ++ r) = some (s.data.toList, r) := by
  unfold nameP atomB
  rw [List.cons_append, List.cons_append, numP_cons]
  dsimp only
  rw [if_pos (show (119 : UInt8).toNat = 119 from rfl), numP_u8]
  dsimp only
  rw [takeL_app]
  simp
  omega
theorem leN_leB : ∀ n, leN (leB n) = n := by
  intro n
  induction n using Nat.strongRecOn with
  | _ n ih =>
    by_cases h : n = 0
    · subst h; rw [leB_zero]; rfl
    · rw [leB_pos h, leN, ih (n / 256) (by omega)]
      have := u8_toNat n
      omega
theorem lastZ_cons (c : UInt8) (r : List UInt8) (h : r ≠ []) : lastZ (c :: r) = lastZ r := by
  cases r with
  | nil => exact absurd rfl h
  | cons d r => unfold lastZ; simp
theorem lastZ_leB : ∀ n, n ≠ 0 → lastZ (leB n) = false := by
  intro n
  induction n using Nat.strongRecOn with
  | _ n ih =>
    intro h
    rw [leB_pos h]
    by_cases h2 : n / 256 = 0
    · rw [h2, leB_zero]
      have := u8_toNat n
      unfold lastZ
      simp
      intro hc
      rw [hc] at this
      simp at this
      omega
    · rw [lastZ_cons _ _ (by rw [leB_pos h2]; simp)]
      exact ih _ (by omega) h2
theorem leB_len4 (n : Nat) (h : 2147483648 ≤ n) : 4 ≤ (leB n).length := by
  by_cases hl : (leB n).length ≤ 3
  · have := leN_lt (leB n)
    rw [leN_leB] at this
    have := Nat.lt_of_lt_of_le this (Nat.pow_le_pow_right (by omega) hl)
    omega
  · omega
theorem large_back (n : Int) (h : n < -2147483648 ∨ 2147483648 ≤ n) (hn : -9223372036854775808 ≤ n ∧ n ≤ 9223372036854775807) (r : List UInt8) : largeP (u8 (leB n.natAbs).length :: signB n :: leB n.natAbs ++ r) = some (n, r) := by
  have h8 := leB_len 8 n.natAbs (by omega)
  have h4 := leB_len4 n.natAbs (by omega)
  have hz := lastZ_leB n.natAbs (by omega)
  have hl := leN_leB n.natAbs
  unfold largeP
  rw [List.cons_append, List.cons_append, numP_u8]
  dsimp only
  rw [numP_cons]
  dsimp only
  have hs : (signB n).toNat ≤ 1 := by unfold signB; split <;> decide
  rw [show (((leB n.natAbs).length : Int) % 256).toNat = (leB n.natAbs).length by omega, if_pos ⟨h4, h8, hs⟩, takeL_app _ _ _ rfl]
  dsimp only
  rw [hz, if_neg (by decide), hl]
  by_cases h0 : n < 0
  · have : (signB n).toNat = 1 := by unfold signB; rw [if_pos h0]; rfl
    rw [if_pos this, if_pos (by omega)]
    congr 2
    omega
  · have : ¬ (signB n).toNat = 1 := by unfold signB; rw [if_neg h0]; decide
    rw [if_neg this, if_pos (by omega)]
    congr 2
    omega
theorem body_cons (T : Nat → List UInt8 → Pr Tm) (p : Nat) (c : UInt8) (k : Nat) (hk : c.toNat = k) (r : List UInt8) : bodyP T p (c :: r) = tagP T p k r := by
  unfold bodyP
  rw [numP_cons, hk]
theorem tag_97 (T : Nat → List UInt8 → Pr Tm) (p : Nat) (r : List UInt8) : tagP T p 97 r = p97 p r := by simp [tagP]
theorem tag_98 (T : Nat → List UInt8 → Pr Tm) (p : Nat) (r : List UInt8) : tagP T p 98 r = p98 p r := by simp [tagP]
theorem tag_110 (T : Nat → List UInt8 → Pr Tm) (p : Nat) (r : List UInt8) : tagP T p 110 r = p110 p r := by simp [tagP]
theorem tag_119 (T : Nat → List UInt8 → Pr Tm) (p : Nat) (r : List UInt8) : tagP T p 119 r = p119 p r := by simp [tagP]
theorem tag_104 (T : Nat → List UInt8 → Pr Tm) (p : Nat) (r : List UInt8) : tagP T p 104 r = p104 T p r := by simp [tagP]
theorem tag_108 (T : Nat → List UInt8 → Pr Tm) (p : Nat) (r : List UInt8) : tagP T p 108 r = p108 T p r := by simp [tagP]
theorem tag_109 (T : Nat → List UInt8 → Pr Tm) (p : Nat) (r : List UInt8) : tagP T p 109 r = p109 p r := by simp [tagP]
theorem tag_77 (T : Nat → List UInt8 → Pr Tm) (p : Nat) (r : List UInt8) : tagP T p 77 r = p77 p r := by simp [tagP]
theorem tag_88 (T : Nat → List UInt8 → Pr Tm) (p : Nat) (r : List UInt8) : tagP T p 88 r = p88 p r := by simp [tagP]
theorem tag_90 (T : Nat → List UInt8 → Pr Tm) (p : Nat) (r : List UInt8) : tagP T p 90 r = p90 p r := by simp [tagP]
theorem tag_113 (T : Nat → List UInt8 → Pr Tm) (p : Nat) (r : List UInt8) : tagP T p 113 r = p113 p r := by simp [tagP, funP]
theorem tag_112 (T : Nat → List UInt8 → Pr Tm) (p : Nat) (r : List UInt8) : tagP T p 112 r = p112 T p r := by simp [tagP, funP]
theorem int_back (T : Nat → List UInt8 → Pr Tm) (p : Nat) (n : Int) (hn : -9223372036854775808 ≤ n ∧ n ≤ 9223372036854775807) (r : List UInt8) : bodyP T p (intB n ++ r) = some (intT n, p, r) := by
  unfold intB
  split
  · rename_i h
    show bodyP T p (97 :: u8 n :: r) = _
    rw [body_cons T p _ 97 rfl, tag_97]
    unfold p97
    rw [numP_u8]
    dsimp only
    rw [show (((n % 256).toNat : Nat) : Int) = n by omega]
  · split
    · rename_i h1 h2
      show bodyP T p (98 :: (num4 n ++ r)) = _
      rw [body_cons T p _ 98 rfl, tag_98]
      unfold p98
      rw [numP_num4]
      dsimp only
      rw [show toI32 (n % 4294967296).toNat = n by unfold toI32; split <;> omega, if_pos (by omega)]
    · rename_i h1 h2
      show bodyP T p (110 :: (u8 (leB n.natAbs).length :: signB n :: leB n.natAbs ++ r)) = _
      rw [body_cons T p _ 110 rfl, tag_110]
      unfold p110
      rw [large_back n (by omega) hn]
theorem noB_of {a : ByteArray} (h : a = ByteArray.empty) : a = noB := h
theorem inB_iff {n a b : Int} (h : inB n a b = true) : a ≤ n ∧ n ≤ b := by
  unfold inB at h
  simpa using h
/-- The forms of well-formed terms. -/
inductive Shape : Fl → List Tm → Prop where
  | int (n : Int) : Shape ⟨1, n, 0, noB, noB, 0, noB, 0⟩ []
  | atom (s : ByteArray) (h : nameF s = true) : Shape ⟨2, 0, 0, s, noB, 0, noB, 0⟩ []
  | ref (n g : Int) (s : ByteArray) (hn : 1 ≤ n ∧ n ≤ 2147483647) (hg : 1 ≤ g ∧ g ≤ 2147483647) (h : nameF s = true) : Shape ⟨3, n, g, s, noB, 0, noB, 0⟩ []
  | clo (n g : Int) (s : ByteArray) (a : Int) (l : List Tm) (hn : 0 ≤ n ∧ n ≤ 999) (hg : 1 ≤ g ∧ g ≤ 2147483647) (h : nameF s = true) (ha : 0 ≤ a ∧ a ≤ 16) (hl : l.length ≤ 200) : Shape ⟨4, n, g, s, noB, a, noB, 0⟩ l
  | exp (s f : ByteArray) (a : Int) (h : nameF s = true) (h2 : nameF f = true) (ha : 0 ≤ a ∧ a ≤ 16) : Shape ⟨5, 0, 0, s, f, a, noB, 0⟩ []
  | pid (n g : Int) (s : ByteArray) (hn : 1 ≤ n ∧ n ≤ 2147483647) (hg : 1 ≤ g ∧ g ≤ 2147483647) (h : nameF s = true) : Shape ⟨6, n, g, s, noB, 0, noB, 0⟩ []
  | tup (l : List Tm) (hl : l.length ≤ 255) : Shape ⟨7, 0, 0, noB, noB, 0, noB, 0⟩ l
  | nil : Shape ⟨8, 0, 0, noB, noB, 0, noB, 0⟩ []
  | list (l : List Tm) (hl : 2 ≤ l.length) : Shape ⟨9, 0, 0, noB, noB, 0, noB, 0⟩ l
  | bits (s : ByteArray) (bt : Int) (h : bitsB s bt = true) : Shape ⟨10, 0, 0, noB, noB, 0, s, bt⟩ []
set_option maxHeartbeats 2000000 in
theorem shape {f : Fl} {l : List Tm} (h : ownB f l = true) : Shape f l := by
  unfold ownB at h
  rw [Bool.and_eq_true, Bool.and_eq_true] at h
  obtain ⟨h1, h2, h3⟩ := h
  obtain ⟨k, n, g, nm, fn, ar, bs, bt⟩ := f
  have z := noB_of (a := nm)
  have z2 := noB_of (a := fn)
  have z3 := noB_of (a := bs)
  by_cases k1 : k = 1
  · subst k1
    simp [zeroF, bareF, usesL] at h2 h3
    obtain ⟨rfl, a, b, rfl, c, rfl⟩ := h2
    obtain rfl := z a; obtain rfl := z2 b; obtain rfl := z3 c
    subst h3
    exact .int n
  by_cases k2 : k = 2
  · subst k2
    simp [zeroF, bareF, usesL] at h2 h3
    obtain ⟨rfl, rfl, _, b, rfl, c, rfl⟩ := h2
    obtain rfl := z2 b; obtain rfl := z3 c
    subst h3
    exact .atom nm h1
  by_cases k3 : k = 3
  · subst k3
    simp [zeroF, bareF, usesL] at h2 h3
    obtain ⟨_, b, rfl, c, rfl⟩ := h2
    obtain rfl := z2 b; obtain rfl := z3 c
    subst h3
    replace h1 : (inB n 1 2147483647 && (inB g 1 2147483647 && nameF nm)) = true := h1
    rw [Bool.and_eq_true, Bool.and_eq_true] at h1
    exact .ref n g nm (inB_iff h1.1) (inB_iff h1.2.1) h1.2.2
  by_cases k4 : k = 4
  · subst k4
    simp [zeroF, bareF, usesL] at h2 h3
    obtain ⟨_, b, c, rfl⟩ := h2
    obtain rfl := z2 b; obtain rfl := z3 c
    replace h1 : (inB n 0 999 && (inB g 1 2147483647 && (nameF nm && (inB ar 0 16 && decide (l.length ≤ 200))))) = true := h1
    rw [Bool.and_eq_true, Bool.and_eq_true, Bool.and_eq_true, Bool.and_eq_true, decide_eq_true_eq] at h1
    exact .clo n g nm ar l (inB_iff h1.1) (inB_iff h1.2.1) h1.2.2.1 (inB_iff h1.2.2.2.1) h1.2.2.2.2
  by_cases k5 : k = 5
  · subst k5
    simp [zeroF, bareF, usesL] at h2 h3
    obtain ⟨rfl, rfl, _, c, rfl⟩ := h2
    obtain rfl := z3 c
    subst h3
    replace h1 : (nameF nm && (nameF fn && inB ar 0 16)) = true := h1
    rw [Bool.and_eq_true, Bool.and_eq_true] at h1
    exact .exp nm fn ar h1.1 h1.2.1 (inB_iff h1.2.2)
  by_cases k6 : k = 6
  · subst k6
    simp [zeroF, bareF, usesL] at h2 h3
    obtain ⟨_, b, rfl, c, rfl⟩ := h2
    obtain rfl := z2 b; obtain rfl := z3 c
    subst h3
    replace h1 : (inB n 1 2147483647 && (inB g 1 2147483647 && nameF nm)) = true := h1
    rw [Bool.and_eq_true, Bool.and_eq_true] at h1
    exact .pid n g nm (inB_iff h1.1) (inB_iff h1.2.1) h1.2.2
  by_cases k7 : k = 7
  · subst k7
    simp [zeroF, bareF, usesL] at h2 h3
    obtain ⟨rfl, rfl, a, b, rfl, c, rfl⟩ := h2
    obtain rfl := z a; obtain rfl := z2 b; obtain rfl := z3 c
    replace h1 : decide (l.length ≤ 255) = true := h1
    exact .tup l (of_decide_eq_true h1)
  by_cases k8 : k = 8
  · subst k8
    simp [zeroF, bareF, usesL] at h2 h3
    obtain ⟨rfl, rfl, a, b, rfl, c, rfl⟩ := h2
    obtain rfl := z a; obtain rfl := z2 b; obtain rfl := z3 c
    subst h3
    exact .nil
  by_cases k9 : k = 9
  · subst k9
    simp [zeroF, bareF, usesL] at h2 h3
    obtain ⟨rfl, rfl, a, b, rfl, c, rfl⟩ := h2
    obtain rfl := z a; obtain rfl := z2 b; obtain rfl := z3 c
    exact .list l (okF_nine h1 rfl)
  by_cases k10 : k = 10
  · subst k10
    simp [zeroF, bareF, usesL] at h2 h3
    obtain ⟨rfl, rfl, a, b, rfl, _⟩ := h2
    obtain rfl := z a; obtain rfl := z2 b
    subst h3
    exact .bits bs bt h1
  · simp [okF, k1, k2, k3, k4, k5, k6, k7, k8, k9, k10] at h1
theorem cnt_pos : ∀ t, 1 ≤ cnt t
  | .mk f l => by rw [cnt]; omega
theorem cntL_len : ∀ l, l.length ≤ cntL l
  | [] => Nat.le_refl _
  | t :: r => by
    have := cnt_pos t
    have := cntL_len r
    rw [cntL, List.length_cons]
    omega
mutual
/-- A well-formed term has no more parts than its size. -/
theorem cnt_size : ∀ t, formed t = true → cnt t ≤ sizeT t
  | .mk f l, h => by
    rw [formed, Bool.and_eq_true] at h
    have := cntL_size l h.2
    rw [cnt, sizeT]
    have : 1 ≤ sizeO f l.length := by
      unfold sizeO
      split
      · rename_i h9
        have := okF_nine (f := f) (l := l) (by unfold ownB at h; rw [Bool.and_eq_true] at h; exact h.1.1) h9
        omega
      · split <;> omega
    omega
theorem cntL_size : ∀ l, formedL l = true → cntL l ≤ sizeL l
  | [], _ => by rw [cntL, sizeL]; exact Nat.le_refl _
  | t :: r, h => by
    rw [formedL, Bool.and_eq_true] at h
    have := cnt_size t h.1
    have := cntL_size r h.2
    rw [cntL, sizeL]
    omega
end
theorem head_back {f : Fl} {l : List Tm} (h : Shape f l) (hfit : fitF f) (T : Nat → List UInt8 → Pr Tm) (p : Nat) (m : List UInt8) (hp : p + cntL l ≤ 2000)
    (hl : ∀ r, itemsP T l.length p (codeL l ++ r) = some (l, p + cntL l, r)) : bodyP T p (headB f l.length ++ codeL l ++ m) = some (.mk f l, p + cntL l, m) := by
  have hlen := cntL_len l
  have hIQ : ∀ n r, n = l.length → itemsQ T n p (codeL l ++ r) = some (l, p + cntL l, r) := by
    rintro n r rfl
    unfold itemsQ
    rw [if_pos (by omega), hl]
  rw [List.append_assoc]
  cases h with
  | int n => exact int_back T p n hfit.2.2.1 m
  | atom s h =>
    have := nameF_size s h
    show bodyP T p (119 :: u8 s.size :: (s.data.toList ++ m)) = _
    rw [body_cons T p _ 119 rfl, tag_119]
    unfold p119
    rw [numP_u8]
    dsimp only
    rw [takeL_app _ _ _ (by simp; omega)]
    dsimp only
    rw [bA_list]
    rfl
  | ref n g s hn hg h =>
    have := nameF_size s h
    have e : headB ⟨3, n, g, s, noB, 0, noB, 0⟩ ([] : List Tm).length = 90 :: ([0, 1] ++ (atomB s ++ (num4 g ++ num4 n))) := by simp [headB]
    rw [e, codeL, List.nil_append, List.cons_append, List.append_assoc]
    rw [body_cons T p _ 90 rfl, tag_90]
    unfold p90
    rw [numP_app _ _ 2 rfl]
    dsimp only
    rw [if_pos (show beN [0, 1] = 1 from rfl), List.append_assoc, List.append_assoc, nameP_app s (by omega)]
    dsimp only
    rw [numP_num4]
    dsimp only
    rw [numP_num4]
    dsimp only
    rw [bA_list, show (((g % 4294967296).toNat : Nat) : Int) = g by omega, show (((n % 4294967296).toNat : Nat) : Int) = n by omega]
    rfl
  | clo n g s a l hn hg h ha hl2 =>
    have := nameF_size s h
    show bodyP T p (112 :: u8 a :: ((num2 n ++ (u8 l.length :: (atomB s ++ num4 g))) ++ (codeL l ++ m))) = _
    rw [body_cons T p _ 112 rfl, tag_112]
    unfold p112
    rw [numP_u8]
    dsimp only
    rw [List.append_assoc, numP_num2]
    dsimp only
    rw [List.cons_append, numP_u8]
    dsimp only
    rw [List.append_assoc, nameP_app s (by omega)]
    dsimp only
    rw [numP_num4]
    dsimp only
    rw [hIQ _ m (by omega)]
    dsimp only
    rw [bA_list, show (((g % 4294967296).toNat : Nat) : Int) = g by omega, show (((n % 65536).toNat : Nat) : Int) = n by omega, show (((a % 256).toNat : Nat) : Int) = a by omega]
  | exp s f a h h2 ha =>
    have := nameF_size s h
    have := nameF_size f h2
    have ia : intB a = [97, u8 a] := by unfold intB; rw [if_pos (by omega)]
    show bodyP T p (113 :: ((atomB s ++ (atomB f ++ intB a)) ++ m)) = _
    rw [body_cons T p _ 113 rfl, tag_113]
    unfold p113
    rw [List.append_assoc, nameP_app s (by omega)]
    dsimp only
    rw [List.append_assoc, nameP_app f (by omega)]
    dsimp only
    rw [ia, List.cons_append, List.singleton_append, numP_cons]
    dsimp only
    rw [if_pos (show (97 : UInt8).toNat = 97 from rfl), numP_u8]
    dsimp only
    rw [bA_list, bA_list, show (((a % 256).toNat : Nat) : Int) = a by omega]
    rfl
  | pid n g s hn hg h =>
    have := nameF_size s h
    show bodyP T p (88 :: ((atomB s ++ (num4 n ++ (num4 0 ++ num4 g))) ++ m)) = _
    rw [body_cons T p _ 88 rfl, tag_88]
    unfold p88
    rw [List.append_assoc, nameP_app s (by omega)]
    dsimp only
    rw [List.append_assoc, numP_num4]
    dsimp only
    rw [List.append_assoc, numP_num4]
    dsimp only
    rw [if_pos (by decide), numP_num4]
    dsimp only
    rw [bA_list, show (((g % 4294967296).toNat : Nat) : Int) = g by omega, show (((n % 4294967296).toNat : Nat) : Int) = n by omega]
    rfl
  | tup l hl2 =>
    show bodyP T p (104 :: u8 l.length :: (codeL l ++ m)) = _
    rw [body_cons T p _ 104 rfl, tag_104]
    unfold p104
    rw [numP_u8]
    dsimp only
    rw [hIQ _ m (by omega)]
  | nil => rfl
  | list l hl2 =>
    show bodyP T p (108 :: (num4 ((l.length : Int) - 1) ++ (codeL l ++ m))) = _
    rw [body_cons T p _ 108 rfl, tag_108]
    unfold p108
    rw [numP_num4]
    dsimp only
    rw [hIQ _ m (by omega)]
  | bits s bt h =>
    unfold bitsB at h
    rw [Bool.and_eq_true, Bool.and_eq_true, decide_eq_true_eq] at h
    obtain ⟨hb, hs, _⟩ := h
    have hb := inB_iff hb
    by_cases h8 : bt % 8 = 0
    · have e : headB ⟨10, 0, 0, noB, noB, 0, s, bt⟩ 0 = 109 :: (num4 s.size ++ s.data.toList) := by simp [headB, h8]
      show bodyP T p (headB ⟨10, 0, 0, noB, noB, 0, s, bt⟩ 0 ++ m) = _
      rw [e]
      show bodyP T p (109 :: (num4 s.size ++ s.data.toList ++ m)) = _
      rw [body_cons T p _ 109 rfl, tag_109]
      unfold p109
      rw [List.append_assoc, numP_num4]
      dsimp only
      rw [takeL_app _ _ _ (by simp; omega)]
      dsimp only
      rw [bA_list, show 8 * ((s.data.toList.length : Nat) : Int) = bt by simp; omega]
      rfl
    · have e : headB ⟨10, 0, 0, noB, noB, 0, s, bt⟩ 0 = 77 :: (num4 s.size ++ (u8 (bt % 8) :: s.data.toList)) := by simp [headB, h8]
      show bodyP T p (headB ⟨10, 0, 0, noB, noB, 0, s, bt⟩ 0 ++ m) = _
      rw [e]
      show bodyP T p (77 :: (num4 s.size ++ (u8 (bt % 8) :: s.data.toList) ++ m)) = _
      rw [body_cons T p _ 77 rfl, tag_77]
      unfold p77
      rw [List.append_assoc, numP_num4]
      dsimp only
      rw [List.cons_append, numP_u8]
      dsimp only
      rw [if_pos (by omega), takeL_app _ _ _ (by simp; omega)]
      dsimp only
      rw [bA_list, show 8 * (((((s.size : Nat) : Int) % 4294967296).toNat : Int) - 1) + ((bt % 8 % 256).toNat : Int) = bt by omega]
      rfl
mutual
/-- What is encoded is taken back, whatever follows. -/
theorem term_back : ∀ t, formed t = true → fitT t → ∀ d p m, p + cnt t ≤ 2000 → cnt t ≤ d → termP d p (codeT t ++ m) = some (t, p + cnt t, m)
  | .mk f l, h, hf, d, p, m, hp, hd => by
    rw [formed, Bool.and_eq_true] at h
    rw [fitT] at hf
    rw [cnt] at hp hd ⊢
    obtain ⟨e, rfl⟩ : ∃ e, d = e + 1 := ⟨d - 1, by omega⟩
    rw [termP, if_pos (by omega), codeT, head_back (shape h.1) hf.1 _ _ _ (by omega) (fun r => items_back l h.2 hf.2 e (p + 1) r (by omega) (by omega))]
    rw [Nat.add_assoc]
theorem items_back : ∀ l, formedL l = true → fitL l → ∀ d p m, p + cntL l ≤ 2000 → cntL l ≤ d → itemsP (termP d) l.length p (codeL l ++ m) = some (l, p + cntL l, m)
  | [], _, _, d, p, m, _, _ => by
    rw [List.length_nil, itemsP, codeL, cntL]
    rfl
  | t :: r, h, hf, d, p, m, hp, hd => by
    rw [formedL, Bool.and_eq_true] at h
    rw [fitL] at hf
    rw [cntL] at hp hd ⊢
    rw [List.length_cons, itemsP, codeL, List.append_assoc, term_back t h.1 hf.1 d p _ (by omega) (by omega)]
    dsimp only
    rw [items_back r h.2 hf.2 d (p + cnt t) m (by omega) (by omega)]
    dsimp only
    rw [Nat.add_assoc]
end
end Go.Proofs.YtoaimoemaoinhaaGreatDoor
