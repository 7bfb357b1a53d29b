/- A string that is in the store with a count: what Put, Keep, Count, Get and Drop do to it; and once it is gone. -/
import Derived.Test.YtfgnagnnmibmaaaLarge
namespace Go.Proofs.Ytfgnagnnmibmaaa
open Go.RowKit Go.Mp

def Has (L : List Blob) (id : Int) (s : ByteArray) (c : Int) : Prop := ∃ (m : Nat) (hm : m < L.length), L[m] = (id, s, c)
def hadK (L : List Blob) (s : ByteArray) (k : Nat) : Int := (L.take k).foldl (fun h b => if b.2.1 = s then b.2.2 else h) 0

theorem hadK_succ (L : List Blob) (s : ByteArray) (k : Nat) (hk : k < L.length) : hadK L s (k + 1) = if L[k].2.1 = s then L[k].2.2 else hadK L s k := by
  unfold hadK
  rw [List.take_succ_eq_append_getElem hk, List.foldl_append]
  rfl
theorem hadK_no (L : List Blob) (s : ByteArray) (k : Nat) (h : ∀ j (hj : j < L.length), L[j].2.1 ≠ s) : hadK L s k = 0 := by
  induction k with
  | zero => simp [hadK]
  | succ k ih =>
    by_cases hk : k < L.length
    · rw [hadK_succ L s k hk, if_neg (h k hk), ih]
    · unfold hadK at *; rw [List.take_of_length_le (by omega)] at *; exact ih
theorem inj_of_nodup {A : Type} {l : List A} (hd : l.Nodup) (i j : Nat) (hi : i < l.length) (hj : j < l.length) (h : l[i] = l[j]) : i = j := by
  rcases Nat.lt_trichotomy i j with hlt | rfl | hlt
  · exact absurd h (List.pairwise_iff_getElem.1 hd i j hi hj hlt)
  · rfl
  · exact absurd h.symm (List.pairwise_iff_getElem.1 hd j i hj hi hlt)
theorem nodup_at {L : List Blob} (hd : (L.map (fun b => b.2.1)).Nodup) (i j : Nat) (hi : i < L.length) (hj : j < L.length) (h : L[i].2.1 = L[j].2.1) : i = j :=
  inj_of_nodup hd i j (by simpa using hi) (by simpa using hj) (by simpa using h)
theorem hadK_at (L : List Blob) (s : ByteArray) (m : Nat) (hm : m < L.length) (hs : L[m].2.1 = s) (hd : (L.map (fun b => b.2.1)).Nodup) (k : Nat) : hadK L s k = if m < k then L[m].2.2 else 0 := by
  induction k with
  | zero => simp [hadK]
  | succ k ih =>
    by_cases hk : k < L.length
    · rw [hadK_succ L s k hk]
      by_cases e : L[k].2.1 = s
      · have : k = m := nodup_at hd k m hk hm (e.trans hs.symm)
        subst this
        rw [if_pos e, if_pos (by omega)]
      · rw [if_neg e, ih]
        have : k ≠ m := by rintro rfl; exact e hs
        by_cases hmk : m < k
        · rw [if_pos hmk, if_pos (by omega)]
        · rw [if_neg hmk, if_neg (by omega)]
    · have e1 : hadK L s (k + 1) = hadK L s k := by unfold hadK; rw [List.take_of_length_le (by omega), List.take_of_length_le (by omega)]
      rw [e1, ih, if_pos (by omega), if_pos (by omega)]
theorem hadK_bd {L : List Blob} {g : Int} {n : Nat} (hi : Inv L g n) (s : ByteArray) (k : Nat) : 0 ≤ hadK L s k ∧ hadK L s k ≤ n := by
  induction k with
  | zero => simp [hadK]
  | succ k ih =>
    by_cases hk : k < L.length
    · rw [hadK_succ L s k hk]
      have := hi.each _ (List.getElem_mem hk)
      split <;> omega
    · have e1 : hadK L s (k + 1) = hadK L s k := by unfold hadK; rw [List.take_of_length_le (by omega), List.take_of_length_le (by omega)]
      rw [e1]; exact ih

/-- The store holds s under id with count c. -/
structure Ph (n0 : Nat) (w : World) (B m1 m2 : Nat) (id : Int) (s : ByteArray) (c : Int) (n : Nat) : Prop where
  ex : ∃ L g, SL w B m1 m2 L g ∧ Inv L g n ∧ Has L id s c ∧ id ≤ g
  b0 : n0 ≤ B
  b1 : n0 ≤ m1
  b2 : n0 ≤ m2
  z0 : n0 ≤ w.heap.size
/-- The store holds neither s nor anything under id, which was given. -/
structure Gn (n0 : Nat) (w : World) (B m1 m2 : Nat) (id : Int) (s : ByteArray) (n : Nat) : Prop where
  ex : ∃ L g, SL w B m1 m2 L g ∧ Inv L g n ∧ (∀ j (hj : j < L.length), L[j].1 ≠ id) ∧ (∀ j (hj : j < L.length), L[j].2.1 ≠ s) ∧ id ≤ g
  b0 : n0 ≤ B
  b1 : n0 ≤ m1
  b2 : n0 ≤ m2
  z0 : n0 ≤ w.heap.size

theorem only_below {n0 B m1 m2 : Nat} {w w' : World} (ho : Only [B, m1, m2] w w') (b0 : n0 ≤ B) (b1 : n0 ≤ m1) (b2 : n0 ≤ m2) (z0 : n0 ≤ w.heap.size) : Below n0 w w' := ho.below (by simp; omega) z0

theorem ids_inj {L : List Blob} {g : Int} {n : Nat} (h : Inv L g n) (i j : Nat) (hi : i < L.length) (hj : j < L.length) (e : L[i].1 = L[j].1) : i = j :=
  inj_of_nodup h.idsN i j (by simpa using hi) (by simpa using hj) (by simpa [fE] using e)

section
variable {n0 B m1 m2 n : Nat} {id : Int} {s : ByteArray} {c : Int}
/-- The first Put. -/
theorem first_put (w : World) {L : List Blob} {g : Int} (h : SL w B m1 m2 L g) (hi : Inv L g n) (hn : n ≤ 100000) (hs : s.size ≤ 2048) (b0 : n0 ≤ B) (b1 : n0 ≤ m1) (b2 : n0 ≤ m2) (z0 : n0 ≤ w.heap.size) :
    Calls Try.prog 13 #[.pointer (some ⟨B, 0, none⟩), .string s] w fun e w' => ∃ id : Int, e = .returned (.tuple #[.int .i64 id, .int .i64 0]) ∧ 0 ≤ id ∧ id ≤ 1000000 ∧ Ph n0 w' B m1 m2 id s (hadK L s L.length + 1) (n + 1) ∧ Below n0 w w' := by
  have hI := inv_put hi s
  have hg0 := hi.g0
  have hg1 := hi.g1
  refine (real_put w h hi (by omega) s (by omega)).mono fun e w' ⟨h1, h2, h3⟩ => ?_
  have hz := h3.size
  rcases put_cases L g s with ⟨hlong, _⟩ | ⟨_, m, hm, hms, hfirst, e0⟩ | ⟨_, hno, e0⟩
  · omega
  · rw [e0] at h1 h2 hI
    have hb := hi.each _ (List.getElem_mem hm)
    refine ⟨L[m].1, h1, by omega, by omega, ⟨⟨_, _, h2, hI, ⟨m, by simpa using hm, ?_⟩, show L[m].1 ≤ g by omega⟩, b0, b1, b2, by omega⟩, only_below h3 b0 b1 b2 z0⟩
    rw [hadK_at L s m hm hms hi.strs, if_pos hm]
    simp [hms]
  · rw [e0] at h1 h2 hI
    refine ⟨g + 1, h1, by omega, by omega, ⟨⟨_, _, h2, hI, ⟨L.length, by simp, ?_⟩, show g + 1 ≤ g + 1 by omega⟩, b0, b1, b2, by omega⟩, only_below h3 b0 b1 b2 z0⟩
    rw [hadK_no L s _ hno]
    simp

theorem ph_put (w : World) (h : Ph n0 w B m1 m2 id s c n) (hn : n ≤ 100000) (hs : s.size ≤ 2048) :
    Calls Try.prog 13 #[.pointer (some ⟨B, 0, none⟩), .string s] w fun e w' => e = .returned (.tuple #[.int .i64 id, .int .i64 0]) ∧ Ph n0 w' B m1 m2 id s (c + 1) (n + 1) ∧ Below n0 w w' := by
  obtain ⟨⟨L, g, hS, hi, ⟨m, hm, he⟩, hg⟩, b0, b1, b2, z0⟩ := h
  have hI := inv_put hi s
  refine (real_put w hS hi (by omega) s (by omega)).mono fun e w' ⟨h1, h2, h3⟩ => ?_
  have hz := h3.size
  have hms : L[m].2.1 = s := by rw [he]
  rcases put_cases L g s with ⟨hlong, _⟩ | ⟨_, k, hk, hks, _, e0⟩ | ⟨_, hno, e0⟩
  · omega
  · obtain rfl : k = m := nodup_at hi.strs k m hk hm (hks.trans hms.symm)
    rw [e0] at h1 h2 hI
    rw [he] at h1 h2 hI
    exact ⟨h1, ⟨⟨_, _, h2, hI, ⟨k, by simpa using hk, by simp⟩, hg⟩, b0, b1, b2, by omega⟩, only_below h3 b0 b1 b2 z0⟩
  · exact absurd hms (hno m hm)

theorem ph_keep (w : World) (h : Ph n0 w B m1 m2 id s c n) (hn : n ≤ 100000) :
    Calls Try.prog 14 #[.pointer (some ⟨B, 0, none⟩), .int .i64 id] w fun e w' => e = .returned (.int .i64 0) ∧ Ph n0 w' B m1 m2 id s (c + 1) (n + 1) ∧ Below n0 w w' := by
  obtain ⟨⟨L, g, hS, hi, ⟨m, hm, he⟩, hg⟩, b0, b1, b2, z0⟩ := h
  have hI := inv_ch hi id 1 (by omega)
  refine (real_keep w hS hi (by omega) id).mono fun e w' ⟨h1, h2, h3⟩ => ?_
  have hz := h3.size
  have hmi : L[m].1 = id := by rw [he]
  rcases ch_cases L id 1 with ⟨hno, _, e0⟩ | ⟨k, hk, hki, _, ⟨hp, e0⟩ | ⟨hp, e0⟩⟩
  · exact absurd hmi (hno m hm)
  · obtain rfl : k = m := ids_inj hi k m hk hm (hki.trans hmi.symm)
    rw [e0] at h1 h2 hI
    rw [he] at h2 hI
    exact ⟨h1, ⟨⟨_, _, h2, hI, ⟨k, by simpa using hk, by simp⟩, hg⟩, b0, b1, b2, by omega⟩, only_below h3 b0 b1 b2 z0⟩
  · have := hi.each _ (List.getElem_mem hk)
    omega

theorem ph_drop (w : World) (h : Ph n0 w B m1 m2 id s c n) (hn : n ≤ 100000) (hc : 2 ≤ c) :
    Calls Try.prog 17 #[.pointer (some ⟨B, 0, none⟩), .int .i64 id] w fun e w' => e = .returned (.int .i64 0) ∧ Ph n0 w' B m1 m2 id s (c - 1) (n + 1) ∧ Below n0 w w' := by
  obtain ⟨⟨L, g, hS, hi, ⟨m, hm, he⟩, hg⟩, b0, b1, b2, z0⟩ := h
  have hI := inv_ch hi id (-1) (by omega)
  refine (real_drop w hS hi (by omega) id).mono fun e w' ⟨h1, h2, h3⟩ => ?_
  have hz := h3.size
  have hmi : L[m].1 = id := by rw [he]
  have hmc : L[m].2.2 = c := by rw [he]
  rcases ch_cases L id (-1) with ⟨hno, _, e0⟩ | ⟨k, hk, hki, _, ⟨hp, e0⟩ | ⟨hp, e0⟩⟩
  · exact absurd hmi (hno m hm)
  · obtain rfl : k = m := ids_inj hi k m hk hm (hki.trans hmi.symm)
    rw [e0] at h1 h2 hI
    rw [he] at h2 hI
    exact ⟨h1, ⟨⟨_, _, h2, hI, ⟨k, by simpa using hk, by simp; omega⟩, hg⟩, b0, b1, b2, by omega⟩, only_below h3 b0 b1 b2 z0⟩
  · obtain rfl : k = m := ids_inj hi k m hk hm (hki.trans hmi.symm)
    omega

theorem ph_last (w : World) (h : Ph n0 w B m1 m2 id s c n) (hn : n ≤ 100000) (hc : c = 1) :
    Calls Try.prog 17 #[.pointer (some ⟨B, 0, none⟩), .int .i64 id] w fun e w' => e = .returned (.int .i64 0) ∧ Gn n0 w' B m1 m2 id s (n + 1) ∧ Below n0 w w' := by
  obtain ⟨⟨L, g, hS, hi, ⟨m, hm, he⟩, hg⟩, b0, b1, b2, z0⟩ := h
  have hI := inv_ch hi id (-1) (by omega)
  refine (real_drop w hS hi (by omega) id).mono fun e w' ⟨h1, h2, h3⟩ => ?_
  have hz := h3.size
  have hmi : L[m].1 = id := by rw [he]
  have hmc : L[m].2.2 = c := by rw [he]
  have hms : L[m].2.1 = s := by rw [he]
  rcases ch_cases L id (-1) with ⟨hno, _, e0⟩ | ⟨k, hk, hki, _, ⟨hp, e0⟩ | ⟨hp, e0⟩⟩
  · exact absurd hmi (hno m hm)
  · obtain rfl : k = m := ids_inj hi k m hk hm (hki.trans hmi.symm)
    omega
  · obtain rfl : k = m := ids_inj hi k m hk hm (hki.trans hmi.symm)
    rw [e0] at h1 h2 hI
    have other : ∀ j (hj : j < (L.eraseIdx k).length), ∃ (i : Nat) (hi' : i < L.length), i ≠ k ∧ (L.eraseIdx k)[j] = L[i] := by
      intro j hj
      have hmem : (L.eraseIdx k)[j] ∈ L.eraseIdx k := List.getElem_mem hj
      obtain ⟨i, hne, hi'⟩ := List.mem_eraseIdx_iff_getElem?.1 hmem
      obtain ⟨hl, e⟩ := List.getElem?_eq_some_iff.1 hi'
      exact ⟨i, hl, hne, e.symm⟩
    refine ⟨h1, ⟨⟨_, _, h2, hI, ?_, ?_, hg⟩, b0, b1, b2, by omega⟩, only_below h3 b0 b1 b2 z0⟩
    · intro j hj e
      obtain ⟨i, hi', hne, e'⟩ := other j hj
      rw [e'] at e
      exact hne (ids_inj hi i k hi' hk (e.trans hmi.symm))
    · intro j hj e
      obtain ⟨i, hi', hne, e'⟩ := other j hj
      rw [e'] at e
      exact hne (nodup_at hi.strs i k hi' hk (e.trans hms.symm))

theorem ph_count (w : World) (h : Ph n0 w B m1 m2 id s c n) :
    Calls Try.prog 15 #[.pointer (some ⟨B, 0, none⟩), .int .i64 id] w fun e w' => e = .returned (.int .i64 c) ∧ w = w' := by
  obtain ⟨⟨L, g, hS, hi, ⟨m, hm, he⟩, hg⟩, _⟩ := h
  have g2 := get_at fE L m hm hi.idsN
  rw [he] at g2
  have := count_any w hS id
  rw [show Mp.get (L.map fE) id = some (s, c) from g2] at this
  exact this
theorem ph_get (w : World) (h : Ph n0 w B m1 m2 id s c n) :
    Calls Try.prog 16 #[.pointer (some ⟨B, 0, none⟩), .int .i64 id] w fun e w' => e = .returned (.tuple #[.string s, .bool true]) ∧ Ph n0 w' B m1 m2 id s c n ∧ Below n0 w w' := by
  obtain ⟨⟨L, g, hS, hi, ⟨m, hm, he⟩, hg⟩, b0, b1, b2, z0⟩ := h
  have g2 := get_at fE L m hm hi.idsN
  rw [he] at g2
  have := get_any w hS id
  rw [show Mp.get (L.map fE) id = some (s, c) from g2] at this
  refine this.mono fun e w' ⟨h1, h2⟩ => ⟨h1, ⟨⟨L, g, SA.below hS h2, hi, ⟨m, hm, he⟩, hg⟩, b0, b1, b2, ?_⟩, h2.mono z0⟩
  have := h2.size
  omega

theorem gn_get (w : World) (h : Gn n0 w B m1 m2 id s n) :
    Calls Try.prog 16 #[.pointer (some ⟨B, 0, none⟩), .int .i64 id] w fun e w' => e = .returned (.tuple #[.string ByteArray.empty, .bool false]) ∧ Gn n0 w' B m1 m2 id s n ∧ Below n0 w w' := by
  obtain ⟨⟨L, g, hS, hi, hid, hno, hg⟩, b0, b1, b2, z0⟩ := h
  have g2 := get_no fE id L (mem_at (q := fun b : Blob => b.1 ≠ id) hid)
  have := get_any w hS id
  rw [g2] at this
  refine this.mono fun e w' ⟨h1, h2⟩ => ⟨h1, ⟨⟨L, g, SA.below hS h2, hi, hid, hno, hg⟩, b0, b1, b2, ?_⟩, h2.mono z0⟩
  have := h2.size
  omega
theorem gn_count (w : World) (h : Gn n0 w B m1 m2 id s n) :
    Calls Try.prog 15 #[.pointer (some ⟨B, 0, none⟩), .int .i64 id] w fun e w' => e = .returned (.int .i64 0) ∧ w = w' := by
  obtain ⟨⟨L, g, hS, hi, hid, hno, hg⟩, b0, b1, b2, z0⟩ := h
  have g2 := get_no fE id L (mem_at (q := fun b : Blob => b.1 ≠ id) hid)
  have := count_any w hS id
  rw [g2] at this
  exact this
theorem gn_ch {d : Int} (hd : d ≤ 1) {w w' : World} {L : List Blob} {g : Int} (hid : ∀ j (hj : j < L.length), L[j].1 ≠ id) : chF L id d = (4, L) := by
  rcases ch_cases L id d with ⟨_, _, e0⟩ | ⟨k, hk, hki, _⟩
  · exact e0
  · exact absurd hki (hid k hk)
theorem gn_keep (w : World) (h : Gn n0 w B m1 m2 id s n) (hn : n ≤ 100000) :
    Calls Try.prog 14 #[.pointer (some ⟨B, 0, none⟩), .int .i64 id] w fun e w' => e = .returned (.int .i64 4) ∧ Gn n0 w' B m1 m2 id s n ∧ Below n0 w w' := by
  obtain ⟨⟨L, g, hS, hi, hid, hno, hg⟩, b0, b1, b2, z0⟩ := h
  refine (real_keep w hS hi (by omega) id).mono fun e w' ⟨h1, h2, h3⟩ => ?_
  have hz := h3.size
  rw [gn_ch (w := w) (w' := w') (g := g) (d := 1) (by omega) hid] at h1 h2
  exact ⟨h1, ⟨⟨L, g, h2, hi, hid, hno, hg⟩, b0, b1, b2, by omega⟩, only_below h3 b0 b1 b2 z0⟩
theorem gn_drop (w : World) (h : Gn n0 w B m1 m2 id s n) (hn : n ≤ 100000) :
    Calls Try.prog 17 #[.pointer (some ⟨B, 0, none⟩), .int .i64 id] w fun e w' => e = .returned (.int .i64 4) ∧ Gn n0 w' B m1 m2 id s n ∧ Below n0 w w' := by
  obtain ⟨⟨L, g, hS, hi, hid, hno, hg⟩, b0, b1, b2, z0⟩ := h
  refine (real_drop w hS hi (by omega) id).mono fun e w' ⟨h1, h2, h3⟩ => ?_
  have hz := h3.size
  rw [gn_ch (w := w) (w' := w') (g := g) (d := -1) (by omega) hid] at h1 h2
  exact ⟨h1, ⟨⟨L, g, h2, hi, hid, hno, hg⟩, b0, b1, b2, by omega⟩, only_below h3 b0 b1 b2 z0⟩
/-- Put again: a new id, with the count 1; the elder id stays unknown. -/
theorem gn_put (w : World) (h : Gn n0 w B m1 m2 id s n) (hn : n ≤ 100000) (hs : s.size ≤ 2048) :
    Calls Try.prog 13 #[.pointer (some ⟨B, 0, none⟩), .string s] w fun e w' => ∃ next : Int, e = .returned (.tuple #[.int .i64 next, .int .i64 0]) ∧ id < next ∧ next ≤ 1000000 ∧ Ph n0 w' B m1 m2 next s 1 (n + 1) ∧
      (Calls Try.prog 15 #[.pointer (some ⟨B, 0, none⟩), .int .i64 id] w' fun e w'' => e = .returned (.int .i64 0) ∧ w' = w'') ∧ Below n0 w w' := by
  obtain ⟨⟨L, g, hS, hi, hid, hno, hg⟩, b0, b1, b2, z0⟩ := h
  have hI := inv_put hi s
  have hg1 := hi.g1
  refine (real_put w hS hi (by omega) s (by omega)).mono fun e w' ⟨h1, h2, h3⟩ => ?_
  have hz := h3.size
  rcases put_cases L g s with ⟨hlong, _⟩ | ⟨_, k, hk, hks, _, e0⟩ | ⟨_, _, e0⟩
  · omega
  · exact absurd hks (hno k hk)
  · rw [e0] at h1 h2 hI
    refine ⟨g + 1, h1, by omega, by omega, ⟨⟨_, _, h2, hI, ⟨L.length, by simp, by simp⟩, show g + 1 ≤ g + 1 by omega⟩, b0, b1, b2, by omega⟩, ?_, only_below h3 b0 b1 b2 z0⟩
    have g2 := get_no fE id (L ++ [(g + 1, s, 1)]) (fun b hb => by
      simp only [List.mem_append, List.mem_singleton] at hb
      rcases hb with hb | rfl
      · obtain ⟨j, hj, rfl⟩ := List.getElem_of_mem hb; exact hid j hj
      · show g + 1 ≠ id; omega)
    have := count_any w' h2 id
    rw [g2] at this
    exact this
end

end Go.Proofs.Ytfgnagnnmibmaaa
