/- The plain model of a store: a list of (id, string, count), and what Put, Keep and Drop make of it. -/
import Derived.Test.YtfgnagnnmibmaaaRefb
namespace Go.Proofs.Ytfgnagnnmibmaaa
open Go.RowKit Go.Mp

section
variable {K V A : Type} [DecidableEq K]
theorem get_at (f : A → K × V) : ∀ (L : List A) (m : Nat) (hm : m < L.length), (L.map (fun b => (f b).1)).Nodup → Mp.get (L.map f) (f L[m]).1 = some (f L[m]).2
  | [], m, hm, _ => by simp at hm
  | b :: r, 0, _, _ => by simp [Mp.get]
  | b :: r, m + 1, hm, hd => by
    simp only [List.map_cons, List.nodup_cons] at hd
    have hml : m < r.length := by simpa using hm
    have hne : (f b).1 ≠ (f r[m]).1 := fun e => hd.1 (by rw [e]; exact List.mem_map_of_mem (f := fun b => (f b).1) (List.getElem_mem hml))
    simp only [List.map_cons, List.getElem_cons_succ]
    rw [show f b = ((f b).1, (f b).2) from rfl, Mp.get, if_neg hne]
    exact get_at f r m hml hd.2
theorem put_at (f : A → K × V) (v : V) : ∀ (L : List A) (m : Nat) (hm : m < L.length), (L.map (fun b => (f b).1)).Nodup → Mp.put (L.map f) (f L[m]).1 v = (L.map f).set m ((f L[m]).1, v)
  | [], m, hm, _ => by simp at hm
  | b :: r, 0, _, _ => by simp [Mp.put]
  | b :: r, m + 1, hm, hd => by
    simp only [List.map_cons, List.nodup_cons] at hd
    have hml : m < r.length := by simpa using hm
    have hne : (f b).1 ≠ (f r[m]).1 := fun e => hd.1 (by rw [e]; exact List.mem_map_of_mem (f := fun b => (f b).1) (List.getElem_mem hml))
    simp only [List.map_cons, List.getElem_cons_succ, List.set_cons_succ]
    rw [show f b = ((f b).1, (f b).2) from rfl, Mp.put, if_neg hne, put_at f v r m hml hd.2]
theorem del_at (f : A → K × V) : ∀ (L : List A) (m : Nat) (hm : m < L.length), (L.map (fun b => (f b).1)).Nodup → Mp.del (L.map f) (f L[m]).1 = (L.map f).eraseIdx m
  | [], m, hm, _ => by simp at hm
  | b :: r, 0, _, _ => by simp [Mp.del]
  | b :: r, m + 1, hm, hd => by
    simp only [List.map_cons, List.nodup_cons] at hd
    have hml : m < r.length := by simpa using hm
    have hne : (f b).1 ≠ (f r[m]).1 := fun e => hd.1 (by rw [e]; exact List.mem_map_of_mem (f := fun b => (f b).1) (List.getElem_mem hml))
    simp only [List.map_cons, List.getElem_cons_succ, List.eraseIdx_cons_succ]
    rw [show f b = ((f b).1, (f b).2) from rfl, Mp.del, if_neg hne, del_at f r m hml hd.2]
theorem get_no (f : A → K × V) (k : K) : ∀ (L : List A), (∀ b ∈ L, (f b).1 ≠ k) → Mp.get (L.map f) k = none
  | [], _ => rfl
  | b :: r, h => by
    rw [List.map_cons, show f b = ((f b).1, (f b).2) from rfl, Mp.get, if_neg (h b (by simp))]
    exact get_no f k r (fun x hx => h x (by simp [hx]))
theorem put_no (f : A → K × V) (k : K) (v : V) (L : List A) (h : ∀ b ∈ L, (f b).1 ≠ k) : Mp.put (L.map f) k v = L.map f ++ [(k, v)] := Mp.put_none _ _ _ (get_no f k L h)
end

def fI (b : Blob) : ByteArray × Int := (b.2.1, b.1)
def fE (b : Blob) : Int × (ByteArray × Int) := (b.1, (b.2.1, b.2.2))
def totL (L : List Blob) : Int := (L.map (fun b => (b.2.1.size : Int))).sum
theorem totL_snoc (L : List Blob) (b : Blob) : totL (L ++ [b]) = totL L + b.2.1.size := by simp [totL]
theorem totL_set (L : List Blob) (m : Nat) (hm : m < L.length) (c : Int) : totL (L.set m (L[m].1, L[m].2.1, c)) = totL L := by
  induction L generalizing m with
  | nil => simp at hm
  | cons b r ih => cases m with
    | zero => simp [totL]
    | succ k => have := ih k (by simpa using hm); simp only [totL, List.set_cons_succ, List.map_cons, List.sum_cons, List.getElem_cons_succ] at *; rw [this]
theorem totL_erase (L : List Blob) (m : Nat) (hm : m < L.length) : totL (L.eraseIdx m) = totL L - L[m].2.1.size := by
  induction L generalizing m with
  | nil => simp at hm
  | cons b r ih => cases m with
    | zero => simp [totL]; omega
    | succ k => have := ih k (by simpa using hm); simp only [totL, List.eraseIdx_cons_succ, List.map_cons, List.sum_cons, List.getElem_cons_succ] at *; rw [this]; omega

/-- What holds of a store's list after at most n calls. -/
structure Inv (L : List Blob) (g : Int) (n : Nat) : Prop where
  ids : (L.map (fun b => b.1)).Pairwise (· < ·)
  strs : (L.map (fun b => b.2.1)).Nodup
  each : ∀ b ∈ L, 1 ≤ b.1 ∧ b.1 ≤ g ∧ b.2.1.size ≤ 2048 ∧ 1 ≤ b.2.2 ∧ b.2.2 ≤ n
  g0 : 0 ≤ g
  g1 : g ≤ n
  len : L.length ≤ n

theorem Inv.idsN {L : List Blob} {g : Int} {n : Nat} (h : Inv L g n) : (L.map (fun b => (fE b).1)).Nodup := h.ids.imp (fun h => by omega)
theorem Inv.mono {L : List Blob} {g : Int} {n k : Nat} (h : Inv L g n) (hk : n ≤ k) : Inv L g k :=
  ⟨h.ids, h.strs, fun b hb => by have := h.each b hb; omega, h.g0, by have := h.g1; omega, by have := h.len; omega⟩
theorem totL_bd {L : List Blob} {g : Int} {n : Nat} (h : Inv L g n) : 0 ≤ totL L ∧ totL L ≤ 2048 * L.length := by
  have : ∀ L' : List Blob, (∀ b ∈ L', b.2.1.size ≤ 2048) → 0 ≤ totL L' ∧ totL L' ≤ 2048 * L'.length := by
    intro L'
    induction L' with
    | nil => intro _; simp [totL]
    | cons b r ih =>
      intro hb
      have h1 := hb b (by simp)
      have h2 := ih (fun x hx => hb x (by simp [hx]))
      simp only [totL, List.map_cons, List.sum_cons, List.length_cons] at *
      omega
  exact this L (fun b hb => (h.each b hb).2.2.1)

def putF (L : List Blob) (g : Int) (s : ByteArray) : Int × Int × List Blob × Int :=
  if 2048 < s.size then (0, 3, L, g) else
  match L.findIdx? (fun b => decide (b.2.1 = s)) with
  | some m => match L[m]? with
    | some b => (b.1, 0, L.set m (b.1, b.2.1, b.2.2 + 1), g)
    | none => (0, 0, L, g)
  | none => (g + 1, 0, L ++ [(g + 1, s, 1)], g + 1)
def chF (L : List Blob) (id d : Int) : Int × List Blob :=
  match L.findIdx? (fun b => b.1 == id) with
  | some m => match L[m]? with
    | some b => if 0 < b.2.2 + d then (0, L.set m (b.1, b.2.1, b.2.2 + d)) else (0, L.eraseIdx m)
    | none => (0, L)
  | none => (4, L)

theorem put_cases (L : List Blob) (g : Int) (s : ByteArray) :
    (2048 < s.size ∧ putF L g s = (0, 3, L, g)) ∨
    (s.size ≤ 2048 ∧ ∃ (m : Nat) (hm : m < L.length), L[m].2.1 = s ∧ (∀ j (hj : j < L.length), j < m → L[j].2.1 ≠ s) ∧ putF L g s = (L[m].1, 0, L.set m (L[m].1, L[m].2.1, L[m].2.2 + 1), g)) ∨
    (s.size ≤ 2048 ∧ (∀ j (hj : j < L.length), L[j].2.1 ≠ s) ∧ putF L g s = (g + 1, 0, L ++ [(g + 1, s, 1)], g + 1)) := by
  by_cases hs : 2048 < s.size
  · exact .inl ⟨hs, by simp [putF, hs]⟩
  · refine .inr ?_
    cases hf : L.findIdx? (fun b => decide (b.2.1 = s)) with
    | some m =>
      obtain ⟨hm, h1, h2⟩ := List.findIdx?_eq_some_iff_getElem.1 hf
      refine .inl ⟨by omega, m, hm, by simpa using h1, fun j hj hjm => by simpa using h2 j hjm, ?_⟩
      simp [putF, hs, hf, hm]
    | none =>
      rw [List.findIdx?_eq_none_iff] at hf
      refine .inr ⟨by omega, fun j hj => by simpa using hf _ (List.getElem_mem hj), ?_⟩
      have : L.findIdx? (fun b => decide (b.2.1 = s)) = none := by rw [List.findIdx?_eq_none_iff]; exact hf
      simp [putF, hs, this]
theorem ch_cases (L : List Blob) (id d : Int) :
    ((∀ j (hj : j < L.length), L[j].1 ≠ id) ∧ findI L id = -1 ∧ chF L id d = (4, L)) ∨
    (∃ (m : Nat) (hm : m < L.length), L[m].1 = id ∧ findI L id = m ∧ ((0 < L[m].2.2 + d ∧ chF L id d = (0, L.set m (L[m].1, L[m].2.1, L[m].2.2 + d))) ∨ (L[m].2.2 + d ≤ 0 ∧ chF L id d = (0, L.eraseIdx m)))) := by
  cases hf : L.findIdx? (fun b => b.1 == id) with
  | some m =>
    obtain ⟨hm, h1, h2⟩ := List.findIdx?_eq_some_iff_getElem.1 hf
    refine .inr ⟨m, hm, by simpa using h1, by simp [findI, hf], ?_⟩
    by_cases hp : 0 < L[m].2.2 + d
    · exact .inl ⟨hp, by simp [chF, hf, hm, hp]⟩
    · exact .inr ⟨by omega, by simp [chF, hf, hm, hp]⟩
  | none =>
    have hf' := hf
    rw [List.findIdx?_eq_none_iff] at hf'
    exact .inl ⟨fun j hj => by simpa using hf' _ (List.getElem_mem hj), by simp [findI, hf], by simp [chF, hf]⟩

theorem map_set_same {A B : Type} (f : A → B) (L : List A) (m : Nat) (hm : m < L.length) (x : A) (h : f x = f L[m]) : (L.set m x).map f = L.map f := by
  rw [List.map_set, h]
  apply List.ext_getElem?
  intro i
  rw [List.getElem?_set]
  split
  · subst_vars; simp [hm]
  · rfl

theorem inv_put {L : List Blob} {g : Int} {n : Nat} (h : Inv L g n) (s : ByteArray) : Inv (putF L g s).2.2.1 (putF L g s).2.2.2 (n + 1) := by
  rcases put_cases L g s with ⟨_, e⟩ | ⟨_, m, hm, hs, _, e⟩ | ⟨hs, hno, e⟩
  · rw [e]; exact h.mono (by omega)
  · rw [e]
    simp only
    refine ⟨?_, ?_, ?_, h.g0, by have := h.g1; omega, by have := h.len; simp; omega⟩
    · rw [map_set_same (fun b : Blob => b.1) L m hm (L[m].1, L[m].2.1, L[m].2.2 + 1) rfl]; exact h.ids
    · rw [map_set_same (fun b : Blob => b.2.1) L m hm (L[m].1, L[m].2.1, L[m].2.2 + 1) rfl]; exact h.strs
    · intro b hb
      rcases List.mem_or_eq_of_mem_set hb with hb | rfl
      · have := h.each b hb; omega
      · have := h.each _ (List.getElem_mem hm); simp only; omega
  · rw [e]
    simp only
    have hg := h.g0
    refine ⟨?_, ?_, ?_, by omega, by have := h.g1; omega, by have := h.len; simp; omega⟩
    · rw [List.map_append, List.pairwise_append]
      refine ⟨h.ids, by simp, ?_⟩
      intro a ha b hb
      simp at hb
      subst hb
      simp only [List.mem_map] at ha
      obtain ⟨x, hx, rfl⟩ := ha
      have := h.each x hx
      omega
    · rw [List.map_append, List.nodup_append]
      refine ⟨h.strs, by simp, ?_⟩
      intro a ha b hb
      simp at hb
      subst hb
      simp only [List.mem_map] at ha
      obtain ⟨x, hx, rfl⟩ := ha
      obtain ⟨j, hj, rfl⟩ := List.getElem_of_mem hx
      exact hno j hj
    · intro b hb
      simp only [List.mem_append, List.mem_singleton] at hb
      rcases hb with hb | rfl
      · have := h.each b hb; omega
      · simp only; omega
theorem inv_ch {L : List Blob} {g : Int} {n : Nat} (h : Inv L g n) (id d : Int) (hd : d ≤ 1) : Inv (chF L id d).2 g (n + 1) := by
  rcases ch_cases L id d with ⟨_, _, e⟩ | ⟨m, hm, hid, _, ⟨hp, e⟩ | ⟨hp, e⟩⟩
  · rw [e]; exact h.mono (by omega)
  · rw [e]
    simp only
    refine ⟨?_, ?_, ?_, h.g0, by have := h.g1; omega, by have := h.len; simp; omega⟩
    · rw [map_set_same (fun b : Blob => b.1) L m hm (L[m].1, L[m].2.1, L[m].2.2 + d) rfl]; exact h.ids
    · rw [map_set_same (fun b : Blob => b.2.1) L m hm (L[m].1, L[m].2.1, L[m].2.2 + d) rfl]; exact h.strs
    · intro b hb
      rcases List.mem_or_eq_of_mem_set hb with hb | rfl
      · have := h.each b hb; omega
      · have := h.each _ (List.getElem_mem hm); simp only; omega
  · rw [e]
    have hsub : (L.eraseIdx m).Sublist L := List.eraseIdx_sublist _ _
    refine ⟨h.ids.sublist (hsub.map _), h.strs.sublist (hsub.map _), fun b hb => by have := h.each b (hsub.subset hb); omega, h.g0, by have := h.g1; omega, ?_⟩
    have := h.len
    have := hsub.length_le
    simp only
    omega

end Go.Proofs.Ytfgnagnnmibmaaa
