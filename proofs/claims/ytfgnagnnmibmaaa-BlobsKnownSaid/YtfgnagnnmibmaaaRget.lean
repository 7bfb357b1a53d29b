/- The rest of the two stores' queries: Bytes, and the reference's Get, Count, Bytes. -/
import Derived.Test.YtfgnagnnmibmaaaBoth
namespace Go.Proofs.Ytfgnagnnmibmaaa
open Go.RowKit Go.Mp

def getF (L : List Blob) (id : Int) : ByteArray × Bool := match L.find? (fun b => b.1 == id) with | some b => (b.2.1, true) | none => (ByteArray.empty, false)
def cntF (L : List Blob) (id : Int) : Int := match L.find? (fun b => b.1 == id) with | some b => b.2.2 | none => 0

theorem find_cases (L : List Blob) (id : Int) :
    (findI L id = -1 ∧ getF L id = (ByteArray.empty, false) ∧ cntF L id = 0 ∧ ∀ b ∈ L, b.1 ≠ id) ∨
    ∃ (m : Nat) (hm : m < L.length), findI L id = m ∧ L[m].1 = id ∧ getF L id = (L[m].2.1, true) ∧ cntF L id = L[m].2.2 := by
  cases hf : L.findIdx? (fun b => b.1 == id) with
  | some m =>
    obtain ⟨hm, h1, h2⟩ := List.findIdx?_eq_some_iff_getElem.1 hf
    have hfd : L.find? (fun b => b.1 == id) = some L[m] := by
      rw [List.find?_eq_some_iff_getElem]
      exact ⟨h1, m, hm, rfl, fun j hj => by simpa using h2 j hj⟩
    exact .inr ⟨m, hm, by simp [findI, hf], by simpa using h1, by simp [getF, hfd], by simp [cntF, hfd]⟩
  | none =>
    have hf' := List.findIdx?_eq_none_iff.1 hf
    have hfd : L.find? (fun b => b.1 == id) = none := by
      rw [List.find?_eq_none]
      intro b hb
      simpa using hf' b hb
    exact .inl ⟨by simp [findI, hf], by simp [getF, hfd], by simp [cntF, hfd], fun b hb => by simpa using hf' b hb⟩

theorem get_ents {L : List Blob} {g : Int} {n : Nat} (hi : Inv L g n) (id : Int) :
    (((get (L.map fE) id).getD (ByteArray.empty, 0)).1, (get (L.map fE) id).isSome) = getF L id ∧ ((get (L.map fE) id).getD (ByteArray.empty, 0)).2 = cntF L id := by
  rcases find_cases L id with ⟨_, e1, e2, hno⟩ | ⟨m, hm, _, hid, e1, e2⟩
  · rw [get_no fE id L hno, e1, e2]
    exact ⟨rfl, rfl⟩
  · have g2 := get_at fE L m hm hi.idsN
    rw [show (fE L[m]).1 = id from hid] at g2
    rw [g2, e1, e2]
    exact ⟨rfl, rfl⟩

theorem real_get {B m1 m2 : Nat} {L : List Blob} {g : Int} {n : Nat} (w : World) (h : SL w B m1 m2 L g) (hi : Inv L g n) (id : Int) :
    Calls Try.prog 16 #[.pointer (some ⟨B, 0, none⟩), .int .i64 id] w fun e w' => e = .returned (.tuple #[.string (getF L id).1, .bool (getF L id).2]) ∧ Below w.heap.size w w' := by
  have := get_any w h id
  have e := (get_ents hi id).1
  rw [← e]
  exact this
theorem real_count {B m1 m2 : Nat} {L : List Blob} {g : Int} {n : Nat} (w : World) (h : SL w B m1 m2 L g) (hi : Inv L g n) (id : Int) :
    Calls Try.prog 15 #[.pointer (some ⟨B, 0, none⟩), .int .i64 id] w fun e w' => e = .returned (.int .i64 (cntF L id)) ∧ w = w' := by
  have := count_any w h id
  rw [(get_ents hi id).2] at this
  exact this
theorem real_bytes {B m1 m2 : Nat} {L : List Blob} {g : Int} (w : World) (h : SL w B m1 m2 L g) :
    Calls Try.prog 21 #[.pointer (some ⟨B, 0, none⟩)] w fun e w' => e = .returned (.int .i64 (totL L)) ∧ w = w' := by
  have c0 := h.c0
  have c3 := h.c3
  go_enter Try.func21, Try.ntmps21
  go_wp2_with (go_at_call 28; refine (made_yes _ _ _ c0).mono ?_; rintro e w' ⟨rfl, rfl⟩)
  go_ret
  exact ⟨rfl, rfl⟩

theorem ref_get {base R : Nat} {v : Value} {L : List Blob} {g : Int} (w : World) (h : RA w base R v L g) (id : Int) :
    Calls Try.prog 23 #[.pointer (some ⟨R, 0, none⟩), .int .i64 id] w fun e w' => e = .returned (.tuple #[.string (getF L id).1, .bool (getF L id).2]) ∧ w = w' := by
  have c0 := h.c0
  have hfi := find_any w h id
  rcases find_cases L id with ⟨e1, e2, _⟩ | ⟨m, hm, e1, _, e2, _⟩
  · rw [e2]
    rw [e1] at hfi
    have HF := Lib.hid hfi
    clear hfi e1 e2
    go_enter Try.func23, Try.ntmps23
    go_wp2_with (go_at_call 32; refine HF.out.mono ?_; rintro e w' ⟨rfl, rfl⟩)
    go_ret2
    exact ⟨rfl, rfl⟩
  · rw [e2]
    rw [e1] at hfi
    have HF := Lib.hid hfi
    clear hfi e1 e2
    rcases h.val with ⟨rfl, rfl⟩ | ⟨b, cap, rfl, hlc, hcm, hbb, hbl, hbR⟩
    · simp at hm
    · unfold maxLen at hcm
      have hc := h.at m 1 hm (by omega)
      simp only [bc, List.getElem?_cons_zero, List.getElem?_cons_succ] at hc
      go_enter Try.func23, Try.ntmps23
      go_wp2_with (go_at_call 32; refine HF.out.mono ?_; rintro e w' ⟨rfl, rfl⟩)
      go_ret2
      exact ⟨rfl, rfl⟩
theorem ref_count {base R : Nat} {v : Value} {L : List Blob} {g : Int} (w : World) (h : RA w base R v L g) (id : Int) :
    Calls Try.prog 24 #[.pointer (some ⟨R, 0, none⟩), .int .i64 id] w fun e w' => e = .returned (.int .i64 (cntF L id)) ∧ w = w' := by
  have c0 := h.c0
  have hfi := find_any w h id
  rcases find_cases L id with ⟨e1, _, e2, _⟩ | ⟨m, hm, e1, _, _, e2⟩
  · rw [e2]
    rw [e1] at hfi
    have HF := Lib.hid hfi
    clear hfi e1 e2
    go_enter Try.func24, Try.ntmps24
    go_wp2_with (go_at_call 32; refine HF.out.mono ?_; rintro e w' ⟨rfl, rfl⟩)
    go_ret
    exact ⟨rfl, rfl⟩
  · rw [e2]
    rw [e1] at hfi
    have HF := Lib.hid hfi
    clear hfi e1 e2
    rcases h.val with ⟨rfl, rfl⟩ | ⟨b, cap, rfl, hlc, hcm, hbb, hbl, hbR⟩
    · simp at hm
    · unfold maxLen at hcm
      have hc := h.at m 2 hm (by omega)
      simp only [bc, List.getElem?_cons_zero, List.getElem?_cons_succ] at hc
      go_enter Try.func24, Try.ntmps24
      go_wp2_with (go_at_call 32; refine HF.out.mono ?_; rintro e w' ⟨rfl, rfl⟩)
      go_ret
      exact ⟨rfl, rfl⟩

theorem totL_succ (L : List Blob) (k : Nat) (hk : k < L.length) : totL (L.take (k + 1)) = totL (L.take k) + L[k].2.1.size := by
  rw [List.take_succ_eq_append_getElem hk, totL_snoc]
theorem totL_take {L : List Blob} {g : Int} {n : Nat} (hi : Inv L g n) (k : Nat) : 0 ≤ totL (L.take k) ∧ totL (L.take k) ≤ 2048 * n := by
  have hs : (L.take k).Sublist L := List.take_sublist _ _
  have hI : Inv (L.take k) g n := ⟨hi.ids.sublist (hs.map _), hi.strs.sublist (hs.map _), fun b hb => hi.each b (hs.subset hb), hi.g0, hi.g1, Nat.le_trans hs.length_le hi.len⟩
  have := totL_bd hI
  have := hI.len
  omega
theorem ref_bytes {base R : Nat} {v : Value} {L : List Blob} {g : Int} {n : Nat} (w : World) (h : RA w base R v L g) (hi : Inv L g n) (hn : n ≤ 1000000) :
    Calls Try.prog 22 #[.pointer (some ⟨R, 0, none⟩)] w fun e w' => e = .returned (.int .i64 (totL L)) ∧ w = w' := by
  have c0 := h.c0
  have HT := Lib.hid (fun k => totL_take hi k)
  have HE := Lib.hid (fun b hb => (hi.each b hb).2.2.1)
  rcases h.val with ⟨rfl, rfl⟩ | ⟨b, cap, rfl, hlc, hcm, hbb, hbl, hbR⟩
  · go_enter Try.func22, Try.ntmps22
    go_wp2
    refine wp_loop_rounds 1 ?_
    rw [rounds_succ]
    go_wp2
    go_ret
    exact ⟨rfl, rfl⟩
  · unfold maxLen at hcm
    clear hi
    go_enter Try.func22, Try.ntmps22
    go_wp2
    go_loop [3, 4] (fun s i => ∃ k : Nat, k ≤ L.length ∧ i = .int .i64 k ∧ s = .int .i64 (totL (L.take k))) (fun _ i => L.length - (intOf i).toNat)
    case atStart => exact ⟨0, Nat.zero_le _, rfl, rfl⟩
    case round =>
      obtain ⟨k, hk, rfl, rfl⟩ := hrel
      by_cases hlt : k < L.length
      · have hc := h.at k 1 hlt (by omega)
        simp only [bc, List.getElem?_cons_zero, List.getElem?_cons_succ] at hc
        have HS := Lib.hid (totL_succ L k hlt)
        obtain ⟨t, ht⟩ : ∃ t, t = totL (L.take k) := ⟨_, rfl⟩
        have hb := HT.out k
        have hz := HE.out _ (List.getElem_mem hlt)
        rw [← ht] at hb ⊢
        have HS2 := HS.out
        rw [← ht] at HS2
        have HS3 := Lib.hid HS2
        obtain ⟨hb0, hb1⟩ := hb
        have hb2 : t ≤ 2048000000 := by omega
        clear HS2 HS hb1 ht
        go_wp2
        go_round
        case rel => exact ⟨k + 1, by omega, by go_num, by rw [HS3.out]⟩
        case measure => simp [intOf]; omega
      · obtain rfl : k = L.length := by omega
        go_wp2
        go_ret
        exact ⟨rfl, rfl⟩

end Go.Proofs.Ytfgnagnnmibmaaa
