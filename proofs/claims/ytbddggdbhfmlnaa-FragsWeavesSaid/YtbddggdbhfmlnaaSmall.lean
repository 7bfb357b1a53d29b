/- The small functions of frags and of its reference: valid, the refusals of Cut, New, Open, Forget, same. -/
import Derived.Test.YtbddggdbhfmlnaaCut
import Derived.WalkSpells
import Derived.WalkLawsBesides
import Derived.RegionTactic
import Derived.ChangeAlike
import Derived.Deep.QuietTactic
import Derived.BigQuiet
namespace Go.Proofs.Ytbddggdbhfmlnaa
open Go.RowKit Go.Rt Go.Rw

def validB (id left : Int) (data : ByteArray) : Bool := decide (1 ≤ id ∧ id ≤ 2147483647 ∧ 1 ≤ left ∧ left ≤ 262144 ∧ data.size ≤ 4096)
theorem valid_of {id left : Int} {data : ByteArray} (h : validB id left data = true) : 1 ≤ id ∧ id ≤ 2147483647 ∧ 1 ≤ left ∧ left ≤ 262144 ∧ data.size ≤ 4096 := by simpa [validB] using h
theorem not_valid {id left : Int} {data : ByteArray} (h : validB id left data = false) (h1 : 1 ≤ id) (h2 : id ≤ 2147483647) (h3 : 1 ≤ left) (h4 : left ≤ 262144) : ¬ data.size ≤ 4096 := by
  intro h5; rw [validB, decide_eq_false_iff_not] at h; exact h ⟨h1, h2, h3, h4, h5⟩


set_option maxHeartbeats 400000 in
theorem valid_yes (id left : Int) (fi : Bool) (data : ByteArray) (w : World) (h : validB id left data = true) :
    Calls Try.prog 26 #[.agg #[.int .i64 id, .bool fi, .int .i64 left, .string data]] w fun e w' => e = .returned (.bool true) ∧ Below w.heap.size w w' := by
  obtain ⟨h1, h2, h3, h4, h5⟩ := valid_of h
  have h6 : (data.size : Int) ≤ 4096 := by omega
  clear h
  go_enter Try.func26, Try.ntmps26
  go_wp2
  go_ret
  exact ⟨rfl, (Below.refl _ _).alloc (Nat.le_refl _) _⟩

set_option maxHeartbeats 400000 in
theorem valid_no (id left : Int) (fi : Bool) (data : ByteArray) (w : World) (hs : data.size ≤ 9223372036854775807) (h : validB id left data = false) :
    Calls Try.prog 26 #[.agg #[.int .i64 id, .bool fi, .int .i64 left, .string data]] w fun e w' => e = .returned (.bool false) ∧ Below w.heap.size w w' := by
  by_cases h1 : 1 ≤ id
  · by_cases h2 : id ≤ 2147483647
    · by_cases h3 : 1 ≤ left
      · by_cases h4 : left ≤ 262144
        · have h5 := not_valid h h1 h2 h3 h4
          have h6 : ¬ (data.size : Int) ≤ 4096 := by omega
          clear h h5
          go_enter Try.func26, Try.ntmps26
          go_wp2
          go_ret
          exact ⟨rfl, (Below.refl _ _).alloc (Nat.le_refl _) _⟩
        · clear h
          go_enter Try.func26, Try.ntmps26
          go_wp2
          go_ret
          exact ⟨rfl, (Below.refl _ _).alloc (Nat.le_refl _) _⟩
      · clear h
        go_enter Try.func26, Try.ntmps26
        go_wp2
        go_ret
        exact ⟨rfl, (Below.refl _ _).alloc (Nat.le_refl _) _⟩
    · clear h
      go_enter Try.func26, Try.ntmps26
      go_wp2
      go_ret
      exact ⟨rfl, (Below.refl _ _).alloc (Nat.le_refl _) _⟩
  · clear h
    go_enter Try.func26, Try.ntmps26
    go_wp2
    go_ret
    exact ⟨rfl, (Below.refl _ _).alloc (Nat.le_refl _) _⟩


set_option maxHeartbeats 400000 in
theorem rvalid_yes (id left : Int) (fi : Bool) (data : ByteArray) (w : World) (h : validB id left data = true) :
    Calls Try.prog 18 #[.agg #[.int .i64 id, .bool fi, .int .i64 left, .string data]] w fun e w' => e = .returned (.bool true) ∧ Below w.heap.size w w' := by
  obtain ⟨h1, h2, h3, h4, h5⟩ := valid_of h
  have h6 : (data.size : Int) ≤ 4096 := by omega
  clear h
  go_enter Try.func18, Try.ntmps18
  go_wp2
  go_ret
  exact ⟨rfl, (Below.refl _ _).alloc (Nat.le_refl _) _⟩

set_option maxHeartbeats 400000 in
theorem rvalid_no (id left : Int) (fi : Bool) (data : ByteArray) (w : World) (hs : data.size ≤ 9223372036854775807) (h : validB id left data = false) :
    Calls Try.prog 18 #[.agg #[.int .i64 id, .bool fi, .int .i64 left, .string data]] w fun e w' => e = .returned (.bool false) ∧ Below w.heap.size w w' := by
  by_cases h1 : 1 ≤ id
  · by_cases h2 : id ≤ 2147483647
    · by_cases h3 : 1 ≤ left
      · by_cases h4 : left ≤ 262144
        · have h5 := not_valid h h1 h2 h3 h4
          have h6 : ¬ (data.size : Int) ≤ 4096 := by omega
          clear h h5
          go_enter Try.func18, Try.ntmps18
          go_wp2
          go_ret
          exact ⟨rfl, (Below.refl _ _).alloc (Nat.le_refl _) _⟩
        · clear h
          go_enter Try.func18, Try.ntmps18
          go_wp2
          go_ret
          exact ⟨rfl, (Below.refl _ _).alloc (Nat.le_refl _) _⟩
      · clear h
        go_enter Try.func18, Try.ntmps18
        go_wp2
        go_ret
        exact ⟨rfl, (Below.refl _ _).alloc (Nat.le_refl _) _⟩
    · clear h
      go_enter Try.func18, Try.ntmps18
      go_wp2
      go_ret
      exact ⟨rfl, (Below.refl _ _).alloc (Nat.le_refl _) _⟩
  · clear h
    go_enter Try.func18, Try.ntmps18
    go_wp2
    go_ret
    exact ⟨rfl, (Below.refl _ _).alloc (Nat.le_refl _) _⟩


def cutBad (id most : Int) : Bool := decide (id < 1 ∨ 2147483647 < id ∨ most < 1 ∨ 4096 < most)
theorem cut_ok_of {id most : Int} (h : cutBad id most = false) : 1 ≤ id ∧ id ≤ 2147483647 ∧ 1 ≤ most ∧ most ≤ 4096 := by
  rw [cutBad, decide_eq_false_iff_not] at h; omega
theorem cut_bad_of {id most : Int} (h : cutBad id most = true) (h1 : ¬ id < 1) (h2 : ¬ 2147483647 < id) (h3 : ¬ most < 1) : 4096 < most := by
  rw [cutBad, decide_eq_true_eq] at h; omega


set_option maxHeartbeats 400000 in
theorem cut_arg (id most : Int) (data : ByteArray) (w : World) (h : cutBad id most = true) :
    Calls Try.prog 12 #[.int .i64 id, .string data, .int .i64 most] w fun e w' => e = .returned (.tuple #[.slice none 0 0, .int .i64 2]) ∧ Below w.heap.size w w' := by
  by_cases h1 : id < 1
  · clear h
    go_enter Try.func12, Try.ntmps12
    go_wp2_with fail
    go_ret2
    exact ⟨rfl, (Below.refl _ _).alloc (Nat.le_refl _) _⟩
  · by_cases h2 : 2147483647 < id
    · clear h
      go_enter Try.func12, Try.ntmps12
      go_wp2_with fail
      go_ret2
      exact ⟨rfl, (Below.refl _ _).alloc (Nat.le_refl _) _⟩
    · by_cases h3 : most < 1
      · clear h
        go_enter Try.func12, Try.ntmps12
        go_wp2_with fail
        go_ret2
        exact ⟨rfl, (Below.refl _ _).alloc (Nat.le_refl _) _⟩
      · have h4 := cut_bad_of h h1 h2 h3
        clear h
        go_enter Try.func12, Try.ntmps12
        go_wp2_with fail
        go_ret2
        exact ⟨rfl, (Below.refl _ _).alloc (Nat.le_refl _) _⟩

set_option maxHeartbeats 400000 in
theorem cut_long (id most : Int) (data : ByteArray) (w : World) (hs : data.size ≤ 9223372036854775807) (h : cutBad id most = false) (hd : 262144 < data.size) :
    Calls Try.prog 12 #[.int .i64 id, .string data, .int .i64 most] w fun e w' => e = .returned (.tuple #[.slice none 0 0, .int .i64 3]) ∧ Below w.heap.size w w' := by
  obtain ⟨h1, h2, h3, h4⟩ := cut_ok_of h
  have h5 : ¬ id < 1 := by omega
  have h6 : ¬ 2147483647 < id := by omega
  have h7 : ¬ most < 1 := by omega
  have h8 : ¬ 4096 < most := by omega
  have h9 : (262144 : Int) < data.size := by omega
  clear h h1 h2 h3 h4
  go_enter Try.func12, Try.ntmps12
  go_wp2_with fail
  go_ret2
  exact ⟨rfl, (Below.refl _ _).alloc (Nat.le_refl _) _⟩


set_option maxHeartbeats 400000 in
theorem rcut_arg (id most : Int) (data : ByteArray) (w : World) (h : cutBad id most = true) :
    Calls Try.prog 13 #[.int .i64 id, .string data, .int .i64 most] w fun e w' => e = .returned (.tuple #[.slice none 0 0, .int .i64 2]) ∧ Below w.heap.size w w' := by
  by_cases h1 : id < 1
  · clear h
    go_enter Try.func13, Try.ntmps13
    go_wp2_with fail
    go_ret2
    exact ⟨rfl, Below.refl _ _⟩
  · by_cases h2 : 2147483647 < id
    · clear h
      go_enter Try.func13, Try.ntmps13
      go_wp2_with fail
      go_ret2
      exact ⟨rfl, Below.refl _ _⟩
    · by_cases h3 : most < 1
      · clear h
        go_enter Try.func13, Try.ntmps13
        go_wp2_with fail
        go_ret2
        exact ⟨rfl, Below.refl _ _⟩
      · have h4 := cut_bad_of h h1 h2 h3
        clear h
        go_enter Try.func13, Try.ntmps13
        go_wp2_with fail
        go_ret2
        exact ⟨rfl, Below.refl _ _⟩

set_option maxHeartbeats 400000 in
theorem rcut_long (id most : Int) (data : ByteArray) (w : World) (hs : data.size ≤ 9223372036854775807) (h : cutBad id most = false) (hd : 262144 < data.size) :
    Calls Try.prog 13 #[.int .i64 id, .string data, .int .i64 most] w fun e w' => e = .returned (.tuple #[.slice none 0 0, .int .i64 3]) ∧ Below w.heap.size w w' := by
  obtain ⟨h1, h2, h3, h4⟩ := cut_ok_of h
  have h5 : ¬ id < 1 := by omega
  have h6 : ¬ 2147483647 < id := by omega
  have h7 : ¬ most < 1 := by omega
  have h8 : ¬ 4096 < most := by omega
  have h9 : (262144 : Int) < data.size := by omega
  clear h h1 h2 h3 h4
  go_enter Try.func13, Try.ntmps13
  go_wp2_with fail
  go_ret2
  exact ⟨rfl, Below.refl _ _⟩


theorem seq_str (a b : ByteArray) : (a.toList == b.toList) = decide (a = b) := by
  rw [ByteArray.toList_eq, ByteArray.toList_eq, Bool.eq_iff_iff]
  simp
  constructor
  · intro h; cases a; cases b; simpa using h
  · rintro rfl; rfl
/-- Are two fragments equal? -/
def eqB (a b : FragD) : Bool := decide (a = b)
theorem eqFrag (a1 a3 b1 b3 : Int) (a2 b2 : Bool) (a4 b4 : ByteArray) (w : World) : (Op.equalIn 10000 30 (.agg #[.int .i64 a1, .bool a2, .int .i64 a3, .string a4]) (.agg #[.int .i64 b1, .bool b2, .int .i64 b3, .string b4])).run Try.prog w = .ok (eqB (a1, a2, a3, a4) (b1, b2, b3, b4)) w := by
  unfold eqB
  have u3 := Try.underlying3
  have a3' := Try.isAgg3
  have z3 := Try.sizeOf3
  have hS : Try.prog.underlying 30 = some (.struct (Try.prog.fieldsOf 30)) := by kernel_rfl
  have hp : Try.prog.stoodInHeld 30 = false := by kernel_rfl
  rw [show (10000 : Nat) = 9999 + 1 from rfl, run_equalIn_agg w 9999 30 _ _ hS hp]
  simp only [Program.fieldsOf, Try.underlying30]
  go_simp
  have ti : (a4.toList = b4.toList) ↔ a4 = b4 := by have := seq_str a4 b4; rw [Bool.eq_iff_iff] at this; simpa using this
  simp only [ti]
  by_cases h1 : a1 = b1 <;> by_cases h2 : a2 = b2 <;> by_cases h3 : a3 = b3 <;> by_cases h4 : a4 = b4 <;> simp [h1, h2, h3, h4]

theorem guard30 : Try.prog.eqGuardType Try.prog.depth 30 = false := by kernel_rfl
attribute [local go_sem] guard30
theorem toList_inj {a b : ByteArray} (h : a.toList = b.toList) : a = b := by
  have := seq_str a b; rw [Bool.eq_iff_iff] at this; simpa using this.1 (by simp [h])
theorem frag_ne {a b : FragD} (h : a ≠ b) : a.1 ≠ b.1 ∨ (a.1 = b.1 ∧ a.2.1 ≠ b.2.1) ∨ (a.1 = b.1 ∧ a.2.1 = b.2.1 ∧ a.2.2.1 ≠ b.2.2.1) ∨ (a.1 = b.1 ∧ a.2.1 = b.2.1 ∧ a.2.2.1 = b.2.2.1 ∧ a.2.2.2.toList ≠ b.2.2.2.toList) := by
  obtain ⟨a1, a2, a3, a4⟩ := a
  obtain ⟨b1, b2, b3, b4⟩ := b
  by_cases h1 : a1 = b1
  · by_cases h2 : a2 = b2
    · by_cases h3 : a3 = b3
      · refine .inr (.inr (.inr ⟨h1, h2, h3, fun h4 => h ?_⟩))
        have h5 : a4 = b4 := toList_inj h4
        rw [h1, h2, h3, h5]
      · exact .inr (.inr (.inl ⟨h1, h2, h3⟩))
    · exact .inr (.inl ⟨h1, h2⟩)
  · exact .inl h1
theorem frag_eta {a b : FragD} : decide ((a.1, a.2.1, a.2.2.1, a.2.2.2) = (b.1, b.2.1, b.2.2.1, b.2.2.2)) = decide (a = b) := rfl
theorem ret_bool {a b : Bool} (h : a = b) : Ending.returned (.bool a) = .returned (.bool b) := by rw [h]
theorem frag_cells {w : World} {b o k : Nat} {L : List FragD} (hc : ∀ i j, (hi : i < L.length) → j < 4 → w.cell? ⟨b, o + i * 4 + j, none⟩ = (fc L[i])[j]?) (hk : k < L.length) : w.cell? ⟨b, o + k * 4, none⟩ = some (.int .i64 L[k].1) ∧ w.cell? ⟨b, o + k * 4 + 1, none⟩ = some (.bool L[k].2.1) ∧ w.cell? ⟨b, o + k * 4 + 2, none⟩ = some (.int .i64 L[k].2.2.1) ∧ w.cell? ⟨b, o + k * 4 + 3, none⟩ = some (.string L[k].2.2.2) :=
  ⟨hc k 0 hk (by omega), hc k 1 hk (by omega), hc k 2 hk (by omega), hc k 3 hk (by omega)⟩
theorem eq_take {A B : List FragD} {k : Nat} (hk : k < A.length) (hb : k < B.length) (h : A.take k = B.take k) (h2 : A[k] = B[k]) : A.take (k + 1) = B.take (k + 1) := by
  rw [List.take_succ_eq_append_getElem hk, List.take_succ_eq_append_getElem hb, h, h2]

set_option maxRecDepth 100000 in
set_option maxHeartbeats 1000000 in
theorem same_any (A B : List FragD) (v1 v2 : Value) (w : World) (h1 : SlAt w 4 fc v1 A) (h2 : SlAt w 4 fc v2 B) :
    Calls Try.prog 14 #[v1, v2] w fun e w' => e = .returned (.bool (decide (A = B))) ∧ ∃ n, w' = w.drewN n := by
  obtain ⟨l1, sa1, cap1, rfl⟩ := h1.len
  obtain ⟨l2, sa2, cap2, rfl⟩ := h2.len
  by_cases hne : A.length = B.length
  · have hq : ((A.length : Int) != (B.length : Int)) = false := by simp [hne]
    have HN := Lib.hid hne
    have H1 := Lib.hid h1
    have H2 := Lib.hid h2
    clear hne h1 h2
    go_enter Try.func14, Try.ntmps14
    go_wp2
    go_loopw [5] (fun i wr => ∃ k n : Nat, k ≤ A.length ∧ i = .int .i64 k ∧ wr = w.drewN n ∧ Hid (A.take k = B.take k)) (fun i _ => A.length - (intOf i).toNat)
    case atStart => exact ⟨0, 0, Nat.zero_le _, rfl, rfl, by simp [Hid]⟩
    case round =>
      obtain ⟨k, n, hk, rfl, rfl, ht⟩ := hrel
      by_cases hlt : k < A.length
      · have hltB : k < B.length := by rw [← HN.out]; exact hlt
        obtain ⟨b1, o1, rfl, q1, c1⟩ := H1.out.get (by omega)
        obtain ⟨b2, o2, rfl, q2, c2⟩ := H2.out.get (by omega)
        obtain ⟨e1, e2, e3, e4⟩ := frag_cells c1 hlt
        obtain ⟨g1, g2, g3, g4⟩ := frag_cells c2 hltB
        clear c1 c2
        by_cases he : A[k] = B[k]
        · have HT : Hid (A.take (k + 1) = B.take (k + 1)) := eq_take hlt hltB ht.out he
          rw [← he] at g1 g2 g3 g4
          clear he
          go_wp2
          go_quiet (fail)
          go_wp2
          go_roundw
          case rel => exact ⟨k + 1, _, by omega, by go_num, rfl, HT⟩
          case measure => simp [intOf]; omega
        · have HT : Hid (false = decide (A = B)) := by
            show false = decide (A = B)
            symm
            rw [decide_eq_false_iff_not]
            rintro rfl
            exact he rfl
          rcases frag_ne he with d1 | ⟨d1, d2⟩ | ⟨d1, d2, d3⟩ | ⟨d1, d2, d3, d4⟩
          all_goals
            clear he
            go_wp2
            go_quiet (fail)
            go_wp2
            go_ret
            exact ⟨ret_bool HT.out, _, by rw [World.drewN_drewN]⟩
      · go_wp2
        go_ret
        refine ⟨ret_bool ?_, _, rfl⟩
        have e1 := ht.out
        rw [List.take_of_length_le (by omega), List.take_of_length_le (by have := HN.out; omega)] at e1
        simp [e1]
  · have hq : ((A.length : Int) != (B.length : Int)) = true := by simp; omega
    have HT : Hid (false = decide (A = B)) := by
      show false = decide (A = B)
      symm
      rw [decide_eq_false_iff_not]
      rintro rfl
      exact hne rfl
    clear hne h1 h2
    go_enter Try.func14, Try.ntmps14
    go_wp2
    go_ret
    exact ⟨ret_bool HT.out, 0, rfl⟩
end Go.Proofs.Ytbddggdbhfmlnaa
