/- long, of no acts; same; act. -/
import Derived.Test.YtnkkbkceapcahaaDoorWake
import Derived.Test.YtnkkbkceapcahaaDoorOpens
namespace Go.Proofs.YtnkkbkceapcahaaDoor
open Go.RowKit Go.Rt Go.Rw

def longB (x : Stg) : Bool := decide (6000 < x.want.size + x.cookie.size + x.name.size)
set_option maxRecDepth 100000 in
set_option maxHeartbeats 1000000 in
theorem longN_any (x : Stg) (h1 : x.name.size ≤ 140737488355328) (h2 : x.want.size ≤ 140737488355328) (h3 : x.cookie.size ≤ 140737488355328) (w : World) :
    Calls Tryd.prog 10 #[.agg #[.bool x.dials, .string x.name, .int .i64 x.gen, .string x.want, .string x.cookie, .int .u64 x.chal], .slice none 0 0] w fun e w' => e = .returned (.bool (longB x)) ∧ Below w.heap.size w w' := by
  by_cases h : 6000 < x.want.size + x.cookie.size + x.name.size
  · have hL : longB x = true := decide_eq_true h
    rw [hL]
    have h' : (6000 : Int) < (x.want.size : Int) + x.cookie.size + x.name.size := by omega
    clear hL h
    go_enter Tryd.func10, Tryd.ntmps10
    go_wp2_with fail
    refine wp_loop_rounds 1 ?_
    rw [rounds_succ]
    go_wp2
    go_ret
    exact ⟨rfl, (Below.refl _ _).alloc (Nat.le_refl _) _⟩
  · have hL : longB x = false := decide_eq_false h
    rw [hL]
    have h' : decide ((6000 : Int) < (x.want.size : Int) + x.cookie.size + x.name.size) = false := decide_eq_false (by omega)
    clear hL h
    go_enter Tryd.func10, Tryd.ntmps10
    go_wp2_with fail
    refine wp_loop_rounds 1 ?_
    rw [rounds_succ]
    go_wp2
    go_ret
    exact ⟨rfl, (Below.refl _ _).alloc (Nat.le_refl _) _⟩

set_option maxRecDepth 100000 in
set_option maxHeartbeats 1000000 in
theorem same_any (s : Sd) (B C : Nat) (w : World) (hB : Blk w B 46 (sdC s)) (hC : Blk w C 83 (sdC s)) :
    Calls Tryd.prog 26 #[.pointer (some ⟨B, 0, none⟩), .pointer (some ⟨C, 0, none⟩)] w fun e w' => e = .returned (.bool true) ∧ Below w.heap.size w w' := by
  have SC := sd_cells hC
  have HB := Lib.hid hB
  have LTB := Lib.hid hB.lt
  have HS0 : Hid (∀ n, (w.drewN n).cell? ⟨C, 10, none⟩ = some (.int .i64 s.state) ∧ (w.drewN n).cell? ⟨C, 2, none⟩ = some (.string s.other.name) ∧ (w.drewN n).cell? ⟨C, 3, none⟩ = some (.int .i64 s.other.gen) ∧ Below w.heap.size w (w.drewN n)) :=
    Lib.hid (fun n => ⟨SC.c10, SC.c2, SC.c3, below_drewN (Below.refl _ _) n⟩)
  have CS := Lib.hid (fun W (h : Below w.heap.size w W) => state_any s B W (HB.out.below h LTB.out))
  have CP := Lib.hid (fun W (h : Below w.heap.size w W) => peerP_any s B W (HB.out.below h LTB.out))
  have b1 : ((s.state : Int) == s.state) = true := by simp
  have b2 : ((s.other.gen : Int) == s.other.gen) = true := by simp
  have b3 : (s.other.name.toList == s.other.name.toList) = true := by simp
  clear SC hB hC
  go_enter Tryd.func26, Tryd.ntmps26
  go_wp2
  go_region_held3 (fun w' => w'.cell? ⟨C, 10, none⟩ = some (.int .i64 s.state) ∧ w'.cell? ⟨C, 2, none⟩ = some (.string s.other.name) ∧ w'.cell? ⟨C, 3, none⟩ = some (.int .i64 s.other.gen) ∧ Below w.heap.size w w')
    (first | exact HS0.out 1 | (obtain ⟨s1, s2, s3, s4⟩ := (‹_ ∧ _ ∧ _ ∧ Below w.heap.size w _›); first | exact ⟨s1, s2, s3, s4⟩ | exact ⟨cell_keep (by assumption) s1, cell_keep (by assumption) s2, cell_keep (by assumption) s3, s4.trans (Below.mono (by assumption) s4.size)⟩))
    (first
      | (go_at_call 16; refine (CS.out _ (‹_ ∧ _ ∧ _ ∧ Below w.heap.size w _›).2.2.2).mono ?_; rintro e w2 ⟨rfl, rfl⟩)
      | (go_at_call 17; refine (CP.out _ (‹_ ∧ _ ∧ _ ∧ Below w.heap.size w _›).2.2.2).mono ?_; rintro e w3 ⟨rfl, b3⟩))
  all_goals
    have hbe := (‹_ ∧ _ ∧ _ ∧ Below w.heap.size w _›).2.2.2
    go_wp2
    go_ret
    exact ⟨rfl, hbe⟩

set_option maxRecDepth 100000 in
set_option maxHeartbeats 1000000 in
theorem act_answer {w W : World} {L : List Ent} (S : Ss w W L) (i j : Nat) (hij : i ≠ j) {B C : Nat} {s : Sd} (hi : L[i]? = some (B, 46, s)) (hj : L[j]? = some (C, 83, s)) (hs : Fine s) (kind how : Int) (text : ByteArray) (_ht : text.size ≤ 100000) (hk : (kind == 1) = true) :
    Calls Tryd.prog 27 #[.pointer (some ⟨B, 0, none⟩), .pointer (some ⟨C, 0, none⟩), .agg #[.int .i64 kind, .int .i64 how, .string text]] W (Saw w ((L.set i (B, 46, (answerF s how).1)).set j (C, 83, (answerF s how).1)) (.bool true)) := by
  have hB := S.get i hi
  have hC := S.get j hj
  have ne : B ≠ C := S.ne i j _ _ hi hj hij
  have LB := Lib.hid hB.lt
  have LC := Lib.hid hC.lt
  have HS := Lib.hid S
  have HB1 := Lib.hid (hB.alloc (.cells #[.int .i64 kind, .int .i64 how, .string text] 69))
  have HC1 := Lib.hid (hC.alloc (.cells #[.int .i64 kind, .int .i64 how, .string text] 69))
  have S1 := Lib.hid (S.below ((Below.refl W.heap.size W).alloc (Nat.le_refl _) (.cells #[.int .i64 kind, .int .i64 how, .string text] 69)))
  have X1 : Hid (Blk (W.alloc (.cells #[.int .i64 kind, .int .i64 how, .string text] 69)) W.heap.size 69 #[.int .i64 kind, .int .i64 how, .string text]) := Lib.hid (Blk.new W 69 _)
  have nX : Hid (W.heap.size ≠ B ∧ W.heap.size ≠ C) := Lib.hid (by have := LB.out; have := LC.out; omega)
  have P1 := Lib.hid (fun W' (hb : Blk W' B 46 (sdC s)) (_t : Tabs W') => answer_any s hs.1 hs.2 how B W' hb)
  have P2 := Lib.hid (fun W' (hb : Blk W' C 83 (sdC s)) (_t : Tabs W') => ranswer_any s hs.1 how C W' hb)
  obtain ⟨r, hr⟩ : ∃ r, r = answerF s how := ⟨_, rfl⟩
  rw [← hr] at P1 P2 ⊢
  have q1 : (r.2.1.toList == r.2.1.toList) = true := by simp
  have q2 : ((r.2.2 : Int) == r.2.2) = true := by simp
  have HNE := Lib.hid ne
  clear hB hC hr S ne hs
  go_enter Tryd.func27, Tryd.ntmps27
  go_wp2_with fail
  refine (P1.out _ HB1.out S1.out.st.tabs).mono ?_
  rintro e w1 ⟨rfl, f1, f2⟩
  have S2 := Lib.hid (S1.out.set i hi f1 f2)
  have HC2 := Lib.hid (HC1.out.only f2 (by simp only [List.mem_singleton]; exact Ne.symm HNE.out))
  have X2 := X1.out.only f2 (by simp only [List.mem_singleton]; exact nX.out.1)
  have c0 : w1.cell? ⟨W.heap.size, 0, none⟩ = some (.int .i64 kind) := X2.cell 0
  have c1 : w1.cell? ⟨W.heap.size, 1, none⟩ = some (.int .i64 how) := X2.cell 1
  have c2 : w1.cell? ⟨W.heap.size, 2, none⟩ = some (.string text) := X2.cell 2
  clear f1 f2 X2 S1 HB1
  go_wp2_with fail
  refine (P2.out _ HC2.out S2.out.st.tabs).mono ?_
  rintro e w2 ⟨rfl, f1, f2⟩
  have S3 := Lib.hid (S2.out.set j (by rw [List.getElem?_set_ne hij]; exact hj) f1 f2)
  clear f1 f2 S2
  go_wp2
  go_ret
  exact ⟨rfl, S3.out⟩

set_option maxRecDepth 100000 in
set_option maxHeartbeats 1000000 in
theorem act_take {w W : World} {L : List Ent} (S : Ss w W L) (i j : Nat) (hij : i ≠ j) {B C : Nat} {s : Sd} (hi : L[i]? = some (B, 46, s)) (hj : L[j]? = some (C, 83, s)) (hs : Fine s) (kind how : Int) (text : ByteArray) (ht : text.size ≤ 100000) (hk : (kind == 1) = false) :
    Calls Tryd.prog 27 #[.pointer (some ⟨B, 0, none⟩), .pointer (some ⟨C, 0, none⟩), .agg #[.int .i64 kind, .int .i64 how, .string text]] W (Saw w ((L.set i (B, 46, (takeF s text).1)).set j (C, 83, (takeF s text).1)) (.bool true)) := by
  have hB := S.get i hi
  have hC := S.get j hj
  have ne : B ≠ C := S.ne i j _ _ hi hj hij
  have LB := Lib.hid hB.lt
  have LC := Lib.hid hC.lt
  have HS := Lib.hid S
  have HB1 := Lib.hid (hB.alloc (.cells #[.int .i64 kind, .int .i64 how, .string text] 69))
  have HC1 := Lib.hid (hC.alloc (.cells #[.int .i64 kind, .int .i64 how, .string text] 69))
  have S1 := Lib.hid (S.below ((Below.refl W.heap.size W).alloc (Nat.le_refl _) (.cells #[.int .i64 kind, .int .i64 how, .string text] 69)))
  have X1 : Hid (Blk (W.alloc (.cells #[.int .i64 kind, .int .i64 how, .string text] 69)) W.heap.size 69 #[.int .i64 kind, .int .i64 how, .string text]) := Lib.hid (Blk.new W 69 _)
  have nX : Hid (W.heap.size ≠ B ∧ W.heap.size ≠ C) := Lib.hid (by have := LB.out; have := LC.out; omega)
  have P1 := Lib.hid (fun W' (hb : Blk W' B 46 (sdC s)) (t : Tabs W') => take_any s hs.1 hs.2 text ht B W' hb t)
  have P2 := Lib.hid (fun W' (hb : Blk W' C 83 (sdC s)) (t : Tabs W') => rtake_any s hs.1 text ht C W' hb t)
  obtain ⟨r, hr⟩ : ∃ r, r = takeF s text := ⟨_, rfl⟩
  rw [← hr] at P1 P2 ⊢
  have q1 : (r.2.1.toList == r.2.1.toList) = true := by simp
  have q2 : ((r.2.2 : Int) == r.2.2) = true := by simp
  have HNE := Lib.hid ne
  clear hB hC hr S ne hs
  go_enter Tryd.func27, Tryd.ntmps27
  go_wp2_with fail
  refine (P1.out _ HB1.out S1.out.st.tabs).mono ?_
  rintro e w1 ⟨rfl, f1, f2⟩
  have S2 := Lib.hid (S1.out.set i hi f1 f2)
  have HC2 := Lib.hid (HC1.out.only f2 (by simp only [List.mem_singleton]; exact Ne.symm HNE.out))
  have X2 := X1.out.only f2 (by simp only [List.mem_singleton]; exact nX.out.1)
  have c0 : w1.cell? ⟨W.heap.size, 0, none⟩ = some (.int .i64 kind) := X2.cell 0
  have c1 : w1.cell? ⟨W.heap.size, 1, none⟩ = some (.int .i64 how) := X2.cell 1
  have c2 : w1.cell? ⟨W.heap.size, 2, none⟩ = some (.string text) := X2.cell 2
  clear f1 f2 X2 S1 HB1
  go_wp2_with fail
  refine (P2.out _ HC2.out S2.out.st.tabs).mono ?_
  rintro e w2 ⟨rfl, f1, f2⟩
  have S3 := Lib.hid (S2.out.set j (by rw [List.getElem?_set_ne hij]; exact hj) f1 f2)
  clear f1 f2 S2
  go_wp2
  go_ret
  exact ⟨rfl, S3.out⟩
end Go.Proofs.YtnkkbkceapcahaaDoor
