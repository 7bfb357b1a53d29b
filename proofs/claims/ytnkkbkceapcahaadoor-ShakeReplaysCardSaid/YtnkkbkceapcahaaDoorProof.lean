/- proof of the program, Proof of the reference: both answer proofF. -/
import Derived.Test.YtnkkbkceapcahaaDoorCutP1
import Derived.Test.YtnkkbkceapcahaaDoorRmac
namespace Go.Proofs.YtnkkbkceapcahaaDoor
open Go.RowKit Go.Rt

/-- A world of the call's own making: the tables lie as they lay, what was below is as it was. -/
structure St (w W : World) : Prop where
  tabs : Tabs W
  bel : Below w.heap.size w W
theorem St.keep {w W W' : World} (h : St w W) (b : Below W.heap.size W W') : St w W' := ⟨h.tabs.below b h.tabs.two, h.bel.trans (b.mono h.bel.size)⟩
theorem St.refl {w : World} (h : Tabs w) : St w w := ⟨h, Below.refl _ _⟩
theorem St.alloc {w W : World} (h : St w W) (o : Obj) : St w (W.alloc o) := h.keep ((Below.refl _ _).alloc (Nat.le_refl _) o)
theorem cell_keep {W W' : World} {p : Addr} {v : Value} (b : Below W.heap.size W W') (h : W.cell? p = some v) : W'.cell? p = some v := (b.cell (World.block_lt_of_cell? W p h)).trans h
theorem St.drew {w W : World} (h : St w W) : St w W.drew := h.keep (Below.refl _ _).drew
theorem St.drewN {w W : World} (h : St w W) (n : Nat) : St w (W.drewN n) := h.keep (below_drewN (Below.refl _ _) n)

set_option maxRecDepth 100000 in
set_option maxHeartbeats 1000000 in
theorem proof_any (l : ByteArray) (own other : Pr) (cookie : ByteArray) (th ou : Nat) (hl : l.size ≤ 1) (h1 : own.name.size ≤ 32) (h2 : other.name.size ≤ 32) (g1 : own.gen ≤ 2147483647) (g2 : other.gen ≤ 2147483647) (hc : cookie.size ≤ 6000) (w : World) (ht : Tabs w) :
    Calls Tryd.prog 60 #[.string l, .agg #[.string own.name, .int .i64 own.gen], .agg #[.string other.name, .int .i64 other.gen], .string cookie, .int .u64 th, .int .u64 ou] w fun e w' => e = .returned (.string (proofF l own other cookie th ou)) ∧ Below w.heap.size w w' := by
  have e1 := encF_size own
  have e2 := encF_size other
  have e3 := numF_size th 8
  have e4 := numF_size ou 8
  have C1 := Lib.hid (fun W => enc_any own.name own.gen (by omega) g1 W)
  have C2 := Lib.hid (fun W => enc_any other.name other.gen (by omega) g2 W)
  have C3 : Hid (∀ W, Calls Tryd.prog 37 #[.int .u64 (th : Int), .int .i64 8] W fun e w' => e = .returned (.string (numF th 8)) ∧ Below W.heap.size W w') := Lib.hid (fun W => bytes_any th 8 (by omega) W)
  have C4 : Hid (∀ W, Calls Tryd.prog 37 #[.int .u64 (ou : Int), .int .i64 8] W fun e w' => e = .returned (.string (numF ou 8)) ∧ Below W.heap.size W w') := Lib.hid (fun W => bytes_any ou 8 (by omega) W)
  have HM : Hid (∀ W, Tabs W → Calls Tryd.prog 67 #[.string cookie, .string (l ++ encF own ++ encF other ++ numF th 8 ++ numF ou 8)] W fun e w' => e = .returned (.string (proofF l own other cookie th ou)) ∧ Below W.heap.size W w') :=
    Lib.hid (fun W hW => mac_any cookie _ (by omega) (by simp only [ByteArray.size_append]; omega) W hW)
  have C1' : Hid (∀ W, Calls Tryd.prog 34 #[.agg #[.string own.name, .int .i64 own.gen]] W fun e w' => e = .returned (.string (encF own)) ∧ Below W.heap.size W w') := C1
  have C2' : Hid (∀ W, Calls Tryd.prog 34 #[.agg #[.string other.name, .int .i64 other.gen]] W fun e w' => e = .returned (.string (encF other)) ∧ Below W.heap.size W w') := C2
  obtain ⟨on, og⟩ := own
  obtain ⟨tn, tg⟩ := other
  obtain ⟨q1, hq1⟩ : ∃ q, q = encF ⟨on, og⟩ := ⟨_, rfl⟩
  obtain ⟨q2, hq2⟩ : ∃ q, q = encF ⟨tn, tg⟩ := ⟨_, rfl⟩
  obtain ⟨q3, hq3⟩ : ∃ q, q = numF th 8 := ⟨_, rfl⟩
  obtain ⟨q4, hq4⟩ : ∃ q, q = numF ou 8 := ⟨_, rfl⟩
  obtain ⟨P, hP⟩ : ∃ P, P = proofF l ⟨on, og⟩ ⟨tn, tg⟩ cookie th ou := ⟨_, rfl⟩
  rw [← hq1] at e1 C1' HM
  rw [← hq2] at e2 C2' HM
  rw [← hq3] at e3 C3 HM
  rw [← hq4] at e4 C4 HM
  rw [← hP] at HM ⊢
  clear hq1 hq2 hq3 hq4 hP C1 C2
  simp only at e1 e2 h1 h2 g1 g2
  have z1 : q1.size ≤ 37 := by omega
  have z2 : q2.size ≤ 37 := by omega
  have z3 : q3.size ≤ 8 := by omega
  have z4 : q4.size ≤ 8 := by omega
  clear e1 e2 e3 e4
  have s1 : ¬ 9223372036854775807 < l.size + q1.size := by omega
  have s2 : ¬ 9223372036854775807 < l.size + q1.size + q2.size := by omega
  have s3 : ¬ 9223372036854775807 < l.size + q1.size + q2.size + q3.size := by omega
  have s4 : ¬ 9223372036854775807 < l.size + q1.size + q2.size + q3.size + q4.size := by omega
  have HT := Lib.hid ht
  clear ht h1 h2 g1 g2 z1 z2 z3 z4 hl
  simp only
  have HS0 : Hid (∀ n, (((w.alloc (.cells #[.string on, .int .i64 (og : Int)] 23)).alloc (.cells #[.string tn, .int .i64 (tg : Int)] 23)).drewN n).cell? ⟨w.heap.size, 0, none⟩ = some (.string on) ∧ (((w.alloc (.cells #[.string on, .int .i64 (og : Int)] 23)).alloc (.cells #[.string tn, .int .i64 (tg : Int)] 23)).drewN n).cell? ⟨w.heap.size, 1, none⟩ = some (.int .i64 (og : Int)) ∧ (((w.alloc (.cells #[.string on, .int .i64 (og : Int)] 23)).alloc (.cells #[.string tn, .int .i64 (tg : Int)] 23)).drewN n).cell? ⟨w.heap.size + 1, 0, none⟩ = some (.string tn) ∧ (((w.alloc (.cells #[.string on, .int .i64 (og : Int)] 23)).alloc (.cells #[.string tn, .int .i64 (tg : Int)] 23)).drewN n).cell? ⟨w.heap.size + 1, 1, none⟩ = some (.int .i64 (tg : Int)) ∧ St w (((w.alloc (.cells #[.string on, .int .i64 (og : Int)] 23)).alloc (.cells #[.string tn, .int .i64 (tg : Int)] 23)).drewN n)) :=
    Lib.hid (fun n => ⟨by simp, by simp, by simp, by simp, ((((St.refl HT.out).alloc _).alloc _)).drewN n⟩)
  go_enter Tryd.func60, Tryd.ntmps60
  go_wp2
  go_region_held3 (fun w' => w'.cell? ⟨w.heap.size, 0, none⟩ = some (.string on) ∧ w'.cell? ⟨w.heap.size, 1, none⟩ = some (.int .i64 (og : Int)) ∧ w'.cell? ⟨w.heap.size + 1, 0, none⟩ = some (.string tn) ∧ w'.cell? ⟨w.heap.size + 1, 1, none⟩ = some (.int .i64 (tg : Int)) ∧ St w w')
    (first | exact HS0.out 1 | (obtain ⟨s1, s2, s3, s4, s5⟩ := (‹_ ∧ _ ∧ _ ∧ _ ∧ St _ _›); exact ⟨cell_keep (by assumption) s1, cell_keep (by assumption) s2, cell_keep (by assumption) s3, cell_keep (by assumption) s4, s5.keep (by assumption)⟩))
    (first
      | (go_at_call_of 34 (Value.agg #[Value.string on, Value.int IntKind.i64 (og : Int)]); refine (C1'.out _).mono ?_; rintro e w1 ⟨rfl, b1⟩)
      | (go_at_call_of 34 (Value.agg #[Value.string tn, Value.int IntKind.i64 (tg : Int)]); refine (C2'.out _).mono ?_; rintro e w2 ⟨rfl, b2⟩)
      | (go_at_call_of 37 (Value.int IntKind.u64 (th : Int)); refine (C3.out _).mono ?_; rintro e w3 ⟨rfl, b3⟩)
      | (go_at_call_of 37 (Value.int IntKind.u64 (ou : Int)); refine (C4.out _).mono ?_; rintro e w4 ⟨rfl, b4⟩)
      | (go_at_call 67; refine (HM.out _ ((‹_ ∧ _ ∧ _ ∧ _ ∧ St _ _›).2.2.2.2).tabs).mono ?_; rintro e w5 ⟨rfl, b5⟩))
  all_goals (go_wp2; go_ret; exact ⟨rfl, ((‹_ ∧ _ ∧ _ ∧ _ ∧ St _ _›).2.2.2.2).bel⟩)
set_option maxRecDepth 100000 in
set_option maxHeartbeats 1000000 in
theorem proofR_D (own other : Pr) (cookie : ByteArray) (th ou : Nat) (h1 : own.name.size ≤ 32) (h2 : other.name.size ≤ 32) (g1 : own.gen ≤ 2147483647) (g2 : other.gen ≤ 2147483647) (hc : cookie.size ≤ 6000) (ht8 : th ≤ 18446744073709551615) (ou8 : ou ≤ 18446744073709551615) (w : World) (ht : Tabs w) :
    Calls Tryd.prog 23 #[.bool true, .agg #[.string own.name, .int .i64 own.gen], .agg #[.string other.name, .int .i64 other.gen], .string cookie, .int .u64 ou, .int .u64 th] w fun e w' => e = .returned (.string (proofF letD own other cookie th ou)) ∧ Below w.heap.size w w' := by
  have hl1 : (ByteArray.mk #[68]).size = 1 := rfl
  have e1 := encF_size own
  have e2 := encF_size other
  have e3 := numF_size th 8
  have e4 := numF_size ou 8
  have C1 := Lib.hid (fun W => peer_any own.name own.gen (by omega) g1 W)
  have C2 := Lib.hid (fun W => peer_any other.name other.gen (by omega) g2 W)
  have C3 : Hid (∀ W, Calls Tryd.prog 40 #[.int .u64 (th : Int), .int .i64 8] W fun e w' => e = .returned (.string (numF th 8)) ∧ Below W.heap.size W w') := Lib.hid (fun W => number_any 8 th W (by omega) ht8)
  have C4 : Hid (∀ W, Calls Tryd.prog 40 #[.int .u64 (ou : Int), .int .i64 8] W fun e w' => e = .returned (.string (numF ou 8)) ∧ Below W.heap.size W w') := Lib.hid (fun W => number_any 8 ou W (by omega) ou8)
  have HM : Hid (∀ W, Calls Tryd.prog 38 #[.string cookie, .string (ByteArray.mk #[68] ++ encF own ++ encF other ++ numF th 8 ++ numF ou 8)] W fun e w' => e = .returned (.string (proofF letD own other cookie th ou)) ∧ Below W.heap.size W w') :=
    Lib.hid (fun W => rmac_any cookie _ (by omega) (by simp only [ByteArray.size_append, hl1]; omega) W)
  have C1' : Hid (∀ W, Calls Tryd.prog 39 #[.agg #[.string own.name, .int .i64 own.gen]] W fun e w' => e = .returned (.string (encF own)) ∧ Below W.heap.size W w') := C1
  have C2' : Hid (∀ W, Calls Tryd.prog 39 #[.agg #[.string other.name, .int .i64 other.gen]] W fun e w' => e = .returned (.string (encF other)) ∧ Below W.heap.size W w') := C2
  obtain ⟨on, og⟩ := own
  obtain ⟨tn, tg⟩ := other
  obtain ⟨q1, hq1⟩ : ∃ q, q = encF ⟨on, og⟩ := ⟨_, rfl⟩
  obtain ⟨q2, hq2⟩ : ∃ q, q = encF ⟨tn, tg⟩ := ⟨_, rfl⟩
  obtain ⟨q3, hq3⟩ : ∃ q, q = numF th 8 := ⟨_, rfl⟩
  obtain ⟨q4, hq4⟩ : ∃ q, q = numF ou 8 := ⟨_, rfl⟩
  obtain ⟨P, hP⟩ : ∃ P, P = proofF letD ⟨on, og⟩ ⟨tn, tg⟩ cookie th ou := ⟨_, rfl⟩
  rw [← hq1] at e1 C1' HM
  rw [← hq2] at e2 C2' HM
  rw [← hq3] at e3 C3 HM
  rw [← hq4] at e4 C4 HM
  rw [← hP] at HM ⊢
  clear hq1 hq2 hq3 hq4 hP C1 C2
  simp only at e1 e2 h1 h2 g1 g2
  have z1 : q1.size ≤ 37 := by omega
  have z2 : q2.size ≤ 37 := by omega
  have z3 : q3.size ≤ 8 := by omega
  have z4 : q4.size ≤ 8 := by omega
  clear e1 e2 e3 e4
  have s1 : ¬ 9223372036854775807 < 1 + q1.size := by omega
  have s2 : ¬ 9223372036854775807 < 1 + q1.size + q2.size := by omega
  have s3 : ¬ 9223372036854775807 < 1 + q1.size + q2.size + q3.size := by omega
  have s4 : ¬ 9223372036854775807 < 1 + q1.size + q2.size + q3.size + q4.size := by omega
  have HT := Lib.hid ht
  clear ht h1 h2 g1 g2 z1 z2 z3 z4 hl1 ht8 ou8
  simp only
  have HS0 : Hid (∀ n, (((w.alloc (.cells #[.string on, .int .i64 (og : Int)] 23)).alloc (.cells #[.string tn, .int .i64 (tg : Int)] 23)).drewN n).cell? ⟨w.heap.size, 0, none⟩ = some (.string on) ∧ (((w.alloc (.cells #[.string on, .int .i64 (og : Int)] 23)).alloc (.cells #[.string tn, .int .i64 (tg : Int)] 23)).drewN n).cell? ⟨w.heap.size, 1, none⟩ = some (.int .i64 (og : Int)) ∧ (((w.alloc (.cells #[.string on, .int .i64 (og : Int)] 23)).alloc (.cells #[.string tn, .int .i64 (tg : Int)] 23)).drewN n).cell? ⟨w.heap.size + 1, 0, none⟩ = some (.string tn) ∧ (((w.alloc (.cells #[.string on, .int .i64 (og : Int)] 23)).alloc (.cells #[.string tn, .int .i64 (tg : Int)] 23)).drewN n).cell? ⟨w.heap.size + 1, 1, none⟩ = some (.int .i64 (tg : Int)) ∧ St w (((w.alloc (.cells #[.string on, .int .i64 (og : Int)] 23)).alloc (.cells #[.string tn, .int .i64 (tg : Int)] 23)).drewN n)) :=
    Lib.hid (fun n => ⟨by simp, by simp, by simp, by simp, ((((St.refl HT.out).alloc _).alloc _)).drewN n⟩)
  go_enter Tryd.func23, Tryd.ntmps23
  go_wp2
  go_region_held3 (fun w' => w'.cell? ⟨w.heap.size, 0, none⟩ = some (.string on) ∧ w'.cell? ⟨w.heap.size, 1, none⟩ = some (.int .i64 (og : Int)) ∧ w'.cell? ⟨w.heap.size + 1, 0, none⟩ = some (.string tn) ∧ w'.cell? ⟨w.heap.size + 1, 1, none⟩ = some (.int .i64 (tg : Int)) ∧ St w w')
    (first | exact HS0.out 1 | (obtain ⟨s1, s2, s3, s4, s5⟩ := (‹_ ∧ _ ∧ _ ∧ _ ∧ St _ _›); exact ⟨cell_keep (by assumption) s1, cell_keep (by assumption) s2, cell_keep (by assumption) s3, cell_keep (by assumption) s4, s5.keep (by assumption)⟩))
    (first
      | (go_at_call_of 39 (Value.agg #[Value.string on, Value.int IntKind.i64 (og : Int)]); refine (C1'.out _).mono ?_; rintro e w1 ⟨rfl, b1⟩)
      | (go_at_call_of 39 (Value.agg #[Value.string tn, Value.int IntKind.i64 (tg : Int)]); refine (C2'.out _).mono ?_; rintro e w2 ⟨rfl, b2⟩)
      | (go_at_call_of 40 (Value.int IntKind.u64 (th : Int)); refine (C3.out _).mono ?_; rintro e w3 ⟨rfl, b3⟩)
      | (go_at_call_of 40 (Value.int IntKind.u64 (ou : Int)); refine (C4.out _).mono ?_; rintro e w4 ⟨rfl, b4⟩)
      | (go_at_call 38; refine (HM.out _).mono ?_; rintro e w5 ⟨rfl, b5⟩))
  all_goals (go_wp2; go_ret; exact ⟨rfl, ((‹_ ∧ _ ∧ _ ∧ _ ∧ St _ _›).2.2.2.2).bel⟩)
set_option maxRecDepth 100000 in
set_option maxHeartbeats 1000000 in
theorem proofR_L (own other : Pr) (cookie : ByteArray) (th ou : Nat) (h1 : own.name.size ≤ 32) (h2 : other.name.size ≤ 32) (g1 : own.gen ≤ 2147483647) (g2 : other.gen ≤ 2147483647) (hc : cookie.size ≤ 6000) (ht8 : th ≤ 18446744073709551615) (ou8 : ou ≤ 18446744073709551615) (w : World) (ht : Tabs w) :
    Calls Tryd.prog 23 #[.bool false, .agg #[.string other.name, .int .i64 other.gen], .agg #[.string own.name, .int .i64 own.gen], .string cookie, .int .u64 th, .int .u64 ou] w fun e w' => e = .returned (.string (proofF letL own other cookie th ou)) ∧ Below w.heap.size w w' := by
  have hl1 : (ByteArray.mk #[76]).size = 1 := rfl
  have e1 := encF_size own
  have e2 := encF_size other
  have e3 := numF_size th 8
  have e4 := numF_size ou 8
  have C1 := Lib.hid (fun W => peer_any own.name own.gen (by omega) g1 W)
  have C2 := Lib.hid (fun W => peer_any other.name other.gen (by omega) g2 W)
  have C3 : Hid (∀ W, Calls Tryd.prog 40 #[.int .u64 (th : Int), .int .i64 8] W fun e w' => e = .returned (.string (numF th 8)) ∧ Below W.heap.size W w') := Lib.hid (fun W => number_any 8 th W (by omega) ht8)
  have C4 : Hid (∀ W, Calls Tryd.prog 40 #[.int .u64 (ou : Int), .int .i64 8] W fun e w' => e = .returned (.string (numF ou 8)) ∧ Below W.heap.size W w') := Lib.hid (fun W => number_any 8 ou W (by omega) ou8)
  have HM : Hid (∀ W, Calls Tryd.prog 38 #[.string cookie, .string (ByteArray.mk #[76] ++ encF own ++ encF other ++ numF th 8 ++ numF ou 8)] W fun e w' => e = .returned (.string (proofF letL own other cookie th ou)) ∧ Below W.heap.size W w') :=
    Lib.hid (fun W => rmac_any cookie _ (by omega) (by simp only [ByteArray.size_append, hl1]; omega) W)
  have C1' : Hid (∀ W, Calls Tryd.prog 39 #[.agg #[.string own.name, .int .i64 own.gen]] W fun e w' => e = .returned (.string (encF own)) ∧ Below W.heap.size W w') := C1
  have C2' : Hid (∀ W, Calls Tryd.prog 39 #[.agg #[.string other.name, .int .i64 other.gen]] W fun e w' => e = .returned (.string (encF other)) ∧ Below W.heap.size W w') := C2
  obtain ⟨on, og⟩ := own
  obtain ⟨tn, tg⟩ := other
  obtain ⟨q1, hq1⟩ : ∃ q, q = encF ⟨on, og⟩ := ⟨_, rfl⟩
  obtain ⟨q2, hq2⟩ : ∃ q, q = encF ⟨tn, tg⟩ := ⟨_, rfl⟩
  obtain ⟨q3, hq3⟩ : ∃ q, q = numF th 8 := ⟨_, rfl⟩
  obtain ⟨q4, hq4⟩ : ∃ q, q = numF ou 8 := ⟨_, rfl⟩
  obtain ⟨P, hP⟩ : ∃ P, P = proofF letL ⟨on, og⟩ ⟨tn, tg⟩ cookie th ou := ⟨_, rfl⟩
  rw [← hq1] at e1 C1' HM
  rw [← hq2] at e2 C2' HM
  rw [← hq3] at e3 C3 HM
  rw [← hq4] at e4 C4 HM
  rw [← hP] at HM ⊢
  clear hq1 hq2 hq3 hq4 hP C1 C2
  simp only at e1 e2 h1 h2 g1 g2
  have z1 : q1.size ≤ 37 := by omega
  have z2 : q2.size ≤ 37 := by omega
  have z3 : q3.size ≤ 8 := by omega
  have z4 : q4.size ≤ 8 := by omega
  clear e1 e2 e3 e4
  have s1 : ¬ 9223372036854775807 < 1 + q1.size := by omega
  have s2 : ¬ 9223372036854775807 < 1 + q1.size + q2.size := by omega
  have s3 : ¬ 9223372036854775807 < 1 + q1.size + q2.size + q3.size := by omega
  have s4 : ¬ 9223372036854775807 < 1 + q1.size + q2.size + q3.size + q4.size := by omega
  have HT := Lib.hid ht
  clear ht h1 h2 g1 g2 z1 z2 z3 z4 hl1 ht8 ou8
  simp only
  have HS0 : Hid (∀ n, (((w.alloc (.cells #[.string tn, .int .i64 (tg : Int)] 23)).alloc (.cells #[.string on, .int .i64 (og : Int)] 23)).drewN n).cell? ⟨w.heap.size + 1, 0, none⟩ = some (.string on) ∧ (((w.alloc (.cells #[.string tn, .int .i64 (tg : Int)] 23)).alloc (.cells #[.string on, .int .i64 (og : Int)] 23)).drewN n).cell? ⟨w.heap.size + 1, 1, none⟩ = some (.int .i64 (og : Int)) ∧ (((w.alloc (.cells #[.string tn, .int .i64 (tg : Int)] 23)).alloc (.cells #[.string on, .int .i64 (og : Int)] 23)).drewN n).cell? ⟨w.heap.size, 0, none⟩ = some (.string tn) ∧ (((w.alloc (.cells #[.string tn, .int .i64 (tg : Int)] 23)).alloc (.cells #[.string on, .int .i64 (og : Int)] 23)).drewN n).cell? ⟨w.heap.size, 1, none⟩ = some (.int .i64 (tg : Int)) ∧ St w (((w.alloc (.cells #[.string tn, .int .i64 (tg : Int)] 23)).alloc (.cells #[.string on, .int .i64 (og : Int)] 23)).drewN n)) :=
    Lib.hid (fun n => ⟨by simp, by simp, by simp, by simp, ((((St.refl HT.out).alloc _).alloc _)).drewN n⟩)
  go_enter Tryd.func23, Tryd.ntmps23
  go_wp2
  go_region_held3 (fun w' => w'.cell? ⟨w.heap.size + 1, 0, none⟩ = some (.string on) ∧ w'.cell? ⟨w.heap.size + 1, 1, none⟩ = some (.int .i64 (og : Int)) ∧ w'.cell? ⟨w.heap.size, 0, none⟩ = some (.string tn) ∧ w'.cell? ⟨w.heap.size, 1, none⟩ = some (.int .i64 (tg : Int)) ∧ St w w')
    (first | exact HS0.out 1 | (obtain ⟨s1, s2, s3, s4, s5⟩ := (‹_ ∧ _ ∧ _ ∧ _ ∧ St _ _›); exact ⟨cell_keep (by assumption) s1, cell_keep (by assumption) s2, cell_keep (by assumption) s3, cell_keep (by assumption) s4, s5.keep (by assumption)⟩))
    (first
      | (go_at_call_of 39 (Value.agg #[Value.string on, Value.int IntKind.i64 (og : Int)]); refine (C1'.out _).mono ?_; rintro e w1 ⟨rfl, b1⟩)
      | (go_at_call_of 39 (Value.agg #[Value.string tn, Value.int IntKind.i64 (tg : Int)]); refine (C2'.out _).mono ?_; rintro e w2 ⟨rfl, b2⟩)
      | (go_at_call_of 40 (Value.int IntKind.u64 (th : Int)); refine (C3.out _).mono ?_; rintro e w3 ⟨rfl, b3⟩)
      | (go_at_call_of 40 (Value.int IntKind.u64 (ou : Int)); refine (C4.out _).mono ?_; rintro e w4 ⟨rfl, b4⟩)
      | (go_at_call 38; refine (HM.out _).mono ?_; rintro e w5 ⟨rfl, b5⟩))
  all_goals (go_wp2; go_ret; exact ⟨rfl, ((‹_ ∧ _ ∧ _ ∧ _ ∧ St _ _›).2.2.2.2).bel⟩)
end Go.Proofs.YtnkkbkceapcahaaDoor
