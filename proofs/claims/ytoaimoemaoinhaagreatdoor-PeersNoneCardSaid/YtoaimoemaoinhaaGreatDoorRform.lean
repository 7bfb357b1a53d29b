/- The reference's Formed, Whole, Check, Valid of a term: the same plain functions as the program's. -/
import Derived.Test.YtoaimoemaoinhaaGreatDoorValid
namespace Go.Proofs.YtoaimoemaoinhaaGreatDoor
open Go.RowKit Go.Rt Go.Rw

theorem sizeL_take_le (l : List Tm) (k : Nat) : sizeL (l.take k) ≤ sizeL l := by
  induction l generalizing k with
  | nil => simp
  | cons t r ih =>
    cases k with
    | zero => simp [sizeL]
    | succ k => have := ih k; simp [sizeL]; omega
theorem bulkL_mem : ∀ (l : List Tm) (t : Tm), t ∈ l → bulk t ≤ bulkL l
  | [], t, h => by cases h
  | u :: r, t, h => by
    rw [bulkL]
    rcases List.mem_cons.1 h with rfl | q
    · omega
    · have := bulkL_mem r t q; omega
theorem isEmpty_no {a : ByteArray} (h : ¬ a.size = 0) : a.toList.isEmpty = false := by
  rw [ByteArray.toList_eq]
  cases hh : a.data.toList with
  | nil => exact absurd (by show a.data.size = 0; rw [← Array.length_toList, hh]; rfl) h
  | cons _ _ => rfl
set_option maxRecDepth 100000 in
set_option maxHeartbeats 2000000 in
theorem rbare_any (f : Fl) (sa : Option Addr) (len cap : Nat) (w : World) :
    Calls Tryz.prog 246 #[ftV ⟨f, .slice sa len cap⟩] w fun e w' => e = .returned (ftV ⟨{ bareF f with k := 0 }, itemsV f.k (.slice sa len cap)⟩) ∧ Below w.heap.size w w' := by
  obtain ⟨k, n, g, nm, fn, ar, bs, bt⟩ := f
  obtain ⟨RV, hRV⟩ : ∃ RV, RV = ftV ⟨{ bareF ⟨k, n, g, nm, fn, ar, bs, bt⟩ with k := 0 }, itemsV k (.slice sa len cap)⟩ := ⟨_, rfl⟩
  dsimp only
  rw [← hRV]
  by_cases q1 : k = 1
  · subst q1
    obtain rfl : RV = .agg #[.int .i64 0, .int .i64 0, .int .i64 g, .string nm, .string fn, .int .i64 ar, (.slice sa len cap), .string bs, .int .i64 bt] := by rw [hRV]; rfl
    clear hRV
    unfold ftV
    go_enter Tryz.func246, Tryz.ntmps246
    go_wp2_with fail
    refine bodyPost_ret (v := .agg #[.int .i64 0, .int .i64 0, .int .i64 g, .string nm, .string fn, .int .i64 ar, (.slice sa len cap), .string bs, .int .i64 bt]) (by simp [results, Tryz.results246, go_sem]) rfl ⟨rfl, ?_⟩
    exact ((Below.refl _ _).alloc (Nat.le_refl _) _).alloc (by simp) _
  · -- not 1
    by_cases q2 : k = 2
    · subst q2
      obtain rfl : RV = .agg #[.int .i64 0, .int .i64 n, .int .i64 g, .string ⟨#[]⟩, .string fn, .int .i64 ar, (.slice sa len cap), .string bs, .int .i64 bt] := by rw [hRV]; rfl
      clear hRV
      unfold ftV
      go_enter Tryz.func246, Tryz.ntmps246
      go_wp2_with fail
      refine bodyPost_ret (v := .agg #[.int .i64 0, .int .i64 n, .int .i64 g, .string ⟨#[]⟩, .string fn, .int .i64 ar, (.slice sa len cap), .string bs, .int .i64 bt]) (by simp [results, Tryz.results246, go_sem]) rfl ⟨rfl, ?_⟩
      exact ((Below.refl _ _).alloc (Nat.le_refl _) _).alloc (by simp) _
    · -- not 2
      by_cases q3 : k = 3
      · subst q3
        obtain rfl : RV = .agg #[.int .i64 0, .int .i64 0, .int .i64 0, .string ⟨#[]⟩, .string fn, .int .i64 ar, (.slice sa len cap), .string bs, .int .i64 bt] := by rw [hRV]; rfl
        clear hRV
        unfold ftV
        go_enter Tryz.func246, Tryz.ntmps246
        go_wp2_with fail
        refine bodyPost_ret (v := .agg #[.int .i64 0, .int .i64 0, .int .i64 0, .string ⟨#[]⟩, .string fn, .int .i64 ar, (.slice sa len cap), .string bs, .int .i64 bt]) (by simp [results, Tryz.results246, go_sem]) rfl ⟨rfl, ?_⟩
        exact ((Below.refl _ _).alloc (Nat.le_refl _) _).alloc (by simp) _
      · -- not 3
        by_cases q4 : k = 4
        · subst q4
          obtain rfl : RV = .agg #[.int .i64 0, .int .i64 0, .int .i64 0, .string ⟨#[]⟩, .string fn, .int .i64 0, (.slice none 0 0), .string bs, .int .i64 bt] := by rw [hRV]; rfl
          clear hRV
          unfold ftV
          go_enter Tryz.func246, Tryz.ntmps246
          go_wp2_with fail
          refine bodyPost_ret (v := .agg #[.int .i64 0, .int .i64 0, .int .i64 0, .string ⟨#[]⟩, .string fn, .int .i64 0, (.slice none 0 0), .string bs, .int .i64 bt]) (by simp [results, Tryz.results246, go_sem]) rfl ⟨rfl, ?_⟩
          exact ((Below.refl _ _).alloc (Nat.le_refl _) _).alloc (by simp) _
        · -- not 4
          by_cases q5 : k = 5
          · subst q5
            obtain rfl : RV = .agg #[.int .i64 0, .int .i64 n, .int .i64 g, .string ⟨#[]⟩, .string ⟨#[]⟩, .int .i64 0, (.slice sa len cap), .string bs, .int .i64 bt] := by rw [hRV]; rfl
            clear hRV
            unfold ftV
            go_enter Tryz.func246, Tryz.ntmps246
            go_wp2_with fail
            refine bodyPost_ret (v := .agg #[.int .i64 0, .int .i64 n, .int .i64 g, .string ⟨#[]⟩, .string ⟨#[]⟩, .int .i64 0, (.slice sa len cap), .string bs, .int .i64 bt]) (by simp [results, Tryz.results246, go_sem]) rfl ⟨rfl, ?_⟩
            exact ((Below.refl _ _).alloc (Nat.le_refl _) _).alloc (by simp) _
          · -- not 5
            by_cases q6 : k = 6
            · subst q6
              obtain rfl : RV = .agg #[.int .i64 0, .int .i64 0, .int .i64 0, .string ⟨#[]⟩, .string fn, .int .i64 ar, (.slice sa len cap), .string bs, .int .i64 bt] := by rw [hRV]; rfl
              clear hRV
              unfold ftV
              go_enter Tryz.func246, Tryz.ntmps246
              go_wp2_with fail
              refine bodyPost_ret (v := .agg #[.int .i64 0, .int .i64 0, .int .i64 0, .string ⟨#[]⟩, .string fn, .int .i64 ar, (.slice sa len cap), .string bs, .int .i64 bt]) (by simp [results, Tryz.results246, go_sem]) rfl ⟨rfl, ?_⟩
              exact ((Below.refl _ _).alloc (Nat.le_refl _) _).alloc (by simp) _
            · -- not 6
              by_cases q7 : k = 7
              · subst q7
                obtain rfl : RV = .agg #[.int .i64 0, .int .i64 n, .int .i64 g, .string nm, .string fn, .int .i64 ar, (.slice none 0 0), .string bs, .int .i64 bt] := by rw [hRV]; rfl
                clear hRV
                unfold ftV
                go_enter Tryz.func246, Tryz.ntmps246
                go_wp2_with fail
                refine bodyPost_ret (v := .agg #[.int .i64 0, .int .i64 n, .int .i64 g, .string nm, .string fn, .int .i64 ar, (.slice none 0 0), .string bs, .int .i64 bt]) (by simp [results, Tryz.results246, go_sem]) rfl ⟨rfl, ?_⟩
                exact ((Below.refl _ _).alloc (Nat.le_refl _) _).alloc (by simp) _
              · -- not 7
                by_cases q8 : k = 8
                · subst q8
                  obtain rfl : RV = .agg #[.int .i64 0, .int .i64 n, .int .i64 g, .string nm, .string fn, .int .i64 ar, (.slice sa len cap), .string bs, .int .i64 bt] := by rw [hRV]; rfl
                  clear hRV
                  unfold ftV
                  go_enter Tryz.func246, Tryz.ntmps246
                  go_wp2_with fail
                  refine bodyPost_ret (v := .agg #[.int .i64 0, .int .i64 n, .int .i64 g, .string nm, .string fn, .int .i64 ar, (.slice sa len cap), .string bs, .int .i64 bt]) (by simp [results, Tryz.results246, go_sem]) rfl ⟨rfl, ?_⟩
                  exact ((Below.refl _ _).alloc (Nat.le_refl _) _).alloc (by simp) _
                · -- not 8
                  by_cases q9 : k = 9
                  · subst q9
                    obtain rfl : RV = .agg #[.int .i64 0, .int .i64 n, .int .i64 g, .string nm, .string fn, .int .i64 ar, (.slice none 0 0), .string bs, .int .i64 bt] := by rw [hRV]; rfl
                    clear hRV
                    unfold ftV
                    go_enter Tryz.func246, Tryz.ntmps246
                    go_wp2_with fail
                    refine bodyPost_ret (v := .agg #[.int .i64 0, .int .i64 n, .int .i64 g, .string nm, .string fn, .int .i64 ar, (.slice none 0 0), .string bs, .int .i64 bt]) (by simp [results, Tryz.results246, go_sem]) rfl ⟨rfl, ?_⟩
                    exact ((Below.refl _ _).alloc (Nat.le_refl _) _).alloc (by simp) _
                  · -- not 9
                    by_cases q10 : k = 10
                    · subst q10
                      obtain rfl : RV = .agg #[.int .i64 0, .int .i64 n, .int .i64 g, .string nm, .string fn, .int .i64 ar, (.slice sa len cap), .string ⟨#[]⟩, .int .i64 0] := by rw [hRV]; rfl
                      clear hRV
                      unfold ftV
                      go_enter Tryz.func246, Tryz.ntmps246
                      go_wp2_with fail
                      refine bodyPost_ret (v := .agg #[.int .i64 0, .int .i64 n, .int .i64 g, .string nm, .string fn, .int .i64 ar, (.slice sa len cap), .string ⟨#[]⟩, .int .i64 0]) (by simp [results, Tryz.results246, go_sem]) rfl ⟨rfl, ?_⟩
                      exact ((Below.refl _ _).alloc (Nat.le_refl _) _).alloc (by simp) _
                    · -- not 10
                      obtain rfl : RV = .agg #[.int .i64 0, .int .i64 n, .int .i64 g, .string nm, .string fn, .int .i64 ar, (.slice sa len cap), .string bs, .int .i64 bt] := by rw [hRV]; unfold bareF itemsV usesL ftV; simp [q1, q2, q3, q4, q5, q6, q7, q9, q10]
                      have d1 : (k == 1) = false := by simpa using q1
                      have d2 : (k == 2) = false := by simpa using q2
                      have d3 : (k == 3) = false := by simpa using q3
                      have d4 : (k == 4) = false := by simpa using q4
                      have d5 : (k == 5) = false := by simpa using q5
                      have d6 : (k == 6) = false := by simpa using q6
                      have d7 : (k == 7) = false := by simpa using q7
                      have d8 : (k == 8) = false := by simpa using q8
                      have d9 : (k == 9) = false := by simpa using q9
                      have d10 : (k == 10) = false := by simpa using q10
                      clear hRV q1 q2 q3 q4 q5 q6 q7 q8 q9 q10
                      unfold ftV
                      go_enter Tryz.func246, Tryz.ntmps246
                      go_wp2_with fail
                      refine bodyPost_ret (v := .agg #[.int .i64 0, .int .i64 n, .int .i64 g, .string nm, .string fn, .int .i64 ar, (.slice sa len cap), .string bs, .int .i64 bt]) (by simp [results, Tryz.results246, go_sem]) rfl ⟨rfl, ?_⟩
                      exact ((Below.refl _ _).alloc (Nat.le_refl _) _).alloc (by simp) _
set_option maxRecDepth 100000 in
set_option maxHeartbeats 2000000 in
theorem rzero_any (n g : Int) (nm fn : ByteArray) (ar : Int) (sa : Option Addr) (len cap : Nat) (bs : ByteArray) (bt : Int) (w : World) :
    Calls Tryz.prog 245 #[.agg #[.int .i64 0, .int .i64 n, .int .i64 g, .string nm, .string fn, .int .i64 ar, .slice sa len cap, .string bs, .int .i64 bt]] w fun e w' => e = .returned (.bool (zeroF ⟨0, n, g, nm, fn, ar, bs, bt⟩ && decide (len = 0))) ∧ Below w.heap.size w w' := by
  obtain ⟨r, hr⟩ : ∃ r, r = (zeroF ⟨0, n, g, nm, fn, ar, bs, bt⟩ && decide (len = 0)) := ⟨_, rfl⟩
  rw [← hr]
  unfold zeroF at hr
  dsimp only at hr
  by_cases qn : n = 0
  · subst qn
    by_cases qg : g = 0
    · subst qg
      by_cases qnm : nm.size = 0
      · obtain rfl : nm = ⟨#[]⟩ := ByteArray.ext (Array.eq_empty_of_size_eq_zero qnm)
        clear qnm
        by_cases qfn : fn.size = 0
        · obtain rfl : fn = ⟨#[]⟩ := ByteArray.ext (Array.eq_empty_of_size_eq_zero qfn)
          clear qfn
          by_cases qar : ar = 0
          · subst qar
            by_cases qlen : len = 0
            · subst qlen
              by_cases qbs : bs.size = 0
              · obtain rfl : bs = ⟨#[]⟩ := ByteArray.ext (Array.eq_empty_of_size_eq_zero qbs)
                clear qbs
                by_cases qbt : bt = 0
                · subst qbt
                  obtain rfl : r = true := by rw [hr]; rfl
                  clear hr
                  go_enter Tryz.func245, Tryz.ntmps245
                  go_wp2_with fail
                  go_ret
                  exact ⟨rfl, (Below.refl _ _).alloc (Nat.le_refl _) _⟩
                · obtain rfl : r = false := by rw [hr]; simp [qbt]
                  have d : (bt == 0) = false := by simpa using qbt
                  clear hr qbt
                  go_enter Tryz.func245, Tryz.ntmps245
                  go_wp2_with fail
                  go_ret
                  exact ⟨rfl, (Below.refl _ _).alloc (Nat.le_refl _) _⟩
              · obtain rfl : r = false := by rw [hr]; simp [qbs]
                have d : bs.toList.isEmpty = false := isEmpty_no qbs
                clear hr qbs
                go_enter Tryz.func245, Tryz.ntmps245
                go_wp2_with fail
                go_ret
                exact ⟨rfl, (Below.refl _ _).alloc (Nat.le_refl _) _⟩
            · obtain rfl : r = false := by rw [hr]; simp [qlen]
              have d : ((len : Int) == 0) = false := by rw [beq_eq_false_iff_ne]; exact_mod_cast qlen
              clear hr qlen
              go_enter Tryz.func245, Tryz.ntmps245
              go_wp2_with fail
              go_ret
              exact ⟨rfl, (Below.refl _ _).alloc (Nat.le_refl _) _⟩
          · obtain rfl : r = false := by rw [hr]; simp [qar]
            have d : (ar == 0) = false := by simpa using qar
            clear hr qar
            go_enter Tryz.func245, Tryz.ntmps245
            go_wp2_with fail
            go_ret
            exact ⟨rfl, (Below.refl _ _).alloc (Nat.le_refl _) _⟩
        · obtain rfl : r = false := by rw [hr]; simp [qfn]
          have d : fn.toList.isEmpty = false := isEmpty_no qfn
          clear hr qfn
          go_enter Tryz.func245, Tryz.ntmps245
          go_wp2_with fail
          go_ret
          exact ⟨rfl, (Below.refl _ _).alloc (Nat.le_refl _) _⟩
      · obtain rfl : r = false := by rw [hr]; simp [qnm]
        have d : nm.toList.isEmpty = false := isEmpty_no qnm
        clear hr qnm
        go_enter Tryz.func245, Tryz.ntmps245
        go_wp2_with fail
        go_ret
        exact ⟨rfl, (Below.refl _ _).alloc (Nat.le_refl _) _⟩
    · obtain rfl : r = false := by rw [hr]; simp [qg]
      have d : (g == 0) = false := by simpa using qg
      clear hr qg
      go_enter Tryz.func245, Tryz.ntmps245
      go_wp2_with fail
      go_ret
      exact ⟨rfl, (Below.refl _ _).alloc (Nat.le_refl _) _⟩
  · obtain rfl : r = false := by rw [hr]; simp [qn]
    have d : (n == 0) = false := by simpa using qn
    clear hr qn
    go_enter Tryz.func245, Tryz.ntmps245
    go_wp2_with fail
    go_ret
    exact ⟨rfl, (Below.refl _ _).alloc (Nat.le_refl _) _⟩
theorem between_any (n a b : Int) (w : World) :
    Calls Tryz.prog 247 #[.int .i64 n, .int .i64 a, .int .i64 b] w fun e w' => e = .returned (.bool (inB n a b)) ∧ w = w' := by
  obtain ⟨r, hr⟩ : ∃ r, r = inB n a b := ⟨_, rfl⟩
  rw [← hr]
  unfold inB at hr
  by_cases h1 : a ≤ n
  · by_cases h2 : n ≤ b
    · obtain rfl : r = true := by simpa [h1, h2] using hr
      clear hr
      go_enter Tryz.func247, Tryz.ntmps247
      go_wp2
      go_ret
      exact ⟨rfl, rfl⟩
    · obtain rfl : r = false := by simpa [h1, h2] using hr
      clear hr
      go_enter Tryz.func247, Tryz.ntmps247
      go_wp2
      go_ret
      exact ⟨rfl, rfl⟩
  · obtain rfl : r = false := by simpa [h1] using hr
    clear hr
    go_enter Tryz.func247, Tryz.ntmps247
    go_wp2
    go_ret
    exact ⟨rfl, rfl⟩
set_option maxRecDepth 100000 in
set_option maxHeartbeats 2000000 in
theorem rbits_any (k n g : Int) (nm fn : ByteArray) (ar : Int) (sa : Option Addr) (len cap : Nat) (bs : ByteArray) (bt : Int) (w : World) (hz : bs.size ≤ maxLen) :
    Calls Tryz.prog 248 #[.agg #[.int .i64 k, .int .i64 n, .int .i64 g, .string nm, .string fn, .int .i64 ar, .slice sa len cap, .string bs, .int .i64 bt]] w fun e w' => e = .returned (.bool (bitsB bs bt)) ∧ Below w.heap.size w w' := by
  have hsz : bs.size ≤ 9223372036854775807 := hz
  clear hz
  obtain ⟨r, hr⟩ : ∃ r, r = bitsB bs bt := ⟨_, rfl⟩
  rw [← hr]
  unfold bitsB inB at hr
  by_cases h0 : bt < 0
  · obtain rfl : r = false := by rw [hr, decide_eq_false (by omega : ¬ 0 ≤ bt)]; rfl
    have d0 : decide (bt < 0) = true := by simpa using h0
    clear hr h0
    go_enter Tryz.func248, Tryz.ntmps248
    go_wp2_with fail
    go_ret
    exact ⟨rfl, (Below.refl _ _).alloc (Nat.le_refl _) _⟩
  · obtain ⟨m, rfl⟩ : ∃ m : Nat, bt = m := Int.eq_ofNat_of_zero_le (by omega)
    rw [decide_eq_true (by omega : (0 : Int) ≤ (m : Int)), Bool.true_and] at hr
    have d0 : decide ((m : Int) < 0) = false := by simp
    by_cases h1 : 16384 < m
    · obtain rfl : r = false := by rw [hr, decide_eq_false (by omega : ¬ (m : Int) ≤ 16384)]; rfl
      have d1 : decide ((m : Int) > 16384) = true := decide_eq_true (by omega)
      clear hr h0
      go_enter Tryz.func248, Tryz.ntmps248
      go_wp2_with fail
      go_ret
      exact ⟨rfl, (Below.refl _ _).alloc (Nat.le_refl _) _⟩
    · have hm : m ≤ 16384 := by omega
      rw [decide_eq_true (by omega : (m : Int) ≤ 16384), Bool.true_and] at hr
      have d1 : decide ((m : Int) > 16384) = false := decide_eq_false (by omega)
      by_cases h2 : bs.size = (m + 7) / 8
      · rw [decide_eq_true (by omega : (bs.size : Int) = ((m : Int) + 7) / 8), Bool.true_and] at hr
        have hI : ((m : Int) + 7) / 8 = (bs.size : Int) := by omega
        have hs2 : bs.size ≤ 2048 := by omega
        by_cases h3 : m % 8 = 0
        · obtain rfl : r = true := by rw [hr, decide_eq_true (by omega : (m : Int) % 8 = 0)]; rfl
          have hJ : ((m : Int) % 8 == 0) = true := by simpa using (by omega : (m : Int) % 8 = 0)
          clear hr h0 h1 h2 h3
          go_enter Tryz.func248, Tryz.ntmps248
          go_wp2_with fail
          go_ret
          exact ⟨rfl, (Below.refl _ _).alloc (Nat.le_refl _) _⟩
        · rw [decide_eq_false (by omega : ¬ (m : Int) % 8 = 0), Bool.false_or] at hr
          have h3' : 0 < bs.size := by omega
          obtain ⟨j, hj, hj8⟩ : ∃ j : Nat, (m : Int) % 8 = (j : Int) ∧ j < 8 := ⟨m % 8, by omega, by omega⟩
          have hj0 : j ≠ 0 := by omega
          have hJ : ((j : Int) == 0) = false := by simpa using hj0
          have hx : ∀ W, (Instr.index 9 (.string bs) (.int .i64 ((bs.size - 1 : Nat) : Int))).run Tryz.prog W = .ok (.int .u8 (atB bs (bs.size - 1) : Int)) W := fun W => by
            rw [run_index_string W 9 bs .i64 _ Tryz.underlying9, dif_pos (by omega), atB_get bs (bs.size - 1) (by omega)]
            rfl
          have hxl : atB bs (bs.size - 1) < 256 := by unfold atB; exact UInt8.toNat_lt _
          unfold padB at hr
          rw [hj, show (8 - (j : Int)).toNat = 8 - j by omega] at hr
          obtain ⟨x, hxe⟩ : ∃ x, x = atB bs (bs.size - 1) := ⟨_, rfl⟩
          rw [← hxe] at hx hxl hr
          have HR := Lib.hid hr
          have e3 : IntKind.i64.wrap ((bs.size : Int) - 1) = ((bs.size - 1 : Nat) : Int) := by rw [IntWalk.i64_in _ (by omega)]; omega
          have ew : IntKind.i64.wrap (x : Int) = (x : Int) := by rw [IntKind.wrap_i64]; omega
          clear hr h0 h1 h2 h3 hxe
          go_enter Tryz.func248, Tryz.ntmps248
          go_wp2_with fail
          go_loopw [4, 5] (fun u i wr => ∃ c v : Nat, j ≤ c ∧ c ≤ 8 ∧ i = .int .i64 c ∧ u = .int .i64 v ∧ v = 2 ^ (c - j) ∧ Below w.heap.size w wr) (fun u i _ => 8 - (intOf i).toNat)
          case atStart => exact ⟨j, 1, Nat.le_refl _, by omega, by rw [hj], rfl, by simp, (Below.refl _ _).alloc (Nat.le_refl _) _⟩
          case round =>
            obtain ⟨c, v, hc1, hc2, rfl, rfl, hv, bw⟩ := hrel
            have BW := Lib.hid bw
            have HV := Lib.hid hv
            clear bw
            have hv2 : v ≤ 256 := by rw [hv]; exact Nat.le_trans (Nat.pow_le_pow_right (by omega) (by omega : c - j ≤ 8)) (by decide)
            have hv0 : 0 < v := by rw [hv]; exact Nat.pow_pos (by omega)
            clear hv
            by_cases hlt : c < 8
            · have dc : decide ((c : Int) < 8) = true := by simpa using (by omega : (c : Int) < 8)
              have hW : IntKind.i64.wrap ((v : Int) * 2) = ((v * 2 : Nat) : Int) := by rw [IntKind.wrap_i64]; omega
              go_wp2_with fail
              go_roundw
              case rel => exact ⟨c + 1, v * 2, by omega, by omega, by go_num, rfl, by rw [HV.out, show c + 1 - j = (c - j) + 1 by omega, Nat.pow_succ], BW.out⟩
              case measure => simp [intOf]; omega
            · obtain rfl : c = 8 := by omega
              have hq : r = decide (x % v = 0) := by rw [HR.out, HV.out]
              have hv3 : ((v : Int) == 0) = false := by rw [beq_eq_false_iff_ne]; omega
              have hY : ((x : Int) % (v : Int) == 0) = r := by
                rw [hq, show (x : Int) % (v : Int) = ((x % v : Nat) : Int) from rfl]
                by_cases q : x % v = 0
                · rw [q]; rfl
                · rw [decide_eq_false q, beq_eq_false_iff_ne]; exact fun h => q (Int.ofNat.inj h)
              clear hq
              go_wp2_with fail
              go_ret
              exact ⟨rfl, BW.out⟩
      · obtain rfl : r = false := by rw [hr, decide_eq_false (by omega : ¬ (bs.size : Int) = ((m : Int) + 7) / 8)]; rfl
        have hI : ((bs.size : Int) != ((m : Int) + 7) / 8) = true := by rw [bne_iff_ne]; omega
        clear hr h0 h1 h2
        go_enter Tryz.func248, Tryz.ntmps248
        go_wp2_with fail
        go_ret
        exact ⟨rfl, (Below.refl _ _).alloc (Nat.le_refl _) _⟩
set_option maxRecDepth 100000 in
set_option maxHeartbeats 2000000 in
theorem rformed_core (S : Nat → Prop) (k n g : Int) (nm fn : ByteArray) (ar : Int) (bs : ByteArray) (bt : Int) (l : List Tm) (sa : Option Addr) (cap : Nat) (w : World) (hl : ItsAt S w l (.slice sa l.length cap)) (hz : bs.size ≤ 200000)
    (ih : ∀ t ∈ l, ∀ (x : Ft) (W : World), TmAt S W t x → Calls Tryz.prog 237 #[ftV x] W fun e w' => e = .returned (.bool (formed t)) ∧ Below W.heap.size W w') :
    Calls Tryz.prog 237 #[ftV ⟨⟨k, n, g, nm, fn, ar, bs, bt⟩, .slice sa l.length cap⟩] w fun e w' => e = .returned (.bool (formed (.mk ⟨k, n, g, nm, fn, ar, bs, bt⟩ l))) ∧ Below w.heap.size w w' := by
  have hmx := hl.form.1
  obtain ⟨sa', len', cap', ev, eo⟩ := ownB_eq ⟨k, n, g, nm, fn, ar, bs, bt⟩ l sa cap
  have CB := fun W => rbare_any ⟨k, n, g, nm, fn, ar, bs, bt⟩ sa l.length cap W
  dsimp only at CB ev
  rw [ev] at CB
  rw [formed, ← eo]
  clear ev eo
  generalize bareF ⟨k, n, g, nm, fn, ar, bs, bt⟩ = gf at CB ⊢
  obtain ⟨gk, gn, gg, gnm, gfn, gar, gbs, gbt⟩ := gf
  unfold ftV at CB ⊢
  dsimp only at CB ⊢
  have CZ := fun W => rzero_any gn gg gnm gfn gar sa' len' cap' gbs gbt W
  obtain ⟨RZ, hRZ⟩ : ∃ RZ, RZ = (zeroF ⟨0, gn, gg, gnm, gfn, gar, gbs, gbt⟩ && decide (len' = 0)) := ⟨_, rfl⟩
  rw [← hRZ] at CZ ⊢
  clear hRZ
  obtain ⟨RA, hRA⟩ : ∃ RA, RA = ((okF ⟨k, n, g, nm, fn, ar, bs, bt⟩ l && RZ) && formedL l) := ⟨_, rfl⟩
  rw [← hRA]
  have HCB := Lib.hid CB
  have HCZ := Lib.hid CZ
  have HRA := Lib.hid hRA
  have HL := Lib.hid hl
  have IH := Lib.hid ih
  obtain ⟨len, hlen⟩ : ∃ len, len = l.length := ⟨_, rfl⟩
  rw [← hlen] at HL HCB hmx ⊢
  have HLEN := Lib.hid hlen
  clear CB CZ hRA hl ih hlen
  have BX0 := Lib.hid (Blk.new w 48 #[.int .i64 k, .int .i64 n, .int .i64 g, .string nm, .string fn, .int .i64 ar, .slice sa len cap, .string bs, .int .i64 bt])
  go_enter Tryz.func237, Tryz.ntmps237
  go_wp2_with fail
  refine (HCB.out _).mono ?_
  rintro e w1 ⟨rfl, b1⟩
  have X1 := Lib.hid (BX0.out.below b1 BX0.out.lt)
  have B1 := Lib.hid (((Below.refl _ _).alloc (Nat.le_refl _) _).trans (b1.mono (Nat.le_of_lt BX0.out.lt)))
  clear b1 HCB
  go_wp2_with fail
  refine (HCZ.out _).mono ?_
  rintro e w2 ⟨rfl, b2⟩
  have X2 := Lib.hid (X1.out.below b2 X1.out.lt)
  have B2 := Lib.hid (B1.out.trans (b2.mono B1.out.size))
  clear b2 HCZ X1 B1 BX0
  cases RZ with
  | false =>
    obtain rfl : RA = false := by rw [HRA.out]; simp
    go_wp2_with fail
    go_ret
    exact ⟨rfl, B2.out⟩
  | true =>
    have HR2 : Hid (RA = (okF ⟨k, n, g, nm, fn, ar, bs, bt⟩ l && formedL l)) := Lib.hid (by rw [HRA.out, Bool.and_true])
    clear HRA
    go_wp2_with fail
    go_loopw [3] (fun i wr => ∃ c : Nat, c ≤ len ∧ i = .int .i64 c ∧ Blk wr w.heap.size 48 #[.int .i64 k, .int .i64 n, .int .i64 g, .string nm, .string fn, .int .i64 ar, .slice sa len cap, .string bs, .int .i64 bt] ∧ Below w.heap.size w wr ∧ Hid (formedL (l.take c) = true)) (fun i _ => len - (intOf i).toNat)
    case atStart => exact ⟨0, Nat.zero_le _, rfl, X2.out, B2.out, Lib.hid rfl⟩
    case round =>
      clear X2 B2
      obtain ⟨c, hc, rfl, bx, bw, HA⟩ := hrel
      have BX := Lib.hid bx
      have BW := Lib.hid bw
      clear bw
      by_cases hlt : c < len
      · have x6 : wr.cell? ⟨w.heap.size, 6, none⟩ = some (.slice sa len cap) := bx.cell 6
        clear bx
        have hlt2 : c < l.length := by rw [← HLEN.out]; exact hlt
        obtain ⟨b, o, rfl, hb, _, hcc⟩ := HL.out.get (by omega)
        obtain ⟨x, hx, hcx⟩ := hcc c hlt2
        have A1 := Lib.hid (hx.below BW.out (fun b _ h => h))
        obtain ⟨p0, p1, p2, p3, p4, p5, p6, p7, p8⟩ := cells9 (W := wr) (b := b) (p := o + c * 9) (x := x) (fun j hj => by rw [← hcx j hj]; exact BW.out.cell (p := ⟨b, _, none⟩) hb)
        have IK := Lib.hid (fun W => IH.out l[c] (List.getElem_mem hlt2) x W)
        obtain ⟨F, hF⟩ : ∃ F, F = formed l[c] := ⟨_, rfl⟩
        rw [← hF] at IK
        have HF := Lib.hid hF
        clear hcc hcx hx hF
        go_wp2_with fail
        clear p0 p1 p2 p3 p4 p5 p6 p7 p8 x6
        refine (IK.out _ A1.out).mono ?_
        rintro e w4 ⟨rfl, b4⟩
        have X4 := Lib.hid (BX.out.below b4 BX.out.lt)
        have B4 := Lib.hid (BW.out.trans (b4.mono BW.out.size))
        clear b4 A1
        cases F with
        | false =>
          obtain rfl : RA = false := by rw [HR2.out, formedL_false l c hlt2 HF.out.symm, Bool.and_false]
          go_wp2_with fail
          go_ret
          exact ⟨rfl, B4.out⟩
        | true =>
          go_wp2_with fail
          go_roundw
          case rel => exact ⟨c + 1, by omega, by go_num, X4.out, B4.out, Lib.hid (by rw [formedL_take l c hlt2, HA.out, ← HF.out]; rfl)⟩
          case measure => simp [intOf]; omega
      · have hcl : c = len := by omega
        have HOK : Hid (RA = okF ⟨k, n, g, nm, fn, ar, bs, bt⟩ l) := Lib.hid (by
          have := HA.out
          rw [hcl, HLEN.out, List.take_length] at this
          rw [HR2.out, this, Bool.and_true])
        subst hcl
        clear HR2 HA IH
        have x0 : wr.cell? ⟨w.heap.size, 0, none⟩ = some (.int .i64 k) := bx.cell 0
        have x1 : wr.cell? ⟨w.heap.size, 1, none⟩ = some (.int .i64 n) := bx.cell 1
        have x2 : wr.cell? ⟨w.heap.size, 2, none⟩ = some (.int .i64 g) := bx.cell 2
        have x3 : wr.cell? ⟨w.heap.size, 3, none⟩ = some (.string nm) := bx.cell 3
        have x4 : wr.cell? ⟨w.heap.size, 4, none⟩ = some (.string fn) := bx.cell 4
        have x5 : wr.cell? ⟨w.heap.size, 5, none⟩ = some (.int .i64 ar) := bx.cell 5
        have x6 : wr.cell? ⟨w.heap.size, 6, none⟩ = some (.slice sa c cap) := bx.cell 6
        have x7 : wr.cell? ⟨w.heap.size, 7, none⟩ = some (.string bs) := bx.cell 7
        have x8 : wr.cell? ⟨w.heap.size, 8, none⟩ = some (.int .i64 bt) := bx.cell 8
        clear bx BX
        by_cases q1 : k = 1
        · subst q1
          clear hc
          obtain rfl : RA = true := by rw [HOK.out]; rfl
          clear HOK
          go_wp2_with fail
          go_ret
          exact ⟨rfl, BW.out⟩
        · -- not 1
          by_cases q2 : k = 2
          · subst q2
            clear q1
            have hok : RA = (nameF nm) := by rw [HOK.out]; rfl
            clear HOK
            obtain ⟨r0, h0⟩ : ∃ r, r = nameF nm := ⟨_, rfl⟩
            rw [← h0] at hok
            have C0 := Lib.hid (fun W => nameR_any nm W)
            rw [← h0] at C0
            clear h0
            go_wp2_with fail
            refine (C0.out _).mono ?_
            rintro e wz ⟨rfl, rfl⟩
            cases r0 with
            | false =>
              obtain rfl : RA = false := by simpa using hok
              clear hok
              go_wp2_with fail
              go_ret
              exact ⟨rfl, BW.out⟩
            | true =>
              obtain rfl : RA = true := by simpa using hok
              clear hok
              go_wp2_with fail
              go_ret
              exact ⟨rfl, BW.out⟩
          · -- not 2
            by_cases q3 : k = 3
            · subst q3
              clear q1 q2
              have hok : RA = (inB n 1 2147483647 && (inB g 1 2147483647 && (nameF nm))) := by rw [HOK.out]; rfl
              clear HOK
              obtain ⟨r0, h0⟩ : ∃ r, r = inB n 1 2147483647 := ⟨_, rfl⟩
              rw [← h0] at hok
              have C0 := Lib.hid (fun W => between_any n 1 2147483647 W)
              rw [← h0] at C0
              clear h0
              obtain ⟨r1, h1⟩ : ∃ r, r = inB g 1 2147483647 := ⟨_, rfl⟩
              rw [← h1] at hok
              have C1 := Lib.hid (fun W => between_any g 1 2147483647 W)
              rw [← h1] at C1
              clear h1
              obtain ⟨r2, h2⟩ : ∃ r, r = nameF nm := ⟨_, rfl⟩
              rw [← h2] at hok
              have C2 := Lib.hid (fun W => nameR_any nm W)
              rw [← h2] at C2
              clear h2
              go_wp2_with fail
              refine (C0.out _).mono ?_
              rintro e wz ⟨rfl, rfl⟩
              cases r0 with
              | false =>
                obtain rfl : RA = false := by simpa using hok
                clear hok
                go_wp2_with fail
                go_ret
                exact ⟨rfl, BW.out⟩
              | true =>
                go_wp2_with fail
                refine (C1.out _).mono ?_
                rintro e wz ⟨rfl, rfl⟩
                cases r1 with
                | false =>
                  obtain rfl : RA = false := by simpa using hok
                  clear hok
                  go_wp2_with fail
                  go_ret
                  exact ⟨rfl, BW.out⟩
                | true =>
                  go_wp2_with fail
                  refine (C2.out _).mono ?_
                  rintro e wz ⟨rfl, rfl⟩
                  cases r2 with
                  | false =>
                    obtain rfl : RA = false := by simpa using hok
                    clear hok
                    go_wp2_with fail
                    go_ret
                    exact ⟨rfl, BW.out⟩
                  | true =>
                    obtain rfl : RA = true := by simpa using hok
                    clear hok
                    go_wp2_with fail
                    go_ret
                    exact ⟨rfl, BW.out⟩
            · -- not 3
              by_cases q4 : k = 4
              · subst q4
                clear q1 q2 q3
                have hok : RA = (inB n 0 999 && (inB g 1 2147483647 && (nameF nm && (inB ar 0 16 && (decide (l.length ≤ 200)))))) := by rw [HOK.out]; rfl
                clear HOK
                obtain ⟨r0, h0⟩ : ∃ r, r = inB n 0 999 := ⟨_, rfl⟩
                rw [← h0] at hok
                have C0 := Lib.hid (fun W => between_any n 0 999 W)
                rw [← h0] at C0
                clear h0
                obtain ⟨r1, h1⟩ : ∃ r, r = inB g 1 2147483647 := ⟨_, rfl⟩
                rw [← h1] at hok
                have C1 := Lib.hid (fun W => between_any g 1 2147483647 W)
                rw [← h1] at C1
                clear h1
                obtain ⟨r2, h2⟩ : ∃ r, r = nameF nm := ⟨_, rfl⟩
                rw [← h2] at hok
                have C2 := Lib.hid (fun W => nameR_any nm W)
                rw [← h2] at C2
                clear h2
                obtain ⟨r3, h3⟩ : ∃ r, r = inB ar 0 16 := ⟨_, rfl⟩
                rw [← h3] at hok
                have C3 := Lib.hid (fun W => between_any ar 0 16 W)
                rw [← h3] at C3
                clear h3
                go_wp2_with fail
                refine (C0.out _).mono ?_
                rintro e wz ⟨rfl, rfl⟩
                cases r0 with
                | false =>
                  obtain rfl : RA = false := by simpa using hok
                  clear hok
                  go_wp2_with fail
                  go_ret
                  exact ⟨rfl, BW.out⟩
                | true =>
                  go_wp2_with fail
                  refine (C1.out _).mono ?_
                  rintro e wz ⟨rfl, rfl⟩
                  cases r1 with
                  | false =>
                    obtain rfl : RA = false := by simpa using hok
                    clear hok
                    go_wp2_with fail
                    go_ret
                    exact ⟨rfl, BW.out⟩
                  | true =>
                    go_wp2_with fail
                    refine (C2.out _).mono ?_
                    rintro e wz ⟨rfl, rfl⟩
                    cases r2 with
                    | false =>
                      obtain rfl : RA = false := by simpa using hok
                      clear hok
                      go_wp2_with fail
                      go_ret
                      exact ⟨rfl, BW.out⟩
                    | true =>
                      go_wp2_with fail
                      refine (C3.out _).mono ?_
                      rintro e wz ⟨rfl, rfl⟩
                      cases r3 with
                      | false =>
                        obtain rfl : RA = false := by simpa using hok
                        clear hok
                        go_wp2_with fail
                        go_ret
                        exact ⟨rfl, BW.out⟩
                      | true =>
                        by_cases hc : l.length ≤ 200
                        · obtain rfl : RA = true := by rw [hok]; simp [hc]
                          have dc : decide ((c : Int) ≤ 200) = true := decide_eq_true (by have := HLEN.out; omega)
                          clear hok
                          go_wp2_with fail
                          go_ret
                          exact ⟨rfl, BW.out⟩
                        · obtain rfl : RA = false := by rw [hok]; simp [hc]
                          have dc : decide ((c : Int) ≤ 200) = false := decide_eq_false (by have := HLEN.out; omega)
                          clear hok
                          go_wp2_with fail
                          go_ret
                          exact ⟨rfl, BW.out⟩
              · -- not 4
                by_cases q5 : k = 5
                · subst q5
                  clear q1 q2 q3 q4
                  have hok : RA = (nameF nm && (nameF fn && (inB ar 0 16))) := by rw [HOK.out]; rfl
                  clear HOK
                  obtain ⟨r0, h0⟩ : ∃ r, r = nameF nm := ⟨_, rfl⟩
                  rw [← h0] at hok
                  have C0 := Lib.hid (fun W => nameR_any nm W)
                  rw [← h0] at C0
                  clear h0
                  obtain ⟨r1, h1⟩ : ∃ r, r = nameF fn := ⟨_, rfl⟩
                  rw [← h1] at hok
                  have C1 := Lib.hid (fun W => nameR_any fn W)
                  rw [← h1] at C1
                  clear h1
                  obtain ⟨r2, h2⟩ : ∃ r, r = inB ar 0 16 := ⟨_, rfl⟩
                  rw [← h2] at hok
                  have C2 := Lib.hid (fun W => between_any ar 0 16 W)
                  rw [← h2] at C2
                  clear h2
                  go_wp2_with fail
                  refine (C0.out _).mono ?_
                  rintro e wz ⟨rfl, rfl⟩
                  cases r0 with
                  | false =>
                    obtain rfl : RA = false := by simpa using hok
                    clear hok
                    go_wp2_with fail
                    go_ret
                    exact ⟨rfl, BW.out⟩
                  | true =>
                    go_wp2_with fail
                    refine (C1.out _).mono ?_
                    rintro e wz ⟨rfl, rfl⟩
                    cases r1 with
                    | false =>
                      obtain rfl : RA = false := by simpa using hok
                      clear hok
                      go_wp2_with fail
                      go_ret
                      exact ⟨rfl, BW.out⟩
                    | true =>
                      go_wp2_with fail
                      refine (C2.out _).mono ?_
                      rintro e wz ⟨rfl, rfl⟩
                      cases r2 with
                      | false =>
                        obtain rfl : RA = false := by simpa using hok
                        clear hok
                        go_wp2_with fail
                        go_ret
                        exact ⟨rfl, BW.out⟩
                      | true =>
                        obtain rfl : RA = true := by simpa using hok
                        clear hok
                        go_wp2_with fail
                        go_ret
                        exact ⟨rfl, BW.out⟩
                · -- not 5
                  by_cases q6 : k = 6
                  · subst q6
                    clear q1 q2 q3 q4 q5
                    have hok : RA = (inB n 1 2147483647 && (inB g 1 2147483647 && (nameF nm))) := by rw [HOK.out]; rfl
                    clear HOK
                    obtain ⟨r0, h0⟩ : ∃ r, r = inB n 1 2147483647 := ⟨_, rfl⟩
                    rw [← h0] at hok
                    have C0 := Lib.hid (fun W => between_any n 1 2147483647 W)
                    rw [← h0] at C0
                    clear h0
                    obtain ⟨r1, h1⟩ : ∃ r, r = inB g 1 2147483647 := ⟨_, rfl⟩
                    rw [← h1] at hok
                    have C1 := Lib.hid (fun W => between_any g 1 2147483647 W)
                    rw [← h1] at C1
                    clear h1
                    obtain ⟨r2, h2⟩ : ∃ r, r = nameF nm := ⟨_, rfl⟩
                    rw [← h2] at hok
                    have C2 := Lib.hid (fun W => nameR_any nm W)
                    rw [← h2] at C2
                    clear h2
                    go_wp2_with fail
                    refine (C0.out _).mono ?_
                    rintro e wz ⟨rfl, rfl⟩
                    cases r0 with
                    | false =>
                      obtain rfl : RA = false := by simpa using hok
                      clear hok
                      go_wp2_with fail
                      go_ret
                      exact ⟨rfl, BW.out⟩
                    | true =>
                      go_wp2_with fail
                      refine (C1.out _).mono ?_
                      rintro e wz ⟨rfl, rfl⟩
                      cases r1 with
                      | false =>
                        obtain rfl : RA = false := by simpa using hok
                        clear hok
                        go_wp2_with fail
                        go_ret
                        exact ⟨rfl, BW.out⟩
                      | true =>
                        go_wp2_with fail
                        refine (C2.out _).mono ?_
                        rintro e wz ⟨rfl, rfl⟩
                        cases r2 with
                        | false =>
                          obtain rfl : RA = false := by simpa using hok
                          clear hok
                          go_wp2_with fail
                          go_ret
                          exact ⟨rfl, BW.out⟩
                        | true =>
                          obtain rfl : RA = true := by simpa using hok
                          clear hok
                          go_wp2_with fail
                          go_ret
                          exact ⟨rfl, BW.out⟩
                  · -- not 6
                    by_cases q7 : k = 7
                    · subst q7
                      clear q1 q2 q3 q4 q5 q6
                      by_cases hc : c ≤ 255
                      · obtain rfl : RA = true := by rw [HOK.out]; exact decide_eq_true (by rw [← HLEN.out]; exact hc)
                        clear HOK
                        have dc : decide ((c : Int) ≤ 255) = true := decide_eq_true (by omega)
                        go_wp2_with fail
                        go_ret
                        exact ⟨rfl, BW.out⟩
                      · obtain rfl : RA = false := by rw [HOK.out]; exact decide_eq_false (by rw [← HLEN.out]; exact hc)
                        clear HOK
                        have dc : decide ((c : Int) ≤ 255) = false := decide_eq_false (by omega)
                        go_wp2_with fail
                        go_ret
                        exact ⟨rfl, BW.out⟩
                    · -- not 7
                      by_cases q8 : k = 8
                      · subst q8
                        clear q1 q2 q3 q4 q5 q6 q7
                        obtain rfl : RA = true := by rw [HOK.out]; rfl
                        clear HOK
                        go_wp2_with fail
                        go_ret
                        exact ⟨rfl, BW.out⟩
                      · -- not 8
                        by_cases q9 : k = 9
                        · subst q9
                          clear q1 q2 q3 q4 q5 q6 q7 q8
                          have hok : RA = (decide (2 ≤ c) && lastB l) := by rw [HOK.out, HLEN.out]; rfl
                          clear HOK
                          by_cases h2 : 2 ≤ c
                          · obtain ⟨b, o, rfl, hb, _, hc⟩ := HL.out.get (by have := HLEN.out; omega)
                            obtain ⟨x, hx, hcx⟩ := hc (c - 1) (by have := HLEN.out; omega)
                            have hk := hcx 0 (by omega)
                            have hlast : lastB l = decide (x.f.k ≠ 9) := by
                              have hl := HLEN.out
                              unfold lastB
                              rw [List.getLast?_eq_getElem?, ← hl, List.getElem?_eq_getElem (by omega)]
                              simp only [hx.its.1]
                            obtain ⟨kk, hkk⟩ : ∃ kk, kk = x.f.k := ⟨_, rfl⟩
                            simp only [Nat.add_zero, ftC, List.getElem?_cons_zero] at hk
                            rw [← hkk] at hk hlast
                            have hk9 : wr.cell? ⟨b, o + (c - 1) * 9, none⟩ = some (.int .i64 kk) := by rw [← hk]; exact BW.out.cell (p := ⟨b, _, none⟩) hb
                            have e2 : IntKind.i64.wrap ((c : Int) - 1) = ((c - 1 : Nat) : Int) := by rw [IntWalk.i64_in _ (by omega)]; omega
                            have hI : (kk != 9) = RA := by rw [hok, hlast]; by_cases q : kk = 9 <;> simp [q, h2]
                            have d1 : 1 < c := by omega
                            clear hc hx hcx hk hlast hkk hok h2
                            go_wp2_with fail
                            go_ret
                            exact ⟨rfl, BW.out⟩
                          · obtain rfl : RA = false := by rw [hok, decide_eq_false h2]; rfl
                            have d1 : (c : Int) < 2 := by omega
                            clear hok h2
                            go_wp2_with fail
                            go_ret
                            exact ⟨rfl, BW.out⟩
                        · -- not 9
                          by_cases q10 : k = 10
                          · subst q10
                            clear q1 q2 q3 q4 q5 q6 q7 q8 q9
                            have hok : RA = bitsB bs bt := by rw [HOK.out]; rfl
                            clear HOK
                            have CT := Lib.hid (fun W => rbits_any 10 n g nm fn ar sa c cap bs bt W (by unfold maxLen; omega))
                            rw [← hok] at CT
                            clear hok
                            go_wp2_with fail
                            refine (CT.out _).mono ?_
                            rintro e w5 ⟨rfl, b5⟩
                            have B5 := Lib.hid (BW.out.trans (b5.mono BW.out.size))
                            clear b5
                            go_wp2_with fail
                            go_ret
                            exact ⟨rfl, B5.out⟩
                          · -- not 10
                            obtain rfl : RA = false := by rw [HOK.out]; unfold okF; simp [q1, q2, q3, q4, q5, q6, q7, q8, q9, q10]
                            clear HOK
                            have d1 : (k == 1) = false := by simpa using q1
                            have d2 : (k == 2) = false := by simpa using q2
                            have d3 : (k == 3) = false := by simpa using q3
                            have d4 : (k == 4) = false := by simpa using q4
                            have d5 : (k == 5) = false := by simpa using q5
                            have d6 : (k == 6) = false := by simpa using q6
                            have d7 : (k == 7) = false := by simpa using q7
                            have d8 : (k == 8) = false := by simpa using q8
                            have d9 : (k == 9) = false := by simpa using q9
                            have d10 : (k == 10) = false := by simpa using q10
                            clear q1 q2 q3 q4 q5 q6 q7 q8 q9 q10
                            go_wp2_with fail
                            go_ret
                            exact ⟨rfl, BW.out⟩
theorem rformed_any : ∀ (t : Tm) (S : Nat → Prop) (x : Ft) (w : World), TmAt S w t x → fitW t →
    Calls Tryz.prog 237 #[ftV x] w fun e w' => e = .returned (.bool (formed t)) ∧ Below w.heap.size w w' := by
  intro t
  induction t using Tm.ind with
  | h f l ih =>
    intro S x w hx hfit
    obtain ⟨e1, i1⟩ := hx.its
    obtain ⟨_, sa, cap, v1⟩ := i1.form
    obtain ⟨xf, xv⟩ := x
    dsimp only [Tm.f, Tm.l] at e1 v1 i1
    subst e1 v1
    rw [fitW] at hfit
    have := hfit.1
    obtain ⟨k, n, g, nm, fn, ar, bs, bt⟩ := xf
    exact rformed_core S k n g nm fn ar bs bt l sa cap w i1 this (fun t ht x W hx => ih t ht S x W hx (fitWL_mem l hfit.2 t ht))
set_option maxRecDepth 100000 in
set_option maxHeartbeats 2000000 in
theorem rwhole_core (S : Nat → Prop) (k n g : Int) (nm fn : ByteArray) (ar : Int) (bs : ByteArray) (bt : Int) (l : List Tm) (sa : Option Addr) (cap : Nat) (w : World) (hl : ItsAt S w l (.slice sa l.length cap))
    (h9 : k = 9 → 2 ≤ l.length) (h10 : k = 10 → 0 ≤ bt ∧ bt ≤ 16384) (hsum : sizeO ⟨k, n, g, nm, fn, ar, bs, bt⟩ l.length + sizeL l ≤ 4611686018427387904)
    (ih : ∀ t ∈ l, ∀ (x : Ft) (W : World), TmAt S W t x → Calls Tryz.prog 238 #[ftV x] W fun e w' => e = .returned (.int .i64 (sizeT t : Nat)) ∧ Below W.heap.size W w') :
    Calls Tryz.prog 238 #[ftV ⟨⟨k, n, g, nm, fn, ar, bs, bt⟩, .slice sa l.length cap⟩] w fun e w' => e = .returned (.int .i64 ((sizeO ⟨k, n, g, nm, fn, ar, bs, bt⟩ l.length + sizeL l : Nat) : Int)) ∧ Below w.heap.size w w' := by
  have hmx := hl.form.1
  unfold ftV
  dsimp only
  obtain ⟨SO, hSO⟩ : ∃ SO, SO = sizeO ⟨k, n, g, nm, fn, ar, bs, bt⟩ l.length := ⟨_, rfl⟩
  rw [← hSO] at hsum ⊢
  have HL := Lib.hid hl
  have IH := Lib.hid ih
  have HSO := Lib.hid hSO
  have HSM := Lib.hid hsum
  have H9 := Lib.hid h9
  have H10 := Lib.hid h10
  obtain ⟨ST, hST⟩ : ∃ ST, ST = SO + sizeL l := ⟨_, rfl⟩
  rw [← hST]
  have HST := Lib.hid hST
  obtain ⟨len, hlen⟩ : ∃ len, len = l.length := ⟨_, rfl⟩
  rw [← hlen] at HL hmx H9 HSO ⊢
  have HLEN := Lib.hid hlen
  clear hl ih hlen hSO hsum h9 h10 hST
  have BX0 := Lib.hid (Blk.new w 48 #[.int .i64 k, .int .i64 n, .int .i64 g, .string nm, .string fn, .int .i64 ar, .slice sa len cap, .string bs, .int .i64 bt])
  by_cases q9 : k = 9
  · subst q9
    obtain rfl : SO = len - 1 := by rw [HSO.out]; rfl
    have h2 := H9.out rfl
    clear HSO H9 H10
    have w1 : IntKind.i64.wrap ((len : Int) - 1) = ((len - 1 : Nat) : Int) := by rw [IntKind.wrap_i64]; omega
    go_enter Tryz.func238, Tryz.ntmps238
    go_wp2_with fail
    go_loopw [3, 4] (fun s i wr => ∃ c : Nat, c ≤ len ∧ i = .int .i64 c ∧ s = .int .i64 ((len - 1 + sizeL (l.take c) : Nat) : Int) ∧ Blk wr w.heap.size 48 #[.int .i64 9, .int .i64 n, .int .i64 g, .string nm, .string fn, .int .i64 ar, .slice sa len cap, .string bs, .int .i64 bt] ∧ Below w.heap.size w wr) (fun _ i _ => len - (intOf i).toNat)
    case atStart => exact ⟨0, Nat.zero_le _, rfl, rfl, BX0.out, (Below.refl _ _).alloc (Nat.le_refl _) _⟩
    case round =>
      clear BX0
      obtain ⟨c, hc, rfl, rfl, bx, bw⟩ := hrel
      have BX := Lib.hid bx
      have BW := Lib.hid bw
      clear bw
      by_cases hlt : c < len
      · have x6 : wr.cell? ⟨w.heap.size, 6, none⟩ = some (.slice sa len cap) := bx.cell 6
        clear bx
        have hlt2 : c < l.length := by rw [← HLEN.out]; exact hlt
        obtain ⟨b, o, rfl, hb, _, hcc⟩ := HL.out.get (by omega)
        obtain ⟨x, hx, hcx⟩ := hcc c hlt2
        have A1 := Lib.hid (hx.below BW.out (fun b _ h => h))
        obtain ⟨p0, p1, p2, p3, p4, p5, p6, p7, p8⟩ := cells9 (W := wr) (b := b) (p := o + c * 9) (x := x) (fun j hj => by rw [← hcx j hj]; exact BW.out.cell (p := ⟨b, _, none⟩) hb)
        have IK := Lib.hid (fun W => IH.out l[c] (List.getElem_mem hlt2) x W)
        have hS1 := sizeL_take l c hlt2
        have hS2 := sizeL_take_le l (c + 1)
        have hS3 := HSM.out
        obtain ⟨F, hF⟩ : ∃ F, F = sizeT l[c] := ⟨_, rfl⟩
        rw [← hF] at IK hS1
        obtain ⟨P, hP⟩ : ∃ P, P = len - 1 + sizeL (l.take c) := ⟨_, rfl⟩
        have hP1 : len - 1 + sizeL (l.take (c + 1)) = P + F := by omega
        have hP2 : P + F ≤ 4611686018427387904 := by omega
        have HP1 := Lib.hid hP1
        rw [← hP]
        have hW : IntKind.i64.wrap ((P : Int) + (F : Int)) = ((P + F : Nat) : Int) := by rw [IntKind.wrap_i64]; omega
        clear hcc hcx hx hF hS1 hS2 hS3 hP hP1
        go_wp2_with fail
        clear p0 p1 p2 p3 p4 p5 p6 p7 p8 x6
        refine (IK.out _ A1.out).mono ?_
        rintro e w4 ⟨rfl, b4⟩
        have X4 := Lib.hid (BX.out.below b4 BX.out.lt)
        have B4 := Lib.hid (BW.out.trans (b4.mono BW.out.size))
        clear b4 A1
        go_wp2_with fail
        go_roundw
        case rel => exact ⟨c + 1, by omega, by go_num, by rw [HP1.out]; rfl, X4.out, B4.out⟩
        case measure => simp [intOf]; omega
      · have hcl : c = len := by omega
        have HE : Hid (len - 1 + sizeL (l.take c) = ST) := Lib.hid (by have e : l.take c = l := by { rw [hcl, HLEN.out, List.take_length] }; rw [e]; exact HST.out.symm)
        rw [HE.out]
        have x6 : wr.cell? ⟨w.heap.size, 6, none⟩ = some (.slice sa len cap) := bx.cell 6
        clear bx
        subst hcl
        go_wp2_with fail
        go_ret
        exact ⟨rfl, BW.out⟩
  · by_cases q10 : k = 10
    · subst q10
      obtain rfl : SO = 1 + (bt.toNat + 63) / 64 := by rw [HSO.out]; rfl
      have l2 := H10.out rfl
      obtain ⟨b, rfl⟩ := Int.eq_ofNat_of_zero_le l2.1
      clear HSO H9 H10
      have qq : b ≤ 16384 := by omega
      clear l2
      obtain ⟨SO, hSO⟩ : ∃ SO, SO = 1 + (((b : Nat) : Int).toNat + 63) / 64 := ⟨_, rfl⟩
      rw [← hSO] at HST HSM
      have w1 : IntKind.i64.wrap ((b : Int) + 63) = (b : Int) + 63 := by rw [IntKind.wrap_i64]; omega
      have w2 : IntKind.i64.wrap (((b : Int) + 63) / 64) = ((b : Int) + 63) / 64 := by rw [IntKind.wrap_i64]; omega
      have w3 : 1 + ((b : Int) + 63) / 64 = (SO : Int) := by rw [hSO]; omega
      have w4 : IntKind.i64.wrap (SO : Int) = (SO : Int) := by rw [IntKind.wrap_i64]; omega
      clear hSO
      go_enter Tryz.func238, Tryz.ntmps238
      go_wp2_with fail
      go_loopw [3, 4] (fun s i wr => ∃ c : Nat, c ≤ len ∧ i = .int .i64 c ∧ s = .int .i64 ((SO + sizeL (l.take c) : Nat) : Int) ∧ Blk wr w.heap.size 48 #[.int .i64 10, .int .i64 n, .int .i64 g, .string nm, .string fn, .int .i64 ar, .slice sa len cap, .string bs, .int .i64 (b : Int)] ∧ Below w.heap.size w wr) (fun _ i _ => len - (intOf i).toNat)
      case atStart => exact ⟨0, Nat.zero_le _, rfl, rfl, BX0.out, (Below.refl _ _).alloc (Nat.le_refl _) _⟩
      case round =>
        clear BX0
        obtain ⟨c, hc, rfl, rfl, bx, bw⟩ := hrel
        have BX := Lib.hid bx
        have BW := Lib.hid bw
        clear bw
        by_cases hlt : c < len
        · have x6 : wr.cell? ⟨w.heap.size, 6, none⟩ = some (.slice sa len cap) := bx.cell 6
          clear bx
          have hlt2 : c < l.length := by rw [← HLEN.out]; exact hlt
          obtain ⟨b, o, rfl, hb, _, hcc⟩ := HL.out.get (by omega)
          obtain ⟨x, hx, hcx⟩ := hcc c hlt2
          have A1 := Lib.hid (hx.below BW.out (fun b _ h => h))
          obtain ⟨p0, p1, p2, p3, p4, p5, p6, p7, p8⟩ := cells9 (W := wr) (b := b) (p := o + c * 9) (x := x) (fun j hj => by rw [← hcx j hj]; exact BW.out.cell (p := ⟨b, _, none⟩) hb)
          have IK := Lib.hid (fun W => IH.out l[c] (List.getElem_mem hlt2) x W)
          have hS1 := sizeL_take l c hlt2
          have hS2 := sizeL_take_le l (c + 1)
          have hS3 := HSM.out
          obtain ⟨F, hF⟩ : ∃ F, F = sizeT l[c] := ⟨_, rfl⟩
          rw [← hF] at IK hS1
          obtain ⟨P, hP⟩ : ∃ P, P = SO + sizeL (l.take c) := ⟨_, rfl⟩
          have hP1 : SO + sizeL (l.take (c + 1)) = P + F := by omega
          have hP2 : P + F ≤ 4611686018427387904 := by omega
          have HP1 := Lib.hid hP1
          rw [← hP]
          have hW : IntKind.i64.wrap ((P : Int) + (F : Int)) = ((P + F : Nat) : Int) := by rw [IntKind.wrap_i64]; omega
          clear hcc hcx hx hF hS1 hS2 hS3 hP hP1
          go_wp2_with fail
          clear p0 p1 p2 p3 p4 p5 p6 p7 p8 x6
          refine (IK.out _ A1.out).mono ?_
          rintro e w4 ⟨rfl, b4⟩
          have X4 := Lib.hid (BX.out.below b4 BX.out.lt)
          have B4 := Lib.hid (BW.out.trans (b4.mono BW.out.size))
          clear b4 A1
          go_wp2_with fail
          go_roundw
          case rel => exact ⟨c + 1, by omega, by go_num, by rw [HP1.out]; rfl, X4.out, B4.out⟩
          case measure => simp [intOf]; omega
        · have hcl : c = len := by omega
          have HE : Hid (SO + sizeL (l.take c) = ST) := Lib.hid (by have e : l.take c = l := by { rw [hcl, HLEN.out, List.take_length] }; rw [e]; exact HST.out.symm)
          rw [HE.out]
          have x6 : wr.cell? ⟨w.heap.size, 6, none⟩ = some (.slice sa len cap) := bx.cell 6
          clear bx
          subst hcl
          go_wp2_with fail
          go_ret
          exact ⟨rfl, BW.out⟩
    · obtain rfl : SO = 1 := by rw [HSO.out]; unfold sizeO; rw [if_neg q9, if_neg q10]
      have d9 : (k == 9) = false := by simpa using q9
      have d10 : (k == 10) = false := by simpa using q10
      clear HSO H9 H10 q9 q10
      go_enter Tryz.func238, Tryz.ntmps238
      go_wp2_with fail
      go_loopw [3, 4] (fun s i wr => ∃ c : Nat, c ≤ len ∧ i = .int .i64 c ∧ s = .int .i64 ((1 + sizeL (l.take c) : Nat) : Int) ∧ Blk wr w.heap.size 48 #[.int .i64 k, .int .i64 n, .int .i64 g, .string nm, .string fn, .int .i64 ar, .slice sa len cap, .string bs, .int .i64 bt] ∧ Below w.heap.size w wr) (fun _ i _ => len - (intOf i).toNat)
      case atStart => exact ⟨0, Nat.zero_le _, rfl, rfl, BX0.out, (Below.refl _ _).alloc (Nat.le_refl _) _⟩
      case round =>
        clear BX0
        obtain ⟨c, hc, rfl, rfl, bx, bw⟩ := hrel
        have BX := Lib.hid bx
        have BW := Lib.hid bw
        clear bw
        by_cases hlt : c < len
        · have x6 : wr.cell? ⟨w.heap.size, 6, none⟩ = some (.slice sa len cap) := bx.cell 6
          clear bx
          have hlt2 : c < l.length := by rw [← HLEN.out]; exact hlt
          obtain ⟨b, o, rfl, hb, _, hcc⟩ := HL.out.get (by omega)
          obtain ⟨x, hx, hcx⟩ := hcc c hlt2
          have A1 := Lib.hid (hx.below BW.out (fun b _ h => h))
          obtain ⟨p0, p1, p2, p3, p4, p5, p6, p7, p8⟩ := cells9 (W := wr) (b := b) (p := o + c * 9) (x := x) (fun j hj => by rw [← hcx j hj]; exact BW.out.cell (p := ⟨b, _, none⟩) hb)
          have IK := Lib.hid (fun W => IH.out l[c] (List.getElem_mem hlt2) x W)
          have hS1 := sizeL_take l c hlt2
          have hS2 := sizeL_take_le l (c + 1)
          have hS3 := HSM.out
          obtain ⟨F, hF⟩ : ∃ F, F = sizeT l[c] := ⟨_, rfl⟩
          rw [← hF] at IK hS1
          obtain ⟨P, hP⟩ : ∃ P, P = 1 + sizeL (l.take c) := ⟨_, rfl⟩
          have hP1 : 1 + sizeL (l.take (c + 1)) = P + F := by omega
          have hP2 : P + F ≤ 4611686018427387904 := by omega
          have HP1 := Lib.hid hP1
          rw [← hP]
          have hW : IntKind.i64.wrap ((P : Int) + (F : Int)) = ((P + F : Nat) : Int) := by rw [IntKind.wrap_i64]; omega
          clear hcc hcx hx hF hS1 hS2 hS3 hP hP1
          go_wp2_with fail
          clear p0 p1 p2 p3 p4 p5 p6 p7 p8 x6
          refine (IK.out _ A1.out).mono ?_
          rintro e w4 ⟨rfl, b4⟩
          have X4 := Lib.hid (BX.out.below b4 BX.out.lt)
          have B4 := Lib.hid (BW.out.trans (b4.mono BW.out.size))
          clear b4 A1
          go_wp2_with fail
          go_roundw
          case rel => exact ⟨c + 1, by omega, by go_num, by rw [HP1.out]; rfl, X4.out, B4.out⟩
          case measure => simp [intOf]; omega
        · have hcl : c = len := by omega
          have HE : Hid (1 + sizeL (l.take c) = ST) := Lib.hid (by have e : l.take c = l := by { rw [hcl, HLEN.out, List.take_length] }; rw [e]; exact HST.out.symm)
          rw [HE.out]
          have x6 : wr.cell? ⟨w.heap.size, 6, none⟩ = some (.slice sa len cap) := bx.cell 6
          clear bx
          subst hcl
          go_wp2_with fail
          go_ret
          exact ⟨rfl, BW.out⟩
theorem okF_nine {f : Fl} {l : List Tm} (h : okF f l = true) (hk : f.k = 9) : 2 ≤ l.length := by
  unfold okF at h
  rw [hk] at h
  have h2 : (decide (2 ≤ l.length) && lastB l) = true := h
  rw [Bool.and_eq_true, decide_eq_true_eq] at h2
  exact h2.1
theorem okF_ten {f : Fl} {l : List Tm} (h : okF f l = true) (hk : f.k = 10) : 0 ≤ f.bt ∧ f.bt ≤ 16384 := by
  unfold okF at h
  rw [hk] at h
  have h2 : bitsB f.bs f.bt = true := h
  unfold bitsB inB at h2
  simp only [Bool.and_eq_true, decide_eq_true_eq] at h2
  omega
theorem rwhole_any : ∀ (t : Tm) (S : Nat → Prop) (x : Ft) (w : World), TmAt S w t x → formed t = true → bulk t ≤ 4611686018427387904 →
    Calls Tryz.prog 238 #[ftV x] w fun e w' => e = .returned (.int .i64 (sizeT t : Nat)) ∧ Below w.heap.size w w' := by
  intro t
  induction t using Tm.ind with
  | h f l ih =>
    intro S x w hx hf hb
    obtain ⟨e1, i1⟩ := hx.its
    obtain ⟨_, sa, cap, v1⟩ := i1.form
    obtain ⟨xf, xv⟩ := x
    dsimp only [Tm.f, Tm.l] at e1 v1 i1
    subst e1 v1
    have hsb := size_bulk _ hf
    rw [formed, Bool.and_eq_true] at hf
    have hown := hf.1
    unfold ownB at hown
    rw [Bool.and_eq_true] at hown
    have h9 := okF_nine hown.1
    have h10 := okF_ten hown.1
    rw [sizeT] at hsb ⊢
    obtain ⟨k, n, g, nm, fn, ar, bs, bt⟩ := xf
    refine rwhole_core S k n g nm fn ar bs bt l sa cap w i1 h9 h10 (by omega) (fun t ht x W hx => ih t ht S x W hx (formedL_mem l hf.2 t ht) ?_)
    have := bulkL_mem l t ht
    rw [bulk] at hb
    omega
set_option maxRecDepth 100000 in
set_option maxHeartbeats 2000000 in
theorem rcheck_any (S : Nat → Prop) (t : Tm) (x : Ft) (w : World) (hx : TmAt S w t x) (hfit : fitW t) (hz : bulk t ≤ 4611686018427387904) :
    Calls Tryz.prog 209 #[ftV x] w fun e w' => e = .returned (.int .i64 (checkF t)) ∧ Below w.heap.size w w' := by
  obtain ⟨e1, i1⟩ := hx.its
  obtain ⟨e2, sa, cap, v1⟩ := i1.form
  have CF := Lib.hid (fun (W : World) (hb : Below w.heap.size w W) => rformed_any t (fun b => b < w.heap.size) x W (hx.map hb.size (fun b _ hl => hb.block b hl) (fun b _ hl => hl)) hfit)
  have CW := Lib.hid (fun (hf : formed t = true) (W : World) (hb : Below w.heap.size w W) => rwhole_any t (fun b => b < w.heap.size) x W (hx.map hb.size (fun b _ hl => hb.block b hl) (fun b _ hl => hl)) hf hz)
  obtain ⟨xf, xv⟩ := x
  dsimp only at v1
  subst v1
  generalize t.l.length = len at *
  obtain ⟨RE, hRE⟩ : ∃ RE, RE = checkF t := ⟨_, rfl⟩
  rw [← hRE]
  unfold checkF at hRE
  generalize formed t = F at CF CW hRE
  generalize sizeT t = sz at CW hRE
  clear hx e1 e2 i1 hfit hz
  unfold ftV at CF CW ⊢
  have BX0 := Lib.hid (Blk.new w 48 #[.int .i64 xf.k, .int .i64 xf.n, .int .i64 xf.g, .string xf.nm, .string xf.fn, .int .i64 xf.ar, .slice sa len cap, .string xf.bs, .int .i64 xf.bt])
  go_enter Tryz.func209, Tryz.ntmps209
  go_wp2_with fail
  refine (CF.out _ ((Below.refl _ _).alloc (Nat.le_refl _) _)).mono ?_
  rintro e w1 ⟨rfl, b1⟩
  have X1 := Lib.hid (BX0.out.below b1 BX0.out.lt)
  have B1 := Lib.hid (((Below.refl w.heap.size w).alloc (Nat.le_refl _) _).trans (b1.mono (Nat.le_of_lt BX0.out.lt)))
  clear b1 CF BX0
  cases F with
  | false =>
    obtain rfl : RE = 2 := by rw [hRE]; rfl
    clear hRE
    go_wp2_with fail
    go_ret
    exact ⟨rfl, B1.out⟩
  | true =>
    have x0 : w1.cell? ⟨w.heap.size, 0, none⟩ = some (.int .i64 xf.k) := X1.out.cell 0
    have x1 : w1.cell? ⟨w.heap.size, 1, none⟩ = some (.int .i64 xf.n) := X1.out.cell 1
    have x2 : w1.cell? ⟨w.heap.size, 2, none⟩ = some (.int .i64 xf.g) := X1.out.cell 2
    have x3 : w1.cell? ⟨w.heap.size, 3, none⟩ = some (.string xf.nm) := X1.out.cell 3
    have x4 : w1.cell? ⟨w.heap.size, 4, none⟩ = some (.string xf.fn) := X1.out.cell 4
    have x5 : w1.cell? ⟨w.heap.size, 5, none⟩ = some (.int .i64 xf.ar) := X1.out.cell 5
    have x6 : w1.cell? ⟨w.heap.size, 6, none⟩ = some (.slice sa len cap) := X1.out.cell 6
    have x7 : w1.cell? ⟨w.heap.size, 7, none⟩ = some (.string xf.bs) := X1.out.cell 7
    have x8 : w1.cell? ⟨w.heap.size, 8, none⟩ = some (.int .i64 xf.bt) := X1.out.cell 8
    clear X1
    go_wp2_with fail
    refine (CW.out trivial _ B1.out).mono ?_
    rintro e w2 ⟨rfl, b2⟩
    have B2 := Lib.hid (B1.out.trans (b2.mono B1.out.size))
    clear b2 x0 x1 x2 x3 x4 x5 x6 x7 x8
    by_cases h : sz ≤ 2000
    · obtain rfl : RE = 0 := by rw [hRE]; simp [h]
      have d : decide (2000 < sz) = false := by simpa using h
      clear hRE
      go_wp2_with fail
      go_ret
      exact ⟨rfl, B2.out⟩
    · obtain rfl : RE = 3 := by rw [hRE]; simp [h]
      have d : decide (2000 < sz) = true := by simpa using h
      clear hRE
      go_wp2_with fail
      go_ret
      exact ⟨rfl, B2.out⟩
set_option maxRecDepth 100000 in
set_option maxHeartbeats 2000000 in
theorem rvalid_anyW (S : Nat → Prop) (t : Tm) (x : Ft) (w : World) (hx : TmAt S w t x) (hfit : fitW t) (hz : bulk t ≤ 4611686018427387904) :
    Calls Tryz.prog 183 #[ftV x] w fun e w' => e = .returned (.bool (validB t)) ∧ Below w.heap.size w w' := by
  obtain ⟨e1, i1⟩ := hx.its
  obtain ⟨e2, sa, cap, v1⟩ := i1.form
  clear e2
  have hv := checkF_zero t
  have CC := Lib.hid (fun (W : World) (hb : Below w.heap.size w W) => rcheck_any (fun b => b < w.heap.size) t x W (hx.map hb.size (fun b _ hl => hb.block b hl) (fun b _ hl => hl)) hfit hz)
  obtain ⟨xf, xv⟩ := x
  dsimp only at v1
  subst v1
  generalize t.l.length = len at *
  clear hx e1 i1 hfit hz
  rw [← hv]
  clear hv
  generalize checkF t = c at CC ⊢
  unfold ftV at CC ⊢
  by_cases hc : c = 0
  · subst hc
    go_enter Tryz.func183, Tryz.ntmps183
    go_wp2_with fail
    refine (CC.out _ ((Below.refl _ _).alloc (Nat.le_refl _) _)).mono ?_
    rintro e w1 ⟨rfl, b1⟩
    have B1 := Lib.hid (((Below.refl w.heap.size w).alloc (Nat.le_refl _) _).trans (b1.mono (by simp)))
    clear b1 CC
    go_wp2_with fail
    go_ret
    exact ⟨rfl, B1.out⟩
  · have d : (c == 0) = false := by simpa using hc
    have e0 : decide (c = 0) = false := by simpa using hc
    rw [e0]
    clear hc e0
    go_enter Tryz.func183, Tryz.ntmps183
    go_wp2_with fail
    refine (CC.out _ ((Below.refl _ _).alloc (Nat.le_refl _) _)).mono ?_
    rintro e w1 ⟨rfl, b1⟩
    have B1 := Lib.hid (((Below.refl w.heap.size w).alloc (Nat.le_refl _) _).trans (b1.mono (by simp)))
    clear b1 CC
    go_wp2_with fail
    go_ret
    exact ⟨rfl, B1.out⟩
theorem rvalid_any (S : Nat → Prop) (t : Tm) (x : Ft) (w : World) (hx : TmAt S w t x) (hfit : fitT t) (hz : bulk t ≤ 4611686018427387904) :
    Calls Tryz.prog 183 #[ftV x] w fun e w' => e = .returned (.bool (validB t)) ∧ Below w.heap.size w w' := rvalid_anyW S t x w hx (fitW_of t hfit) hz
end Go.Proofs.YtoaimoemaoinhaaGreatDoor
