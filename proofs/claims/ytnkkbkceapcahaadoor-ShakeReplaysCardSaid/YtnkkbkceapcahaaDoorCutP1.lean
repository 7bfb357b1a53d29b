/- number: the reference's number in some bytes, big-endian. encoded of the program, peer of the reference: both answer encF. cutPeer of the program, readPeer of the reference: both read what readPF reads. -/
import Derived.Test.YtnkkbkceapcahaaDoorNum1
import Derived.Deep.RegionWith
import Derived.Deep.RegionHeld3
import Derived.Test.YtnkkbkceapcahaaDoorValid1
namespace Go.Proofs.YtnkkbkceapcahaaDoor
open Go.RowKit Go.Rt
theorem numL_succ (n k : Nat) : numL n (k + 1) = numL (n / 256) k ++ [n % 256] := by
  unfold numL
  rw [List.range_succ, List.map_append]
  congr 1
  · apply List.map_congr_left
    intro j hj
    have hj' := List.mem_range.1 hj
    have e : k + 1 - 1 - j = (k - 1 - j) + 1 := by omega
    rw [e, Nat.mul_succ, Nat.pow_add, show (2 : Nat) ^ 8 = 256 from rfl, Nat.mul_comm, ← Nat.div_div_eq_div_mul]
  · simp
theorem numF_succ (n k : Nat) : numF n (k + 1) = numF (n / 256) k ++ ⟨#[UInt8.ofNat (n % 256)]⟩ := by
  unfold numF
  rw [numL_succ, List.map_append]
  apply ByteArray.ext
  simp [ByteArray.data_append]
theorem numF_zero (n : Nat) : numF n 0 = ⟨#[]⟩ := by simp [numF, numL]
theorem one_conv (W : World) (b m : Nat) (hm : m < 256) (h : W.cell? ⟨b, 0, none⟩ = some (.int .u8 (m : Int))) :
    (convert 81 9 (.slice (some ⟨b, 0, none⟩) 1 1)).run Tryd.prog W = .ok (.string ⟨#[UInt8.ofNat m]⟩) W := by
  have q := run_convert_bytes_back (P := Tryd.prog) W 81 9 5 ⟨b, 0, none⟩ 1 [UInt8.ofNat m] und29 und5 und9 ?_
  · exact q
  · intro j hj
    simp at hj
    subst hj
    rw [show (⟨b, 0, none⟩ : Addr).add 0 = ⟨b, 0, none⟩ from rfl, h]
    simp [UInt8.toNat_ofNat', Nat.mod_eq_of_lt hm]
set_option maxHeartbeats 400000 in
theorem number_zero (n : Nat) (w : World) :
    Calls Tryd.prog 40 #[.int .u64 n, .int .i64 0] w fun e w' => e = .returned (.string (numF n 0)) ∧ Below w.heap.size w w' := by
  rw [numF_zero]
  go_enter Tryd.func40, Tryd.ntmps40
  go_wp2_with fail
  go_ret
  exact ⟨rfl, Below.refl _ _⟩
set_option maxRecDepth 100000 in
set_option maxHeartbeats 1000000 in
theorem number_any : ∀ (k n : Nat) (w : World), k ≤ 8 → n ≤ 18446744073709551615 →
    Calls Tryd.prog 40 #[.int .u64 n, .int .i64 k] w fun e w' => e = .returned (.string (numF n k)) ∧ Below w.heap.size w w' := by
  intro k
  induction k with
  | zero => intro n w _ _; exact number_zero n w
  | succ k ih =>
    intro n w hk hn
    have HX : Hid (numF n (k + 1) = numF (n / 256) k ++ ⟨#[UInt8.ofNat (n % 256)]⟩) := Lib.hid (numF_succ n k)
    have IH0 : ∀ W, Calls Tryd.prog 40 #[.int .u64 ((n : Int) / 256), .int .i64 k] W fun e w' => e = .returned (.string (numF (n / 256) k)) ∧ Below W.heap.size W w' := by
      intro W
      have := ih (n / 256) W (by omega) (by omega)
      rwa [show (((n / 256 : Nat)) : Int) = (n : Int) / 256 by omega] at this
    have hz : (numF (n / 256) k).size ≤ 8 := by simp [numF, numL, ByteArray.size]; omega
    have IH := Lib.hid IH0
    obtain ⟨q, hq⟩ : ∃ q, q = numF (n / 256) k := ⟨_, rfl⟩
    rw [← hq] at HX IH hz
    clear hq ih IH0
    obtain ⟨m, hm⟩ : ∃ m, m = n % 256 := ⟨_, rfl⟩
    have hm8 : m < 256 := by omega
    have hcv := fun (W : World) (b : Nat) (h : W.cell? ⟨b, 0, none⟩ = some (.int .u8 (m : Int))) => one_conv W b m hm8 h
    have w1 : IntKind.u64.wrap ((n : Int) / 256) = (n : Int) / 256 := by rw [IntKind.wrap_u64]; omega
    have w2 : IntKind.i64.wrap (k : Int) = (k : Int) := by rw [IntKind.wrap_i64] <;> omega
    have w3 : IntKind.u8.wrap (n : Int) = (m : Int) := by rw [IntKind.wrap_u8]; omega
    rw [← hm] at HX
    clear hm
    rw [HX.out]
    have h0 : ((k : Int) + 1 == 0) = false := by simp; omega
    go_enter Tryd.func40, Tryd.ntmps40
    go_wp2_with fail
    go_region_with ((go_at_call 40; refine (IH.out _).mono ?_; rintro e w4 ⟨rfl, b1⟩; have hc4 := fun (b o : Nat) (h : b < _) => b1.cell (p := ⟨b, o, none⟩) h))
    all_goals (go_wp2; go_ret; refine ⟨rfl, ?_⟩; first | exact ((Below.refl w.heap.size w).drew.alloc (Nat.le_refl _) _).trans (b1.mono (by simp)) | exact (((Below.refl w.heap.size w).drew).trans b1).alloc (by have := b1.size; simpa using this) _)
end Go.Proofs.YtnkkbkceapcahaaDoor
namespace Go.Proofs.YtnkkbkceapcahaaDoor
open Go.RowKit Go.Rt

theorem lenF_size (s : ByteArray) : (lenF s).size = s.size + 1 := by unfold lenF; rw [ByteArray.size_append, numF_size]; omega
theorem encF_size (p : Pr) : (encF p).size = p.name.size + 5 := by unfold encF; rw [ByteArray.size_append, numF_size, lenF_size]
theorem u64_of (g : Nat) (h : g ≤ 2147483647) : IntKind.u64.wrap (g : Int) = (g : Int) := by rw [IntKind.wrap_u64]; omega

set_option maxRecDepth 100000 in
set_option maxHeartbeats 1000000 in
theorem enc_any (n : ByteArray) (g : Nat) (hn : n.size ≤ 100000) (hg : g ≤ 2147483647) (w : World) :
    Calls Tryd.prog 34 #[.agg #[.string n, .int .i64 g]] w fun e w' => e = .returned (.string (encF ⟨n, g⟩)) ∧ Below w.heap.size w w' := by
  have hu := u64_of g hg
  have z1 := lenF_size n
  have z2 := numF_size g 4
  have C1 := Lib.hid (fun W => word_any n (by omega) W)
  have C2 : Hid (∀ W, Calls Tryd.prog 37 #[.int .u64 (g : Int), .int .i64 4] W fun e w' => e = .returned (.string (numF g 4)) ∧ Below W.heap.size W w') := Lib.hid (fun W => bytes_any g 4 (by omega) W)
  have HQ : Hid (encF ⟨n, g⟩ = lenF n ++ numF g 4) := Lib.hid rfl
  obtain ⟨q1, hq1⟩ : ∃ q, q = lenF n := ⟨_, rfl⟩
  obtain ⟨q2, hq2⟩ : ∃ q, q = numF g 4 := ⟨_, rfl⟩
  rw [← hq1] at z1 C1 HQ
  rw [← hq2] at z2 C2 HQ
  clear hq1 hq2
  have z2' : q2.size ≤ 4 := by omega
  have z1' : q1.size ≤ 100001 := by omega
  clear z1 z2
  have hs : ¬ 9223372036854775807 < q1.size + q2.size := by omega
  rw [HQ.out]
  go_enter Tryd.func34, Tryd.ntmps34
  go_wp2
  go_region_held3 (fun w' => w'.cell? ⟨w.heap.size, 0, none⟩ = some (.string n) ∧ w'.cell? ⟨w.heap.size, 1, none⟩ = some (.int .i64 (g : Int)) ∧ w.heap.size < w'.heap.size) (((try dsimp only); refine ⟨?_, ?_, ?_⟩ <;> first | (go_keep; done) | omega))
    (first
      | (go_at_call 35; refine (C1.out _).mono ?_; rintro e w1 ⟨rfl, b1⟩; obtain ⟨hc1, _⟩ := bcell b1; have z1 := b1.size)
      | (go_at_call 37; refine (C2.out _).mono ?_; rintro e w2 ⟨rfl, b2⟩; obtain ⟨hc2, _⟩ := bcell b2; have z2 := b2.size))
  all_goals (go_wp2; go_ret; exact ⟨rfl, (((Below.refl w.heap.size w).alloc (Nat.le_refl _) _).drew.trans (b1.mono (by simp))).trans (b2.mono (by simp at z1; omega))⟩)

set_option maxRecDepth 100000 in
set_option maxHeartbeats 1000000 in
theorem peer_any (n : ByteArray) (g : Nat) (hn : n.size ≤ 100000) (hg : g ≤ 2147483647) (w : World) :
    Calls Tryd.prog 39 #[.agg #[.string n, .int .i64 g]] w fun e w' => e = .returned (.string (encF ⟨n, g⟩)) ∧ Below w.heap.size w w' := by
  have hu := u64_of g hg
  have hu2 := u64_of n.size (by omega)
  have z2 := numF_size g 4
  have z3 := numF_size n.size 1
  have C1 : Hid (∀ W, Calls Tryd.prog 40 #[.int .u64 (n.size : Int), .int .i64 1] W fun e w' => e = .returned (.string (numF n.size 1)) ∧ Below W.heap.size W w') := Lib.hid (fun W => number_any 1 n.size W (by omega) (by omega))
  have C2 : Hid (∀ W, Calls Tryd.prog 40 #[.int .u64 (g : Int), .int .i64 4] W fun e w' => e = .returned (.string (numF g 4)) ∧ Below W.heap.size W w') := Lib.hid (fun W => number_any 4 g W (by omega) (by omega))
  have HQ : Hid (encF ⟨n, g⟩ = numF n.size 1 ++ n ++ numF g 4) := Lib.hid rfl
  obtain ⟨q1, hq1⟩ : ∃ q, q = numF n.size 1 := ⟨_, rfl⟩
  obtain ⟨q2, hq2⟩ : ∃ q, q = numF g 4 := ⟨_, rfl⟩
  rw [← hq1] at z3 C1 HQ
  rw [← hq2] at z2 C2 HQ
  clear hq1 hq2
  have z2' : q2.size ≤ 4 := by omega
  have z1' : q1.size ≤ 1 := by omega
  clear z2 z3
  have hs : ¬ 9223372036854775807 < q1.size + n.size := by omega
  have hs2 : ¬ 9223372036854775807 < q1.size + n.size + q2.size := by omega
  rw [HQ.out]
  go_enter Tryd.func39, Tryd.ntmps39
  go_wp2
  go_region_held3 (fun w' => w'.cell? ⟨w.heap.size, 0, none⟩ = some (.string n) ∧ w'.cell? ⟨w.heap.size, 1, none⟩ = some (.int .i64 (g : Int)) ∧ w.heap.size < w'.heap.size) (((try dsimp only); refine ⟨?_, ?_, ?_⟩ <;> first | (go_keep; done) | omega))
    (first
      | (go_at_call_of 40 (Value.int IntKind.u64 (n.size : Int)); refine (C1.out _).mono ?_; rintro e w1 ⟨rfl, b1⟩; obtain ⟨hc1, _⟩ := bcell b1; have z1 := b1.size)
      | (go_at_call_of 40 (Value.int IntKind.u64 (g : Int)); refine (C2.out _).mono ?_; rintro e w2 ⟨rfl, b2⟩; obtain ⟨hc2, _⟩ := bcell b2; have z2 := b2.size))
  all_goals (go_wp2; go_ret; exact ⟨rfl, (((Below.refl w.heap.size w).alloc (Nat.le_refl _) _).drew.trans (b1.mono (by simp))).trans (b2.mono (by simp at z1; omega))⟩)
end Go.Proofs.YtnkkbkceapcahaaDoor
namespace Go.Proofs.YtnkkbkceapcahaaDoor
open Go.RowKit Go.Rt

theorem ext_ext (b : ByteArray) (i j k l : Nat) (h : i + l ≤ j) : (b.extract i j).extract k l = b.extract (i + k) (i + l) := by
  apply ByteArray.ext
  simp only [ByteArray.data_extract, Array.extract_extract]
  rw [Nat.min_eq_left (by omega)]
theorem ext_size (b : ByteArray) (i j : Nat) (h : j ≤ b.size) : (b.extract i j).size = j - i := by rw [ByteArray.size_extract, Nat.min_eq_left h]
theorem cut_any' (b : ByteArray) (h0 : 0 < b.size) (h1 : 1 + atB b 0 ≤ b.size) (hz : b.size ≤ 1000000) (w : World) :
    Calls Tryd.prog 58 #[.string b] w fun e w' => e = .returned (.tuple #[.string (b.extract 1 (1 + atB b 0)), .string (b.extract (1 + atB b 0) b.size), .bool true]) ∧ Below w.heap.size w w' := by
  rw [atB_get b 0 h0] at h1 ⊢
  refine (cut_some b h0 h1 hz w).mono fun e w' ⟨he, n, hw⟩ => ⟨he, ?_⟩
  subst hw
  exact below_drewN (Below.refl _ _) n
theorem readPF_none (b : ByteArray) (h : b.size = 0 ∨ b.size < 5 + atB b 0) : readPF b = none := by unfold readPF; rw [if_pos h]
theorem readPF_bad (b : ByteArray) (h : ¬ (b.size = 0 ∨ b.size < 5 + atB b 0)) (hv : validF ⟨b.extract 1 (1 + atB b 0), valF (b.extract (1 + atB b 0) (5 + atB b 0)) 4⟩ = false) : readPF b = none := by
  unfold readPF
  rw [if_neg h]
  simp only [hv, Bool.false_eq_true, if_false]
theorem readPF_good (b : ByteArray) (h : ¬ (b.size = 0 ∨ b.size < 5 + atB b 0)) (hv : validF ⟨b.extract 1 (1 + atB b 0), valF (b.extract (1 + atB b 0) (5 + atB b 0)) 4⟩ = true) :
    readPF b = some (⟨b.extract 1 (1 + atB b 0), valF (b.extract (1 + atB b 0) (5 + atB b 0)) 4⟩, b.extract (5 + atB b 0) b.size) := by
  unfold readPF
  rw [if_neg h]
  simp only [hv, if_true]
/-- What a reading of a peer leaves: the peer and the rest, or some peer and a no. -/
def ReadP (b : ByteArray) (w : World) (e : Ending) (w' : World) : Prop :=
  (∃ (nm : ByteArray) (g : Nat) (r : ByteArray) (ok : Bool), e = .returned (.tuple #[.agg #[.string nm, .int .i64 g], .string r, .bool ok]) ∧ (readPF b = if ok then some (⟨nm, g⟩, r) else none)) ∧ Below w.heap.size w w'

set_option maxRecDepth 100000 in
set_option maxHeartbeats 1000000 in
theorem cutP_any (b : ByteArray) (hz : b.size ≤ 1000000) (w : World) : Calls Tryd.prog 57 #[.string b] w (ReadP b w) := by
  have A0 : Hid (∀ W' o, Below (w.alloc o).heap.size (w.alloc o) W' → Below w.heap.size w W') := Lib.hid (fun W' o h => ((Below.refl w.heap.size w).alloc (Nat.le_refl _) o).trans (h.mono (by simp)))
  by_cases h0 : b.size = 0 ∨ b.size < 1 + atB b 0
  · have C : Hid (∀ W, Calls Tryd.prog 58 #[.string b] W fun e w' => e = .returned (.tuple #[.string ByteArray.empty, .string ByteArray.empty, .bool false]) ∧ W = w') := by
      refine Lib.hid fun W => ?_
      rcases h0 with h0 | h0
      · exact cut_none b h0 W
      · have hb : 0 < b.size ∨ b.size = 0 := by omega
        rcases hb with hb | hb
        · exact cut_short b hb (by rw [← atB_get b 0 hb]; exact h0) W
        · exact cut_none b hb W
    have HR := Lib.hid (readPF_none b (by omega))
    clear h0
    go_enter Tryd.func57, Tryd.ntmps57
    go_wp2_with (go_at_call 58; refine (C.out _).mono ?_; rintro e w1 ⟨rfl, rfl⟩)
    exact bodyPost_ret (v := .tuple #[.agg #[.string ⟨#[]⟩, .int .i64 0], .string ⟨#[]⟩, .bool false]) (by simp [results, Tryd.results57, go_sem]) rfl ⟨⟨⟨#[]⟩, 0, ⟨#[]⟩, false, rfl, HR.out⟩, (Below.refl _ _).alloc (Nat.le_refl _) _⟩
  · have hb : 0 < b.size := by omega
    have C := Lib.hid (fun W => cut_any' b hb (by omega) hz W)
    have h4 : (b.extract (1 + atB b 0) b.size).size = b.size - (1 + atB b 0) := ext_size _ _ _ (Nat.le_refl _)
    have hrl : 1 + atB b 0 ≤ b.size := by omega
    have HN := Lib.hid (readPF_none b)
    have HB := Lib.hid (readPF_bad b)
    have HG := Lib.hid (readPF_good b)
    have e1 : b.extract (1 + atB b 0) (5 + atB b 0) = (b.extract (1 + atB b 0) b.size).extract 0 4 := by
      by_cases h5 : 5 + atB b 0 ≤ b.size
      · rw [ext_ext _ _ _ _ _ (by omega)]; congr 1; omega
      · apply ByteArray.ext
        simp only [ByteArray.data_extract, Array.extract_extract]
        apply Array.ext'
        simp [Array.toList_extract, List.extract]
        omega
    have e2 : b.extract (5 + atB b 0) b.size = (b.extract (1 + atB b 0) b.size).extract 4 (b.extract (1 + atB b 0) b.size).size := by
      rw [h4, ext_ext _ _ _ _ _ (by omega)]; congr 1 <;> omega
    rw [e1, e2] at HG
    rw [e1] at HB
    obtain ⟨R, hR⟩ : ∃ R, R = b.extract (1 + atB b 0) b.size := ⟨_, rfl⟩
    obtain ⟨nm, hnm⟩ : ∃ R, R = b.extract 1 (1 + atB b 0) := ⟨_, rfl⟩
    rw [← hR] at h4 C HG HB
    rw [← hnm] at C HG HB
    clear e1 e2 hR hnm h0
    by_cases h5 : R.size < 4
    · have HR := Lib.hid (HN.out (by omega))
      have h5' : (R.size : Int) < 4 := by omega
      clear HG HB h4 hrl h5
      go_enter Tryd.func57, Tryd.ntmps57
      go_wp2_with (go_at_call 58; refine (C.out _).mono ?_; rintro e w1 ⟨rfl, b1⟩; obtain ⟨hc1, hf1⟩ := bcell b1; have z1 := b1.size; have B1 := Lib.hid (A0.out _ _ b1); clear b1)
      exact bodyPost_ret (v := .tuple #[.agg #[.string ⟨#[]⟩, .int .i64 0], .string ⟨#[]⟩, .bool false]) (by simp [results, Tryd.results57, go_sem, hc1]) rfl ⟨⟨⟨#[]⟩, 0, ⟨#[]⟩, false, rfl, HR.out⟩, (B1.out.setCell (Nat.le_refl _) _).setCell (Nat.le_refl _) _⟩
    · have hv4 : (R.extract 0 4).size = 4 := by rw [ext_size _ _ _ (by omega)]
      have V := fun W => value_any (R.extract 0 4) (by omega) W
      rw [hv4] at V
      have hgl := valF_lt (R.extract 0 4) 4
      obtain ⟨g, hg⟩ : ∃ g, g = valF (R.extract 0 4) 4 := ⟨_, rfl⟩
      rw [← hg] at V HG HB hgl
      have hgl' : g < 4294967296 := hgl
      have hgw : IntKind.i64.wrap (g : Int) = (g : Int) := by rw [IntKind.wrap_i64] <;> omega
      have HV := Lib.hid V
      have VA := Lib.hid (fun W => validV_any nm (g : Int) W)
      have HF : Hid (readPF b = if nameF nm && genI g then some (⟨nm, g⟩, R.extract 4 R.size) else none) := by
        refine Lib.hid ?_
        have hc : ¬ (b.size = 0 ∨ b.size < 5 + atB b 0) := by omega
        cases hh : (nameF nm && genI g) with
        | false => rw [HB.out hc (by unfold validF; rw [genB_I]; exact hh)]; rfl
        | true => rw [HG.out hc (by unfold validF; rw [genB_I]; exact hh)]; rfl
      obtain ⟨ok, hok⟩ : ∃ ok, ok = (nameF nm && genI g) := ⟨_, rfl⟩
      rw [← hok] at VA HF
      have h5' : ¬ (R.size : Int) < 4 := by omega
      have h6 : (4 : Int) ≤ R.size := by omega
      clear hg V HG HB HN hok hgl hv4 h4 hrl h5 hgl'
      go_enter Tryd.func57, Tryd.ntmps57
      go_wp2_with fail
      refine (C.out _).mono ?_
      rintro e w1 ⟨rfl, b1⟩
      obtain ⟨hc1, hf1⟩ := bcell b1
      have k0 : w1.cell? ⟨w.heap.size, 0, none⟩ = some (.string ⟨#[]⟩) := by rw [hc1 _ _ (by simp)]; simp
      have k1 : w1.cell? ⟨w.heap.size, 1, none⟩ = some (.int .i64 0) := by rw [hc1 _ _ (by simp)]; simp
      have k2 : w1.frozen? ⟨w.heap.size, 0, none⟩ = false := by rw [hf1 _ _ (by simp)]; simp
      have k3 : w1.frozen? ⟨w.heap.size, 1, none⟩ = false := by rw [hf1 _ _ (by simp)]; simp
      have z1 : w.heap.size < w1.heap.size := by have := b1.size; simp at this; omega
      have z1p : w.heap.size < w1.heap.size + 1 := by omega
      have ne1 : ¬ w.heap.size = w1.heap.size := by omega
      have ne2 : ¬ w1.heap.size = w.heap.size := by omega
      have B1 := Lib.hid (A0.out _ _ b1)
      clear b1 hc1 hf1
      go_wp2_with fail
      refine (HV.out _).mono ?_
      rintro e w2 ⟨rfl, rfl⟩
      go_wp2_with fail
      go_region_held3 (fun w' => w'.cell? ⟨w1.heap.size, 0, none⟩ = some (.string nm) ∧ w'.cell? ⟨w1.heap.size, 1, none⟩ = some (.int .i64 (g : Int)) ∧ w1.heap.size < w'.heap.size) (((try dsimp only); refine ⟨?_, ?_, ?_⟩ <;> first | (go_keep; done) | omega | (simp; omega) | (simp [*, World.frozen?_alloc_past]; done)))
        ((go_at_call 32; refine (VA.out _).mono ?_; rintro e w3 ⟨rfl, b3⟩; obtain ⟨hc3, hf3⟩ := bcell b3; have z3 := b3.size))
      all_goals
        have q0 : w3.cell? ⟨w.heap.size, 0, none⟩ = some (.string ⟨#[]⟩) := (hc3 _ _ (by simp; omega)).trans ((World.cell?_alloc_past _ _ _ z1).trans k0)
        have q1 : w3.cell? ⟨w.heap.size, 1, none⟩ = some (.int .i64 0) := (hc3 _ _ (by simp; omega)).trans ((World.cell?_alloc_past _ _ _ z1).trans k1)
        go_wp2
        refine bodyPost_ret (v := .tuple #[.agg #[.string nm, .int .i64 g], .string (R.extract 4 R.size), .bool ok]) (by simp [results, Tryd.results57, go_sem, q0, q1]) rfl ⟨⟨nm, g, R.extract 4 R.size, ok, rfl, HF.out⟩, ?_⟩
        exact (((B1.out.alloc (by omega) _).drew.trans (b3.mono (by simp; omega))).setCell (Nat.le_refl _) _).setCell (Nat.le_refl _) _

set_option maxRecDepth 100000 in
set_option maxHeartbeats 1000000 in
theorem readP_any (b : ByteArray) (hz : b.size ≤ 1000000) (w : World) : Calls Tryd.prog 55 #[.string b] w (ReadP b w) := by
  have A0 : Hid (∀ W' o, Below (w.alloc o).heap.size (w.alloc o) W' → Below w.heap.size w W') := Lib.hid (fun W' o h => ((Below.refl w.heap.size w).alloc (Nat.le_refl _) o).trans (h.mono (by simp)))
  by_cases h0 : b.size = 0
  · have HR := Lib.hid (readPF_none b (.inl h0))
    have h0' : ((b.size : Int) == 0) = true := by rw [h0]; rfl
    clear h0
    go_enter Tryd.func55, Tryd.ntmps55
    go_wp2
    exact bodyPost_ret (v := .tuple #[.agg #[.string ⟨#[]⟩, .int .i64 0], .string ⟨#[]⟩, .bool false]) (by simp [results, Tryd.results55, go_sem]) rfl ⟨⟨⟨#[]⟩, 0, ⟨#[]⟩, false, rfl, HR.out⟩, (Below.refl _ _).alloc (Nat.le_refl _) _⟩
  · have hb : 0 < b.size := by omega
    have hcl : b[0].toNat < 256 := b[0].toNat_lt
    have hat := atB_get b 0 hb
    have h0' : ((b.size : Int) == 0) = false := by rw [beq_eq_false_iff_ne]; omega
    have HN := Lib.hid (readPF_none b)
    have HB := Lib.hid (readPF_bad b)
    have HG := Lib.hid (readPF_good b)
    rw [hat] at HN HB HG
    by_cases h5 : b.size < 5 + b[0].toNat
    · have HR := Lib.hid (HN.out (.inr h5))
      have h5' : (b.size : Int) < 5 + (b[0].toNat : Int) := by omega
      clear HN HB HG hat h0 h5
      go_enter Tryd.func55, Tryd.ntmps55
      go_wp2
      exact bodyPost_ret (v := .tuple #[.agg #[.string ⟨#[]⟩, .int .i64 0], .string ⟨#[]⟩, .bool false]) (by simp [results, Tryd.results55, go_sem]) rfl ⟨⟨⟨#[]⟩, 0, ⟨#[]⟩, false, rfl, HR.out⟩, (Below.refl _ _).alloc (Nat.le_refl _) _⟩
    · have h5' : ¬ (b.size : Int) < 5 + (b[0].toNat : Int) := by omega
      obtain ⟨c, hc⟩ : ∃ c, b[0].toNat = c := ⟨_, rfl⟩
      rw [hc] at HB HG hcl h5 h5'
      have hv4 : (b.extract (1 + c) (5 + c)).size = 4 := by rw [ext_size _ _ _ (by omega)]; omega
      have V := fun W => rvalue_any (b.extract (1 + c) (5 + c)) (by omega) W
      rw [hv4] at V
      have hgl := valF_lt (b.extract (1 + c) (5 + c)) 4
      obtain ⟨g, hg⟩ : ∃ g, g = valF (b.extract (1 + c) (5 + c)) 4 := ⟨_, rfl⟩
      rw [← hg] at V HG HB hgl
      have hgl' : g < 4294967296 := hgl
      have hgw : IntKind.i64.wrap (g : Int) = (g : Int) := by rw [IntKind.wrap_i64] <;> omega
      have HV := Lib.hid V
      have VA := Lib.hid (fun W => validR_any (b.extract 1 (1 + c)) (g : Int) W)
      obtain ⟨nm, hnm⟩ : ∃ R, R = b.extract 1 (1 + c) := ⟨_, rfl⟩
      have HF : Hid (readPF b = if nameF nm && genI g then some (⟨nm, g⟩, b.extract (5 + c) b.size) else none) := by
        refine Lib.hid ?_
        have hq : ¬ (b.size = 0 ∨ b.size < 5 + c) := by omega
        rw [hnm]
        cases hh : (nameF (b.extract 1 (1 + c)) && genI g) with
        | false => rw [HB.out hq (by unfold validF; rw [genB_I]; exact hh)]; rfl
        | true => rw [HG.out hq (by unfold validF; rw [genB_I]; exact hh)]; rfl
      rw [← hnm] at VA
      obtain ⟨ok, hok⟩ : ∃ ok, ok = (nameF nm && genI g) := ⟨_, rfl⟩
      rw [← hok] at VA HF
      have hnm' : b.extract 1 (1 + c) = nm := hnm.symm
      have hw1 : IntKind.i64.wrap (1 + (c : Int)) = 1 + (c : Int) := by rw [IntKind.wrap_i64] <;> omega
      have hw5 : IntKind.i64.wrap (5 + (c : Int)) = 5 + (c : Int) := by rw [IntKind.wrap_i64] <;> omega
      have ht1 : (1 + (c : Int)).toNat = 1 + c := by omega
      have ht5 : (5 + (c : Int)).toNat = 5 + c := by omega
      have l0 : (0 : Int) ≤ 1 + (c : Int) := by omega
      have l1 : (1 : Int) ≤ 1 + (c : Int) := by omega
      have l5 : (0 : Int) ≤ 5 + (c : Int) := by omega
      have l6 : 5 + (c : Int) ≤ b.size := by omega
      have l7 : 1 + (c : Int) ≤ b.size := by omega
      have l8 : 1 + (c : Int) ≤ 5 + (c : Int) := by omega
      clear hg V HG HB HN hok hgl hv4 hat h5 hgl' h0 hnm
      go_enter Tryd.func55, Tryd.ntmps55
      go_wp2
      go_region_held3 (fun w' => w'.cell? ⟨w.heap.size, 0, none⟩ = some (.string ⟨#[]⟩)) (go_keep)
        ((go_at_call 47; refine (HV.out _).mono ?_; rintro e w3 ⟨rfl, rfl⟩))
      all_goals
        go_wp2_with fail
        go_region_held3 (fun w' => w'.cell? ⟨w.heap.size + 1, 0, none⟩ = some (.string nm) ∧ w'.cell? ⟨w.heap.size + 1, 1, none⟩ = some (.int .i64 (g : Int)) ∧ w.heap.size + 1 < w'.heap.size) (((try dsimp only); refine ⟨?_, ?_, ?_⟩ <;> first | (go_keep; done) | omega | (simp; omega)))
          ((go_at_call 41; refine (VA.out _).mono ?_; rintro e w3 ⟨rfl, b3⟩; obtain ⟨hc3, hf3⟩ := bcell b3; have z3 := b3.size))
        all_goals
          have q0 : w3.cell? ⟨w.heap.size, 0, none⟩ = some (.string ⟨#[]⟩) := (hc3 _ _ (by simp; omega)).trans (by simp)
          have q1 : w3.cell? ⟨w.heap.size, 1, none⟩ = some (.int .i64 0) := (hc3 _ _ (by simp; omega)).trans (by simp)
          go_wp2
          refine bodyPost_ret (v := .tuple #[.agg #[.string nm, .int .i64 g], .string (b.extract (5 + c) b.size), .bool ok]) (by simp [results, Tryd.results55, go_sem, q0, q1]) rfl ⟨⟨nm, g, b.extract (5 + c) b.size, ok, rfl, HF.out⟩, ?_⟩
          exact ((((((Below.refl w.heap.size w).alloc (Nat.le_refl _) _).alloc (by simp) _).drew.drew).trans (b3.mono (by simp; omega))).setCell (Nat.le_refl _) _).setCell (Nat.le_refl _) _
end Go.Proofs.YtnkkbkceapcahaaDoor
