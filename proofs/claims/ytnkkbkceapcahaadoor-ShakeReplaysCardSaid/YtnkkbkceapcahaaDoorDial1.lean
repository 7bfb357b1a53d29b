/- Hello and readHello of the reference. Dial and Listen of both sides. -/
import Derived.Test.YtnkkbkceapcahaaDoorCutP1
import Derived.Test.YtnkkbkceapcahaaDoorProof
namespace Go.Proofs.YtnkkbkceapcahaaDoor
open Go.RowKit Go.Rt

set_option maxRecDepth 100000 in
set_option maxHeartbeats 1000000 in
theorem hello_any (n : ByteArray) (g : Nat) (want : ByteArray) (hn : n.size ≤ 100000) (hg : g ≤ 2147483647) (hw : want.size ≤ 100000) (w : World) :
    Calls Tryd.prog 43 #[.agg #[.string n, .int .i64 g], .string want] w fun e w' => e = .returned (.string (helloF ⟨n, g⟩ want)) ∧ Below w.heap.size w w' := by
  have hu2 := u64_of want.size (by omega)
  have e1 := encF_size ⟨n, g⟩
  have e2 := numF_size want.size 1
  have C1 := Lib.hid (fun W => peer_any n g hn hg W)
  have C2 : Hid (∀ W, Calls Tryd.prog 40 #[.int .u64 (want.size : Int), .int .i64 1] W fun e w' => e = .returned (.string (numF want.size 1)) ∧ Below W.heap.size W w') := Lib.hid (fun W => number_any 1 want.size W (by omega) (by omega))
  have HQ : Hid (helloF ⟨n, g⟩ want = ByteArray.mk #[1, 1] ++ encF ⟨n, g⟩ ++ numF want.size 1 ++ want) := by
    refine Lib.hid ?_
    unfold helloF lenF
    rw [ByteArray.append_assoc, ← ByteArray.append_assoc (a := encF ⟨n, g⟩)]
    rw [ByteArray.append_assoc (a := ByteArray.mk #[1, 1]), ByteArray.append_assoc (a := ByteArray.mk #[1, 1])]
    rfl
  rw [HQ.out]
  obtain ⟨q1, hq1⟩ : ∃ q, q = encF ⟨n, g⟩ := ⟨_, rfl⟩
  obtain ⟨q2, hq2⟩ : ∃ q, q = numF want.size 1 := ⟨_, rfl⟩
  rw [← hq1] at e1 C1 ⊢
  rw [← hq2] at e2 C2 ⊢
  simp only at e1
  have z1 : q1.size ≤ 100005 := by omega
  have z2 : q2.size ≤ 1 := by omega
  clear hq1 hq2 HQ e1 e2
  have s1 : ¬ 9223372036854775807 < 2 + q1.size := by omega
  have s2 : ¬ 9223372036854775807 < 2 + q1.size + q2.size := by omega
  have s3 : ¬ 9223372036854775807 < 2 + q1.size + q2.size + want.size := by omega
  go_enter Tryd.func43, Tryd.ntmps43
  go_wp2_with fail
  refine (C1.out _).mono ?_
  rintro e w1 ⟨rfl, b1⟩
  have B1 := Lib.hid (((Below.refl w.heap.size w).alloc (Nat.le_refl _) _).trans (b1.mono (by simp)))
  clear b1
  go_wp2_with fail
  refine (C2.out _).mono ?_
  rintro e w2 ⟨rfl, b2⟩
  have B2 := Lib.hid (B1.out.trans (b2.mono B1.out.size))
  clear b2
  go_wp2
  go_ret
  exact ⟨rfl, B2.out⟩

theorem readPF_le {b r : ByteArray} {p : Pr} (h : readPF b = some (p, r)) : r.size ≤ b.size := by
  unfold readPF at h
  split at h
  · cases h
  · simp only at h
    split at h
    · simp only [Option.some.injEq, Prod.mk.injEq] at h
      rw [← h.2, ByteArray.size_extract]
      omega
    · cases h
/-- What a reading of a hello leaves. -/
def ReadH (b : ByteArray) (w : World) (e : Ending) (w' : World) : Prop :=
  (∃ (nm : ByteArray) (g : Nat) (want : ByteArray) (ok : Bool), e = .returned (.tuple #[.agg #[.string nm, .int .i64 g], .string want, .bool ok]) ∧ (readHF b = if ok then some (⟨nm, g⟩, want) else none)) ∧ Below w.heap.size w w'
theorem readHF_short (b : ByteArray) (h : b.size < 2 ∨ seqB (b.extract 0 2) helloC = false) : readHF b = none := by unfold readHF; rw [if_pos h]
theorem readHF_none (b : ByteArray) (h : readPF (b.extract 2 b.size) = none) : readHF b = none := by
  unfold readHF
  split
  · rfl
  · rw [h]
theorem readHF_bad (b r : ByteArray) (p : Pr) (h : readPF (b.extract 2 b.size) = some (p, r)) (hr : r.size = 0 ∨ r.size ≠ 1 + atB r 0 ∨ nameF (r.extract 1 r.size) = false) : readHF b = none := by
  unfold readHF
  split
  · rfl
  · rw [h]
    simp only
    rw [if_pos hr]
theorem readHF_good (b r : ByteArray) (p : Pr) (h0 : ¬ (b.size < 2 ∨ seqB (b.extract 0 2) helloC = false)) (h : readPF (b.extract 2 b.size) = some (p, r)) (hr : ¬ (r.size = 0 ∨ r.size ≠ 1 + atB r 0 ∨ nameF (r.extract 1 r.size) = false)) : readHF b = some (p, r.extract 1 r.size) := by
  unfold readHF
  rw [if_neg h0, h]
  simp only
  rw [if_neg hr]

set_option maxRecDepth 100000 in
set_option maxHeartbeats 1000000 in
theorem readH_any (b : ByteArray) (hz : b.size ≤ 100000) (w : World) : Calls Tryd.prog 44 #[.string b] w (ReadH b w) := by
  have A0 : Hid (∀ W' o, Below (w.alloc o).heap.size (w.alloc o) W' → Below w.heap.size w W') := Lib.hid (fun W' o h => ((Below.refl w.heap.size w).alloc (Nat.le_refl _) o).trans (h.mono (by simp)))
  have HS := Lib.hid (readHF_short b)
  by_cases h2 : b.size < 2
  · have HR := Lib.hid (HS.out (.inl h2))
    have h2' : (b.size : Int) < 2 := by omega
    clear HS h2
    go_enter Tryd.func44, Tryd.ntmps44
    go_wp2
    exact bodyPost_ret (v := .tuple #[.agg #[.string ⟨#[]⟩, .int .i64 0], .string ⟨#[]⟩, .bool false]) (by simp [results, Tryd.results44, go_sem]) rfl ⟨⟨⟨#[]⟩, 0, ⟨#[]⟩, false, rfl, HR.out⟩, (Below.refl _ _).alloc (Nat.le_refl _) _⟩
  · have h2' : ¬ (b.size : Int) < 2 := by omega
    have hl2 : (2 : Int) ≤ b.size := by omega
    cases hq : seqB (b.extract 0 2) helloC with
    | false =>
      have HR := Lib.hid (HS.out (.inr hq))
      have hq' : ((b.extract 0 2).toList == [1, 1]) = false := by
        unfold seqB at hq
        rwa [show helloC.toList = [1, 1] from by rw [ByteArray.toList_eq]; rfl] at hq
      clear HS h2 hq
      go_enter Tryd.func44, Tryd.ntmps44
      go_wp2
      exact bodyPost_ret (v := .tuple #[.agg #[.string ⟨#[]⟩, .int .i64 0], .string ⟨#[]⟩, .bool false]) (by simp [results, Tryd.results44, go_sem]) rfl ⟨⟨⟨#[]⟩, 0, ⟨#[]⟩, false, rfl, HR.out⟩, (Below.refl _ _).alloc (Nat.le_refl _) _⟩
    | true =>
      have hq' : ((b.extract 0 2).toList == [1, 1]) = true := by
        unfold seqB at hq
        rwa [show helloC.toList = [1, 1] from by rw [ByteArray.toList_eq]; rfl] at hq
      have HN := Lib.hid (readHF_none b)
      have HB := Lib.hid (fun r p => readHF_bad b r p)
      have HG := Lib.hid (fun r p => readHF_good b r p (by rw [hq]; simp; omega))
      have hez : (b.extract 2 b.size).size = b.size - 2 := ext_size _ _ _ (Nat.le_refl _)
      have C := Lib.hid (fun W => readP_any (b.extract 2 b.size) (by omega) W)
      clear HS h2 hq
      go_enter Tryd.func44, Tryd.ntmps44
      go_wp2_with fail
      refine (C.out _).mono ?_
      rintro e w1 ⟨⟨nm, g, r, ok, rfl, hrd⟩, b1⟩
      have HRD := Lib.hid hrd
      clear hrd
      obtain ⟨hc1, hf1⟩ := bcell b1
      have k0 : w1.cell? ⟨w.heap.size, 0, none⟩ = some (.string ⟨#[]⟩) := by rw [hc1 _ _ (by simp)]; simp
      have k1 : w1.cell? ⟨w.heap.size, 1, none⟩ = some (.int .i64 0) := by rw [hc1 _ _ (by simp)]; simp
      have k2 : w1.frozen? ⟨w.heap.size, 0, none⟩ = false := by rw [hf1 _ _ (by simp)]; simp
      have k3 : w1.frozen? ⟨w.heap.size, 1, none⟩ = false := by rw [hf1 _ _ (by simp)]; simp
      have z1 : w.heap.size < w1.heap.size := by have := b1.size; simp at this; omega
      have ne1 : ¬ w.heap.size = w1.heap.size := by omega
      have ne2 : ¬ w1.heap.size = w.heap.size := by omega
      have B1 := Lib.hid (A0.out _ _ b1)
      clear b1 hc1 hf1
      cases ok with
      | false =>
        have HR := Lib.hid (HN.out HRD.out)
        clear HN HB HG HRD
        go_wp2
        exact bodyPost_ret (v := .tuple #[.agg #[.string ⟨#[]⟩, .int .i64 0], .string ⟨#[]⟩, .bool false]) (by simp [results, Tryd.results44, go_sem, k0, k1, z1]) rfl ⟨⟨⟨#[]⟩, 0, ⟨#[]⟩, false, rfl, HR.out⟩, ((B1.out.setCell (Nat.le_refl _) _).setCell (Nat.le_refl _) _).alloc (by simp; omega) _⟩
      | true =>
        have HRD2 : Hid (readPF (b.extract 2 b.size) = some (⟨nm, g⟩, r)) := Lib.hid HRD.out
        have hrz := readPF_le HRD2.out
        have hrz2 : r.size ≤ 100000 := by omega
        clear HRD hrz
        by_cases hr0 : r.size = 0
        · have HR := Lib.hid (HB.out r _ HRD2.out (.inl hr0))
          have hr0' : ((r.size : Int) == 0) = true := by rw [hr0]; rfl
          clear HN HB HG HRD2 hr0
          go_wp2
          exact bodyPost_ret (v := .tuple #[.agg #[.string ⟨#[]⟩, .int .i64 0], .string ⟨#[]⟩, .bool false]) (by simp [results, Tryd.results44, go_sem, k0, k1, z1]) rfl ⟨⟨⟨#[]⟩, 0, ⟨#[]⟩, false, rfl, HR.out⟩, ((B1.out.setCell (Nat.le_refl _) _).setCell (Nat.le_refl _) _).alloc (by simp; omega) _⟩
        · have hrp : 0 < r.size := by omega
          have hr0' : ((r.size : Int) == 0) = false := by rw [beq_eq_false_iff_ne]; omega
          have hat := atB_get r 0 hrp
          have hcl : r[0].toNat < 256 := r[0].toNat_lt
          by_cases hr1 : r.size = 1 + r[0].toNat
          · have hr1' : ((r.size : Int) != (1 : Int) + (r[0].toNat : Int)) = false := by rw [bne_eq_false_iff_eq]; omega
            have CN := Lib.hid (fun W => nameR_any (r.extract 1 r.size) W)
            have hone : (1 : Int) ≤ r.size := by omega
            cases hnm : nameF (r.extract 1 r.size) with
            | false =>
              rw [hnm] at CN
              have HR := Lib.hid (HB.out r _ HRD2.out (.inr (.inr hnm)))
              clear HN HB HG HRD2 hr0 hat hr1 hnm
              go_wp2_with fail
              refine (CN.out _).mono ?_
              rintro e w2 ⟨rfl, rfl⟩
              go_wp2
              exact bodyPost_ret (v := .tuple #[.agg #[.string ⟨#[]⟩, .int .i64 0], .string ⟨#[]⟩, .bool false]) (by simp [results, Tryd.results44, go_sem, k0, k1, z1]) rfl ⟨⟨⟨#[]⟩, 0, ⟨#[]⟩, false, rfl, HR.out⟩, ((B1.out.setCell (Nat.le_refl _) _).setCell (Nat.le_refl _) _).alloc (by simp; omega) _⟩
            | true =>
              rw [hnm] at CN
              have HR := Lib.hid (HG.out r _ HRD2.out (by rw [hat, hnm]; intro h; rcases h with h | h | h; exact hr0 h; exact h hr1; cases h))
              clear HN HB HG HRD2 hr0 hat hr1 hnm
              go_wp2_with fail
              refine (CN.out _).mono ?_
              rintro e w2 ⟨rfl, rfl⟩
              go_wp2_with fail
              go_region_held3 (fun w' => w'.cell? ⟨w1.heap.size, 0, none⟩ = some (.string nm) ∧ w'.cell? ⟨w1.heap.size, 1, none⟩ = some (.int .i64 (g : Int)) ∧ w1.heap.size < w'.heap.size) (((try dsimp only); refine ⟨?_, ?_, ?_⟩ <;> first | (go_keep; done) | omega | (simp; done) | (simp; omega) | (simp [World.cell?_alloc_at]; done))) (fail)
              all_goals
                go_wp2
                refine bodyPost_ret (v := .tuple #[.agg #[.string nm, .int .i64 g], .string (r.extract 1 r.size), .bool true]) (by simp [results, Tryd.results44, go_sem, k0, k1, z1]) rfl ⟨⟨nm, g, r.extract 1 r.size, true, rfl, HR.out⟩, ?_⟩
                exact (((((B1.out.setCell (Nat.le_refl _) _).setCell (Nat.le_refl _) _)).alloc (by simp; omega) _)).drew
          · have hr1' : ((r.size : Int) != (1 : Int) + (r[0].toNat : Int)) = true := by rw [bne_iff_ne]; omega
            have HR := Lib.hid (HB.out r _ HRD2.out (.inr (.inl (by rw [hat]; exact hr1))))
            clear HN HB HG HRD2 hr0 hat hr1
            go_wp2
            exact bodyPost_ret (v := .tuple #[.agg #[.string ⟨#[]⟩, .int .i64 0], .string ⟨#[]⟩, .bool false]) (by simp [results, Tryd.results44, go_sem, k0, k1, z1]) rfl ⟨⟨⟨#[]⟩, 0, ⟨#[]⟩, false, rfl, HR.out⟩, ((B1.out.setCell (Nat.le_refl _) _).setCell (Nat.le_refl _) _).alloc (by simp; omega) _⟩
end Go.Proofs.YtnkkbkceapcahaaDoor
namespace Go.Proofs.YtnkkbkceapcahaaDoor
open Go.RowKit Go.Rt

def sdC (s : Sd) : Array Value := #[.string s.self.name, .int .i64 s.self.gen, .string s.other.name, .int .i64 s.other.gen, .string s.want, .string s.cookie, .int .u64 s.chal, .int .u64 s.their, .bool s.dials, .bool s.sent, .int .i64 s.state]
def dialB (n : ByteArray) (g : Int) (want : ByteArray) : Bool := nameF n && genI g && nameF want && !(seqB want n)
theorem genI_nat {g : Int} (h : genI g = true) : ∃ k : Nat, g = k ∧ k ≤ 2147483647 := by
  unfold genI at h
  simp only [Bool.and_eq_true, decide_eq_true_eq] at h
  exact ⟨g.toNat, by omega, by omega⟩

set_option maxRecDepth 100000 in
set_option maxHeartbeats 1000000 in
theorem dial_no (n : ByteArray) (g : Int) (want cookie : ByteArray) (c : Nat) (h : dialB n g want = false) (w : World) :
    Calls Tryd.prog 12 #[.agg #[.string n, .int .i64 g], .string want, .string cookie, .int .u64 c] w fun e w' => e = .returned (.tuple #[.pointer none, .string ⟨#[]⟩, .int .i64 2]) ∧ Below w.heap.size w w' := by
  have V := Lib.hid (fun W => validV_any n g W)
  have N := Lib.hid (fun W => nameV_any want W)
  unfold dialB at h
  cases hv : (nameF n && genI g) with
  | false =>
    rw [hv] at V
    clear h hv N
    go_enter Tryd.func12, Tryd.ntmps12
    go_wp2_with fail
    refine (V.out _).mono ?_
    rintro e w1 ⟨rfl, b1⟩
    have B1 := Lib.hid (((Below.refl w.heap.size w).alloc (Nat.le_refl _) _).trans (b1.mono (by simp)))
    clear b1
    go_wp2
    go_ret3
    exact ⟨rfl, B1.out⟩
  | true =>
    rw [hv] at V h
    cases hw : nameF want with
    | false =>
      rw [hw] at N
      clear h hv hw
      go_enter Tryd.func12, Tryd.ntmps12
      go_wp2_with fail
      refine (V.out _).mono ?_
      rintro e w1 ⟨rfl, b1⟩
      have B1 := Lib.hid (((Below.refl w.heap.size w).alloc (Nat.le_refl _) _).trans (b1.mono (by simp)))
      clear b1
      go_wp2_with fail
      refine (N.out _).mono ?_
      rintro e w2 ⟨rfl, b2⟩
      have B2 := Lib.hid (B1.out.trans (b2.mono B1.out.size))
      clear b2
      go_wp2
      go_ret3
      exact ⟨rfl, B2.out⟩
    | true =>
      rw [hw] at N h
      simp only [Bool.true_and, Bool.not_eq_false'] at h
      unfold seqB at h
      clear hv hw
      go_enter Tryd.func12, Tryd.ntmps12
      go_wp2_with fail
      refine (V.out _).mono ?_
      rintro e w1 ⟨rfl, b1⟩
      have k0 : w1.cell? ⟨w.heap.size, 0, none⟩ = some (.string n) := cell_keep b1 (by simp)
      have B1 := Lib.hid (((Below.refl w.heap.size w).alloc (Nat.le_refl _) _).trans (b1.mono (by simp)))
      clear b1
      go_wp2_with fail
      refine (N.out _).mono ?_
      rintro e w2 ⟨rfl, b2⟩
      have k1 := cell_keep b2 k0
      have B2 := Lib.hid (B1.out.trans (b2.mono B1.out.size))
      clear b2 k0
      go_wp2
      go_ret3
      exact ⟨rfl, B2.out⟩

set_option maxRecDepth 100000 in
set_option maxHeartbeats 1000000 in
theorem rdial_no (n : ByteArray) (g : Int) (want cookie : ByteArray) (c : Nat) (h : dialB n g want = false) (w : World) :
    Calls Tryd.prog 24 #[.agg #[.string n, .int .i64 g], .string want, .string cookie, .int .u64 c] w fun e w' => e = .returned (.tuple #[.pointer none, .string ⟨#[]⟩, .int .i64 2]) ∧ Below w.heap.size w w' := by
  have V := Lib.hid (fun W => validR_any n g W)
  have N := Lib.hid (fun W => nameR_any want W)
  unfold dialB at h
  cases hv : (nameF n && genI g) with
  | false =>
    rw [hv] at V
    clear h hv N
    go_enter Tryd.func24, Tryd.ntmps24
    go_wp2_with fail
    refine (V.out _).mono ?_
    rintro e w1 ⟨rfl, b1⟩
    have B1 := Lib.hid (((Below.refl w.heap.size w).alloc (Nat.le_refl _) _).trans (b1.mono (by simp)))
    clear b1
    go_wp2
    go_ret3
    exact ⟨rfl, B1.out⟩
  | true =>
    rw [hv] at V h
    cases hw : nameF want with
    | false =>
      rw [hw] at N
      clear h hv hw
      go_enter Tryd.func24, Tryd.ntmps24
      go_wp2_with fail
      refine (V.out _).mono ?_
      rintro e w1 ⟨rfl, b1⟩
      have B1 := Lib.hid (((Below.refl w.heap.size w).alloc (Nat.le_refl _) _).trans (b1.mono (by simp)))
      clear b1
      go_wp2_with fail
      refine (N.out _).mono ?_
      rintro e w2 ⟨rfl, rfl⟩
      go_wp2
      go_ret3
      exact ⟨rfl, B1.out⟩
    | true =>
      rw [hw] at N h
      simp only [Bool.true_and, Bool.not_eq_false'] at h
      unfold seqB at h
      clear hv hw
      go_enter Tryd.func24, Tryd.ntmps24
      go_wp2_with fail
      refine (V.out _).mono ?_
      rintro e w1 ⟨rfl, b1⟩
      have k0 : w1.cell? ⟨w.heap.size, 0, none⟩ = some (.string n) := cell_keep b1 (by simp)
      have B1 := Lib.hid (((Below.refl w.heap.size w).alloc (Nat.le_refl _) _).trans (b1.mono (by simp)))
      clear b1
      go_wp2_with fail
      refine (N.out _).mono ?_
      rintro e w2 ⟨rfl, rfl⟩
      go_wp2
      go_ret3
      exact ⟨rfl, B1.out⟩

/-- A side has been made, with a message. -/
def Made (T : TypeId) (s : Sd) (out : ByteArray) (w : World) (e : Ending) (w' : World) : Prop :=
  ∃ B, e = .returned (.tuple #[.pointer (some ⟨B, 0, none⟩), .string out, .int .i64 0]) ∧ w.heap.size ≤ B ∧ Blk w' B T (sdC s) ∧ Below w.heap.size w w'
theorem dialB_parts {n : ByteArray} {g : Int} {want : ByteArray} (h : dialB n g want = true) : (nameF n && genI g) = true ∧ nameF want = true ∧ (want.toList == n.toList) = false := by
  unfold dialB seqB at h
  simp only [Bool.and_eq_true, Bool.not_eq_true'] at h
  exact ⟨by rw [Bool.and_eq_true]; exact h.1.1, h.1.2, h.2⟩

set_option maxRecDepth 100000 in
set_option maxHeartbeats 1000000 in
theorem dial_yes (n : ByteArray) (g : Nat) (want cookie : ByteArray) (c : Nat) (h : dialB n g want = true) (w : World) :
    Calls Tryd.prog 12 #[.agg #[.string n, .int .i64 g], .string want, .string cookie, .int .u64 c] w (Made 46 (dialS ⟨n, g⟩ want cookie c) (helloF ⟨n, g⟩ want) w) := by
  obtain ⟨h1, h2, h3⟩ := dialB_parts h
  have V := Lib.hid (fun W => validV_any n g W)
  have N := Lib.hid (fun W => nameV_any want W)
  rw [h1] at V
  rw [h2] at N
  have hn := nameF_size n (by rw [Bool.and_eq_true] at h1; exact h1.1)
  have hw := nameF_size want h2
  have hg : g ≤ 2147483647 := by
    rw [Bool.and_eq_true] at h1
    obtain ⟨k, e, hk⟩ := genI_nat h1.2
    omega
  have C1 := Lib.hid (fun W => enc_any n g (by omega) hg W)
  have C2 := Lib.hid (fun W => word_any want (by omega) W)
  have e1 := encF_size ⟨n, g⟩
  have e2 := lenF_size want
  have HQ : Hid (helloF ⟨n, g⟩ want = ByteArray.mk #[1, 1] ++ encF ⟨n, g⟩ ++ lenF want) := Lib.hid rfl
  rw [HQ.out]
  obtain ⟨q1, hq1⟩ : ∃ q, q = encF ⟨n, g⟩ := ⟨_, rfl⟩
  obtain ⟨q2, hq2⟩ : ∃ q, q = lenF want := ⟨_, rfl⟩
  rw [← hq1] at e1 C1 ⊢
  rw [← hq2] at e2 C2 ⊢
  simp only at e1
  have z1 : q1.size ≤ 37 := by omega
  have z2 : q2.size ≤ 33 := by omega
  have s1 : ¬ 9223372036854775807 < 2 + q1.size := by omega
  have s2 : ¬ 9223372036854775807 < 2 + q1.size + q2.size := by omega
  clear hq1 hq2 HQ e1 e2 h h1 h2 hn hw hg z1 z2
  go_enter Tryd.func12, Tryd.ntmps12
  go_wp2_with fail
  refine (V.out _).mono ?_
  rintro e w1 ⟨rfl, b1⟩
  have k0 : w1.cell? ⟨w.heap.size, 0, none⟩ = some (.string n) := cell_keep b1 (by simp)
  have k1 : w1.cell? ⟨w.heap.size, 1, none⟩ = some (.int .i64 (g : Int)) := cell_keep b1 (by simp)
  have B1 := Lib.hid (((Below.refl w.heap.size w).alloc (Nat.le_refl _) _).trans (b1.mono (by simp)))
  clear b1
  go_wp2_with fail
  refine (N.out _).mono ?_
  rintro e w2 ⟨rfl, b2⟩
  have j0 := cell_keep b2 k0
  have j1 := cell_keep b2 k1
  have B2 := Lib.hid (B1.out.trans (b2.mono B1.out.size))
  have y0 := World.block_lt_of_cell? _ _ j0
  simp only at y0
  clear b2 k0 k1
  go_wp2_with fail
  refine (C1.out _).mono ?_
  rintro e w3 ⟨rfl, b3⟩
  have X3 : Hid (Blk w3 w2.heap.size 46 (sdC (dialS ⟨n, g⟩ want cookie c))) := Lib.hid ((World.alloc_heap_new w2 _) |> fun q => (b3.block w2.heap.size (by simp)).trans q)
  have B3 := Lib.hid ((B2.out.alloc B2.out.size _).trans (b3.mono (by have := B2.out.size; simp; omega)))
  clear b3
  go_wp2_with fail
  refine (C2.out _).mono ?_
  rintro e w4 ⟨rfl, b4⟩
  have X4 := Lib.hid (X3.out.below b4 X3.out.lt)
  have B4 := Lib.hid (B3.out.trans (b4.mono B3.out.size))
  clear b4
  go_wp2
  go_ret3
  exact ⟨w2.heap.size, rfl, B2.out.size, X4.out, B4.out⟩

/-- A listening side has been made. -/
def MadeL (T : TypeId) (s : Sd) (w : World) (e : Ending) (w' : World) : Prop :=
  ∃ B, e = .returned (.tuple #[.pointer (some ⟨B, 0, none⟩), .int .i64 0]) ∧ w.heap.size ≤ B ∧ Blk w' B T (sdC s) ∧ Below w.heap.size w w'
set_option maxRecDepth 100000 in
set_option maxHeartbeats 1000000 in
theorem listen_no (n : ByteArray) (g : Int) (cookie : ByteArray) (c : Nat) (h : (nameF n && genI g) = false) (w : World) :
    Calls Tryd.prog 13 #[.agg #[.string n, .int .i64 g], .string cookie, .int .u64 c] w fun e w' => e = .returned (.tuple #[.pointer none, .int .i64 2]) ∧ Below w.heap.size w w' := by
  have V := Lib.hid (fun W => validV_any n g W)
  rw [h] at V
  clear h
  go_enter Tryd.func13, Tryd.ntmps13
  go_wp2_with fail
  refine (V.out _).mono ?_
  rintro e w1 ⟨rfl, b1⟩
  have B1 := Lib.hid (((Below.refl w.heap.size w).alloc (Nat.le_refl _) _).trans (b1.mono (by simp)))
  clear b1
  go_wp2
  go_ret2
  exact ⟨rfl, B1.out⟩
set_option maxRecDepth 100000 in
set_option maxHeartbeats 1000000 in
theorem listen_yes (n : ByteArray) (g : Nat) (cookie : ByteArray) (c : Nat) (h : (nameF n && genI g) = true) (w : World) :
    Calls Tryd.prog 13 #[.agg #[.string n, .int .i64 g], .string cookie, .int .u64 c] w (MadeL 46 (listenS ⟨n, g⟩ cookie c) w) := by
  have V := Lib.hid (fun W => validV_any n g W)
  rw [h] at V
  clear h
  go_enter Tryd.func13, Tryd.ntmps13
  go_wp2_with fail
  refine (V.out _).mono ?_
  rintro e w1 ⟨rfl, b1⟩
  have k0 : w1.cell? ⟨w.heap.size, 0, none⟩ = some (.string n) := cell_keep b1 (by simp)
  have k1 : w1.cell? ⟨w.heap.size, 1, none⟩ = some (.int .i64 (g : Int)) := cell_keep b1 (by simp)
  have B1 := Lib.hid (((Below.refl w.heap.size w).alloc (Nat.le_refl _) _).trans (b1.mono (by simp)))
  clear b1
  go_wp2
  go_ret2
  exact ⟨w1.heap.size, rfl, B1.out.size, World.alloc_heap_new w1 _, B1.out.alloc B1.out.size _⟩
set_option maxRecDepth 100000 in
set_option maxHeartbeats 1000000 in
theorem rlisten_no (n : ByteArray) (g : Int) (cookie : ByteArray) (c : Nat) (h : (nameF n && genI g) = false) (w : World) :
    Calls Tryd.prog 25 #[.agg #[.string n, .int .i64 g], .string cookie, .int .u64 c] w fun e w' => e = .returned (.tuple #[.pointer none, .int .i64 2]) ∧ Below w.heap.size w w' := by
  have V := Lib.hid (fun W => validR_any n g W)
  rw [h] at V
  clear h
  go_enter Tryd.func25, Tryd.ntmps25
  go_wp2_with fail
  refine (V.out _).mono ?_
  rintro e w1 ⟨rfl, b1⟩
  have B1 := Lib.hid (((Below.refl w.heap.size w).alloc (Nat.le_refl _) _).trans (b1.mono (by simp)))
  clear b1
  go_wp2
  go_ret2
  exact ⟨rfl, B1.out⟩
set_option maxRecDepth 100000 in
set_option maxHeartbeats 1000000 in
theorem rlisten_yes (n : ByteArray) (g : Nat) (cookie : ByteArray) (c : Nat) (h : (nameF n && genI g) = true) (w : World) :
    Calls Tryd.prog 25 #[.agg #[.string n, .int .i64 g], .string cookie, .int .u64 c] w (MadeL 83 (listenS ⟨n, g⟩ cookie c) w) := by
  have V := Lib.hid (fun W => validR_any n g W)
  rw [h] at V
  clear h
  go_enter Tryd.func25, Tryd.ntmps25
  go_wp2_with fail
  refine (V.out _).mono ?_
  rintro e w1 ⟨rfl, b1⟩
  have k0 : w1.cell? ⟨w.heap.size, 0, none⟩ = some (.string n) := cell_keep b1 (by simp)
  have k1 : w1.cell? ⟨w.heap.size, 1, none⟩ = some (.int .i64 (g : Int)) := cell_keep b1 (by simp)
  have B1 := Lib.hid (((Below.refl w.heap.size w).alloc (Nat.le_refl _) _).trans (b1.mono (by simp)))
  clear b1
  go_wp2
  go_ret2
  exact ⟨w1.heap.size, rfl, B1.out.size, World.alloc_heap_new w1 _, B1.out.alloc B1.out.size _⟩
set_option maxRecDepth 100000 in
set_option maxHeartbeats 1000000 in
theorem rdial_yes (n : ByteArray) (g : Nat) (want cookie : ByteArray) (c : Nat) (h : dialB n g want = true) (w : World) :
    Calls Tryd.prog 24 #[.agg #[.string n, .int .i64 g], .string want, .string cookie, .int .u64 c] w (Made 83 (dialS ⟨n, g⟩ want cookie c) (helloF ⟨n, g⟩ want) w) := by
  obtain ⟨h1, h2, h3⟩ := dialB_parts h
  have V := Lib.hid (fun W => validR_any n g W)
  have N := Lib.hid (fun W => nameR_any want W)
  rw [h1] at V
  rw [h2] at N
  have hn := nameF_size n (by rw [Bool.and_eq_true] at h1; exact h1.1)
  have hw := nameF_size want h2
  have hg : g ≤ 2147483647 := by
    rw [Bool.and_eq_true] at h1
    obtain ⟨k, e, hk⟩ := genI_nat h1.2
    omega
  have C1 := Lib.hid (fun W => hello_any n g want (by omega) hg (by omega) W)
  obtain ⟨q, hq⟩ : ∃ q, q = helloF ⟨n, g⟩ want := ⟨_, rfl⟩
  rw [← hq] at C1 ⊢
  clear hq h h1 h2 hn hw hg
  go_enter Tryd.func24, Tryd.ntmps24
  go_wp2_with fail
  refine (V.out _).mono ?_
  rintro e w1 ⟨rfl, b1⟩
  have k0 : w1.cell? ⟨w.heap.size, 0, none⟩ = some (.string n) := cell_keep b1 (by simp)
  have k1 : w1.cell? ⟨w.heap.size, 1, none⟩ = some (.int .i64 (g : Int)) := cell_keep b1 (by simp)
  have B1 := Lib.hid (((Below.refl w.heap.size w).alloc (Nat.le_refl _) _).trans (b1.mono (by simp)))
  have y1 : w.heap.size < w1.heap.size := World.block_lt_of_cell? _ _ k0
  clear b1
  go_wp2_with fail
  refine (N.out _).mono ?_
  rintro e w2 ⟨rfl, rfl⟩
  go_wp2_with fail
  go_region_held3 (fun w' => w'.cell? ⟨w.heap.size, 0, none⟩ = some (.string n) ∧ w'.cell? ⟨w.heap.size, 1, none⟩ = some (.int .i64 (g : Int)) ∧ w1.heap.size ≤ w'.heap.size) (((try dsimp only); refine ⟨?_, ?_, ?_⟩ <;> first | (go_keep; done) | exact cell_keep (by assumption) (‹_ ∧ _ ∧ _›).1 | exact cell_keep (by assumption) (‹_ ∧ _ ∧ _›).2.1 | omega | (simp; done) | (simp; omega)))
    ((go_at_call 43; refine (C1.out _).mono ?_; rintro e w3 ⟨rfl, b3⟩; have z3 := b3.size))
  all_goals
    go_wp2
    go_ret3
  · exact ⟨w1.heap.size, rfl, B1.out.size, (b3.block w1.heap.size (by simp)).trans (World.alloc_heap_new w1 _), ((B1.out.alloc B1.out.size _).drew).trans (b3.mono (by have := B1.out.size; simp; omega))⟩
  · have B3 : Below w.heap.size w w3 := B1.out.drew.trans (b3.mono B1.out.size)
    exact ⟨w3.heap.size, rfl, B3.size, World.alloc_heap_new w3 _, B3.alloc B3.size _⟩
end Go.Proofs.YtnkkbkceapcahaaDoor
