/- The walk of BlobsOnce. -/
import Derived.Test.YtfgnagnnmibmaaaStart
namespace Go.Proofs.Ytfgnagnnmibmaaa
open Go.RowKit Go.Mp Go.Rw

theorem nodup_inj {A : Type} {l : List A} (hd : l.Nodup) (i j : Nat) (hi : i < l.length) (hj : j < l.length) (h : l[i] = l[j]) : i = j := by
  rcases Nat.lt_trichotomy i j with hlt | rfl | hlt
  · exact absurd h (List.pairwise_iff_getElem.1 hd i j hi hj hlt)
  · rfl
  · exact absurd h.symm (List.pairwise_iff_getElem.1 hd j i hj hi hlt)
theorem own_at {L : List Blob} {g : Int} {n : Nat} (h : Inv L g n) (k : Nat) (hk : k < L.length) : getF L L[k].1 = (L[k].2.1, true) ∧ cntF L L[k].1 = L[k].2.2 := by
  rcases find_cases L L[k].1 with ⟨_, _, _, hno⟩ | ⟨m, hm, _, hid, e1, e2⟩
  · exact absurd rfl (hno _ (List.getElem_mem hk))
  · obtain rfl : m = k := nodup_inj h.idsN m k (by simpa using hm) (by simpa using hk) (by simpa [fE] using hid)
    exact ⟨e1, e2⟩
theorem str_ne {L : List Blob} {g : Int} {n : Nat} (h : Inv L g n) (i j : Nat) (hi : i < L.length) (hj : j < L.length) (hij : j < i) : L[i].2.1 ≠ L[j].2.1 := by
  intro e
  have := nodup_inj h.strs i j (by simpa using hi) (by simpa using hj) (by simpa using e)
  omega
theorem id_lt {L : List Blob} {g : Int} {n : Nat} (h : Inv L g n) (i j : Nat) (hi : i < L.length) (hj : j < L.length) (hij : j < i) : L[j].1 < L[i].1 := by
  have := List.pairwise_iff_getElem.1 h.ids j i (by simpa using hj) (by simpa using hi) hij
  simpa using this
theorem idL_at (L : List Blob) (k : Nat) (hk : k < L.length) : (idL L)[k]'(by rw [idL_len]; exact hk) = L[k].1 := by simp [idL]

def RelO (w : World) (B m1 m2 base R : Nat) (L : List Blob) (g : Int) (s i : Value) (wr : World) : Prop :=
  ∃ k : Nat, k ≤ L.length ∧ i = .int .i64 k ∧ s = .int .i64 (totL (L.take k)) ∧ Two w.heap.size wr B m1 m2 base R L g L g ∧ Below w.heap.size w wr

set_option maxRecDepth 100000 in
set_option maxHeartbeats 1000000 in
theorem once_yes {v : Value} {ops : List OpD} (w : World) (h : OpsAt w v ops) (hfit : OpsFit ops) (hsm : smallB ops = true) :
    Calls Try.prog 5 #[v] w fun e w' => e = .returned (.bool true) ∧ Below w.heap.size w w' := by
  have hops : ops.length ≤ 400 := by simp [smallB] at hsm; exact hsm.1
  have H1 := Lib.hid h
  have H2 := Lib.hid hfit
  obtain ⟨sa, sn, sc, rfl⟩ : ∃ sa sn sc, v = .slice sa sn sc := by
    rcases h with ⟨_, sa, cap, rfl⟩ | ⟨b, o, cap, rfl, _⟩
    · exact ⟨_, _, _, rfl⟩
    · exact ⟨_, _, _, rfl⟩
  obtain rfl := h.len
  clear h hfit
  go_enter Try.func5, Try.ntmps5
  go_wp2_with (go_at_call 9; refine (large_any _ H1.out H2.out).mono ?_; rintro e w' ⟨rfl, rfl⟩)
  refine (new_any _).mono ?_
  rintro e w1 ⟨rfl, s1, b1⟩
  have z1 := b1.size
  have T1 : Hid (Two w.heap.size (w1.alloc (.cells #[.slice none 0 0, .int .i64 0] 32)) (w.heap.size + 2) w.heap.size (w.heap.size + 1) w.heap.size w1.heap.size [] 0 [] 0) := Lib.hid (two_start (Nat.le_refl _) s1 z1)
  have B1 : Hid (Below w.heap.size w (w1.alloc (.cells #[.slice none 0 0, .int .i64 0] 32))) := Lib.hid (b1.alloc z1 _)
  clear s1 b1
  go_wp2_with fail
  go_loopw [5] (fun i wr => RelP w (w.heap.size + 2) w.heap.size (w.heap.size + 1) w.heap.size w1.heap.size ops.length i wr) (fun i _ => ops.length - (intOf i).toNat)
  case atStart => exact ⟨0, [], 0, Nat.zero_le _, rfl, T1.out, inv_nil, B1.out⟩
  case round =>
    obtain ⟨k, L, g, hk, rfl, T, I, B⟩ := hrel
    have BB := Lib.hid B
    by_cases hlt : k < ops.length
    · obtain ⟨b, o, rfl, hlen, q0, q1, q2⟩ := H1.out.get k hlt
      have p0 := cell_keep q0 B
      have p1 := cell_keep q1 B
      have p2 := cell_keep q2 B
      clear B q0 q1 q2
      have hf := H2.out _ (List.getElem_mem hlt)
      go_wp2_with fail
      refine (done_any _ T I (by omega) _ _ _ hf.1 hf.2.1 hf.2.2).mono ?_
      rintro e w3 ⟨rfl, ⟨L', g', T3, I'⟩, F⟩
      have B3 := Lib.hid (BB.out.trans F.bel)
      clear F T I
      go_wp2
      go_roundw
      case rel => exact ⟨k + 1, L', g', by omega, by go_num, T3, I', B3.out⟩
      case measure => simp [intOf]; omega
    · obtain rfl : k = ops.length := by omega
      have IN : Hid (Inv L g 400) := Lib.hid (I.mono hops)
      have hLl : L.length ≤ 400 := IN.out.len
      clear I B hk hlt
      go_wp2_with fail
      refine (real_ids _ T.real IN.out (by omega)).mono ?_
      rintro e w4 ⟨v4, rfl, s4, b4⟩
      have T4 := T.below b4
      have B4 := Lib.hid (BB.out.trans (b4.mono T.z0))
      obtain ⟨hidl, sv, scap, rfl⟩ := (s4.at iv_len).len
      have S4 := Lib.hid (s4.at iv_len)
      rw [idL_len] at S4 ⊢
      clear s4 b4 T hidl
      have z4 := T4.z0
      go_wp2_with fail
      go_loopw [7, 8] (fun s i wr => RelO w (w.heap.size + 2) w.heap.size (w.heap.size + 1) w.heap.size w1.heap.size L g s i wr ∧ SlAt wr 1 iv (.slice sv L.length scap) (idL L)) (fun _ i _ => L.length - (intOf i).toNat)
      case atStart => exact ⟨⟨0, Nat.zero_le _, rfl, rfl, T4, B4.out⟩, S4.out⟩
      case round =>
        obtain ⟨⟨k, hk, rfl, rfl, T, B⟩, S⟩ := hrel
        have BB := Lib.hid B
        have SS := Lib.hid S
        clear B S
        by_cases hlt : k < L.length
        · obtain ⟨b, o, rfl, _, q⟩ := SS.out.get (by rw [idL_len]; omega)
          have p0 := q k 0 (by rw [idL_len]; exact hlt) (by omega)
          simp only [iv, List.getElem?_cons_zero, Nat.add_zero, Nat.mul_one] at p0
          rw [idL_at L k hlt] at p0
          have P0 := Lib.hid p0
          obtain ⟨ga, gc⟩ := own_at IN.out k hlt
          have hc1 := (IN.out.each _ (List.getElem_mem hlt)).2.2.2.1
          have hz1 := (IN.out.each _ (List.getElem_mem hlt)).2.2.1
          have HS := Lib.hid (totL_succ L k hlt)
          have hb := totL_take IN.out k
          have HN := Lib.hid (fun j hj hjk => str_ne IN.out k j hlt hj hjk)
          have HM := Lib.hid (fun j hj hjk => id_lt IN.out k j hlt hj hjk)
          have G1 := real_get _ T.real IN.out L[k].1
          obtain ⟨x, hx⟩ : ∃ x, x = L[k].1 := ⟨_, rfl⟩
          obtain ⟨s0, hs0⟩ : ∃ s0, s0 = L[k].2.1 := ⟨_, rfl⟩
          obtain ⟨c, hc⟩ : ∃ c, c = L[k].2.2 := ⟨_, rfl⟩
          obtain ⟨t0, ht0⟩ : ∃ t0, t0 = totL (L.take k) := ⟨_, rfl⟩
          have hb2 : t0 ≤ 819200 := by rw [ht0]; have := hb.2; omega
          have hb0 : 0 ≤ t0 := by rw [ht0]; exact hb.1
          have hcell : ∀ W, SlAt W 1 iv (.slice (some ⟨b, o, none⟩) L.length scap) (idL L) → ∀ j (hj : j < L.length), W.cell? ⟨b, o + j, none⟩ = some (.int .i64 L[j].1) := by
            intro W hW j hj
            obtain ⟨b', o', e, _, q'⟩ := hW.get (by rw [idL_len]; omega)
            simp only [Option.some.injEq, Addr.mk.injEq, and_true] at e
            obtain ⟨rfl, rfl⟩ := e
            have p := q' j 0 (by rw [idL_len]; exact hj) (by omega)
            simp only [iv, List.getElem?_cons_zero, Nat.add_zero, Nat.mul_one] at p
            rw [idL_at L j hj] at p
            exact p
          rw [ga] at G1
          rw [← hx] at p0 G1
          rw [← hs0] at G1 HS HN hz1
          rw [← hc] at hc1
          rw [← hx] at HM
          rw [← ht0] at HS ⊢
          have HG1 := Lib.hid G1
          have HX := Lib.hid hx
          have HC := Lib.hid hc
          have HGC := Lib.hid gc
          have hd1 : decide (c < 1) = false := by simp; omega
          clear G1 ga gc hx hs0 hc ht0 hb q P0
          go_wp2_with fail
          refine HG1.out.mono ?_
          rintro e w6 ⟨rfl, b6⟩
          have T6 := T.below b6
          have B6 := Lib.hid (BB.out.trans (b6.mono T.z0))
          have S6 := Lib.hid (SlAt.below SS.out b6)
          have p6 := hcell _ S6.out k hlt
          have C1 := two_count1 T6 IN.out L[k].1
          rw [HGC.out, ← HC.out, ← HX.out] at C1
          rw [← HX.out] at p6
          have RC := Lib.hid C1
          clear C1 b6 T p0
          by_cases hk0 : 0 < k
          · have hk1 : (0 : Int) < k := by omega
            have hkl : k - 1 < L.length := by omega
            have py := hcell _ S6.out (k - 1) hkl
            have hyx := HM.out (k - 1) hkl (by omega)
            obtain ⟨y, hy⟩ : ∃ y, y = L[k - 1].1 := ⟨_, rfl⟩
            rw [← hy] at py hyx
            have hdd : decide (x ≤ y) = false := by simp; omega
            have hwr : IntKind.i64.wrap ((k : Int) - 1) = ((k - 1 : Nat) : Int) := by rw [IntKind.wrap_i64] <;> omega
            clear hy
            go_wp2_with fail
            go_quiet ((go_at_call 15; exact Calls.quiet_of_same (RC.out _)))
            have TQ := Lib.hid (T6.drewN nq)
            have BQ := Lib.hid (below_drewN B6.out nq)
            have SQ := Lib.hid (SlAt.below S6.out (below_drewN (Below.refl _ _) nq))
            clear T6
            go_wp2_with fail
            go_loopw [11] (fun i wr => ∃ j : Nat, j ≤ k ∧ i = .int .i64 j ∧ Two w.heap.size wr (w.heap.size + 2) w.heap.size (w.heap.size + 1) w.heap.size w1.heap.size L g L g ∧ Below w.heap.size w wr ∧ SlAt wr 1 iv (.slice (some ⟨b, o, none⟩) L.length scap) (idL L)) (fun i _ => k - (intOf i).toNat)
            case atStart => exact ⟨0, Nat.zero_le _, rfl, TQ.out, BQ.out, SQ.out⟩
            case round =>
              obtain ⟨j, hj, rfl, T, B, S⟩ := hrel
              have BB := Lib.hid B
              have SS := Lib.hid S
              clear B S
              by_cases hjk : j < k
              · have hjL : j < L.length := by omega
                have q := hcell wr SS.out j hjL
                obtain ⟨gj, -⟩ := own_at IN.out j hjL
                have G2 := real_get _ T.real IN.out L[j].1
                rw [gj] at G2
                have hsn := seq_no (HN.out j hjL hjk)
                obtain ⟨y, hy⟩ : ∃ y, y = L[j].1 := ⟨_, rfl⟩
                obtain ⟨t, ht⟩ : ∃ t, t = L[j].2.1 := ⟨_, rfl⟩
                rw [← hy] at q G2
                rw [← ht] at G2 hsn
                have HG2 := Lib.hid G2
                clear G2 gj hy ht
                go_wp2_with fail
                refine HG2.out.mono ?_
                rintro e w7 ⟨rfl, b7⟩
                have T7 := T.below b7
                have B7 := Lib.hid (BB.out.trans (b7.mono T.z0))
                have S7 := Lib.hid (SlAt.below SS.out b7)
                clear b7 T
                go_wp2
                go_roundw
                case rel => exact ⟨j + 1, by omega, by go_num, T7, B7.out, S7.out⟩
                case measure => simp [intOf]; omega
              · have HEND := Lib.hid (And.intro T (And.intro BB.out SS.out))
                go_wp2
                go_roundw
                case rel => exact ⟨⟨k + 1, by omega, by go_num, by rw [HS.out], HEND.out.1, HEND.out.2.1⟩, HEND.out.2.2⟩
                case measure => simp [intOf]; omega
          · have hk2 : decide ((0 : Int) < k) = false := by simp; omega
            have hk3 : decide (0 < k) = false := by simp; omega
            go_wp2_with fail
            go_quiet ((go_at_call 15; exact Calls.quiet_of_same (RC.out _)))
            have TQ := Lib.hid (T6.drewN nq)
            have BQ := Lib.hid (below_drewN B6.out nq)
            have SQ := Lib.hid (SlAt.below S6.out (below_drewN (Below.refl _ _) nq))
            clear T6
            go_wp2_with fail
            go_loopw [11] (fun i wr => ∃ j : Nat, j ≤ k ∧ i = .int .i64 j ∧ Two w.heap.size wr (w.heap.size + 2) w.heap.size (w.heap.size + 1) w.heap.size w1.heap.size L g L g ∧ Below w.heap.size w wr ∧ SlAt wr 1 iv (.slice (some ⟨b, o, none⟩) L.length scap) (idL L)) (fun i _ => k - (intOf i).toNat)
            case atStart => exact ⟨0, Nat.zero_le _, rfl, TQ.out, BQ.out, SQ.out⟩
            case round =>
              obtain ⟨j, hj, rfl, T, B, S⟩ := hrel
              have BB := Lib.hid B
              have SS := Lib.hid S
              clear B S
              by_cases hjk : j < k
              · have hjL : j < L.length := by omega
                have q := hcell wr SS.out j hjL
                obtain ⟨gj, -⟩ := own_at IN.out j hjL
                have G2 := real_get _ T.real IN.out L[j].1
                rw [gj] at G2
                have hsn := seq_no (HN.out j hjL hjk)
                obtain ⟨y, hy⟩ : ∃ y, y = L[j].1 := ⟨_, rfl⟩
                obtain ⟨t, ht⟩ : ∃ t, t = L[j].2.1 := ⟨_, rfl⟩
                rw [← hy] at q G2
                rw [← ht] at G2 hsn
                have HG2 := Lib.hid G2
                clear G2 gj hy ht
                go_wp2_with fail
                refine HG2.out.mono ?_
                rintro e w7 ⟨rfl, b7⟩
                have T7 := T.below b7
                have B7 := Lib.hid (BB.out.trans (b7.mono T.z0))
                have S7 := Lib.hid (SlAt.below SS.out b7)
                clear b7 T
                go_wp2
                go_roundw
                case rel => exact ⟨j + 1, by omega, by go_num, T7, B7.out, S7.out⟩
                case measure => simp [intOf]; omega
              · have HEND := Lib.hid (And.intro T (And.intro BB.out SS.out))
                go_wp2
                go_roundw
                case rel => exact ⟨⟨k + 1, by omega, by go_num, by rw [HS.out], HEND.out.1, HEND.out.2.1⟩, HEND.out.2.2⟩
                case measure => simp [intOf]; omega
        · obtain rfl : k = L.length := by omega
          rw [List.take_length]
          obtain ⟨t, ht⟩ : ∃ t, t = totL L := ⟨_, rfl⟩
          have rb := real_bytes _ T.real
          rw [← ht] at rb ⊢
          have RB := Lib.hid rb
          have htt : (t == t) = true := by simp
          clear rb ht
          go_wp2_with fail
          refine RB.out.mono ?_
          rintro e w' ⟨rfl, rfl⟩
          go_wp2_with fail
          refine (awake_any _).mono ?_
          rintro e w9 ⟨rfl, b9⟩
          have B9 := Lib.hid (BB.out.trans (b9.mono T.z0))
          clear b9
          go_wp2
          go_ret
          exact ⟨rfl, B9.out⟩

set_option maxRecDepth 100000 in
set_option maxHeartbeats 400000 in
theorem once_no {v : Value} {ops : List OpD} (w : World) (h : OpsAt w v ops) (hfit : OpsFit ops) (hsm : smallB ops = false) :
    Calls Try.prog 5 #[v] w fun e w' => e = .returned (.bool true) ∧ Below w.heap.size w w' := by
  have H1 := Lib.hid h
  have H2 := Lib.hid hfit
  clear h hfit
  go_enter Try.func5, Try.ntmps5
  go_wp2_with (first
    | (go_at_call 9; refine (large_any _ H1.out H2.out).mono ?_; rintro e w' ⟨rfl, rfl⟩)
    | (go_at_call 10; refine (awake_any _).mono ?_; rintro e w1 ⟨rfl, b1⟩; have B1 := Lib.hid b1; clear b1))
  go_ret
  exact ⟨rfl, B1.out⟩

theorem once_walk {v : Value} {ops : List OpD} (w : World) (h : OpsAt w v ops) (hfit : OpsFit ops) :
    Calls Try.prog 5 #[v] w fun e w' => e = .returned (.bool true) ∧ Below w.heap.size w w' := by
  cases hs : smallB ops
  · exact once_no w h hfit hs
  · exact once_yes w h hfit hs
end Go.Proofs.Ytfgnagnnmibmaaa
