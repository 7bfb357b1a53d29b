/- The reference's insert. -/
import Derived.Test.YtekfnonjhcfdmaaDoorHas
import Derived.Test.YtekfnonjhcfdmaaDoorIns
import Derived.Test.YtekfnonjhcfdmaaDoorApps
import Derived.Test.YtekfnonjhcfdmaaDoorNext
namespace Go.Proofs.YtekfnonjhcfdmaaDoor
open Go.RowKit Go.Rt Go.Rw

/-- A list to be read and sliced. -/
def SlC (W : World) (v : Value) (L : List Int) : Prop := SlAt W 1 inC v L ∧ ∃ sa cap, v = .slice sa L.length cap ∧ L.length ≤ cap ∧ cap ≤ maxLen ∧ (sa = none → cap = 0) ∧ (sa = none ∨ 0 < L.length)
theorem SlC.keep {w w' : World} {v : Value} {L : List Int} (h : SlC w v L) (b : Below w.heap.size w w') : SlC w' v L := ⟨h.1.keep b, h.2⟩
theorem sl_slc {W : World} {B : Nat} {v : Value} {L : List Int} (h : Sl W B 3 1 inC v L) (hne : 0 < L.length) : SlC W v L := by
  refine ⟨h.at in_len, ?_⟩
  rcases h.form with ⟨rfl, rfl⟩ | ⟨g, cap, rfl, _, _, hc, hm, _⟩
  · simp at hne
  · exact ⟨_, cap, rfl, hc, hm, fun h => (by cases h), .inr hne⟩
theorem nil_slc (W : World) : SlC W (.slice none 0 0) [] := ⟨.inl ⟨rfl, none, 0, rfl⟩, none, 0, rfl, Nat.le_refl _, Nat.zero_le _, fun _ => rfl, .inl rfl⟩
theorem insF_pos (L : List Int) (n : Int) : 0 < (insF L n).length := by
  have : n ∈ insF L n := (mem_insF L n n).2 (.inl rfl)
  exact List.length_pos_of_mem this
/-- A list that is returned, to be read. -/
def RdR (L : List Int) (w : World) (e : Ending) (w' : World) : Prop := Below w.heap.size w w' ∧ ∃ u, e = .returned u ∧ SlC w' u L
theorem slat_take {W : World} {s : Option Addr} {n c k : Nat} {L : List Int} (h : SlAt W 1 inC (.slice s n c) L) (hk : k ≤ L.length) (c2 : Nat) : SlAt W 1 inC (.slice s k c2) (L.take k) := by
  by_cases h0 : k = 0
  · subst h0
    exact .inl ⟨by simp, s, c2, rfl⟩
  · obtain ⟨b, o, rfl, hb, hc⟩ := h.get (by omega)
    have hl : (L.take k).length = k := by rw [List.length_take]; omega
    refine .inr ⟨b, o, c2, by rw [hl], by have := h.len.1; omega, hb, fun i j hi hj => ?_⟩
    rw [hc i j (by omega) hj, List.getElem_take]
theorem slat_drop {W : World} {b o n c k : Nat} {L : List Int} (h : SlAt W 1 inC (.slice (some ⟨b, o, none⟩) n c) L) (hn : n = L.length) (hk : k ≤ L.length) (c2 : Nat) : SlAt W 1 inC (.slice (some ⟨b, o + k, none⟩) (n - k) c2) (L.drop k) := by
  by_cases h0 : L.length = k
  · exact .inl ⟨List.drop_eq_nil_of_le (by omega), _, c2, by rw [hn, h0, Nat.sub_self]⟩
  · obtain ⟨b', o', e, hb, hc⟩ := h.get (by omega)
    simp only [Option.some.injEq, Addr.mk.injEq, and_true] at e
    obtain ⟨rfl, rfl⟩ := e
    have hl : (L.drop k).length = n - k := by rw [List.length_drop, hn]
    refine .inr ⟨b, o + k, c2, by rw [hl], by have := h.len.1; omega, hb, fun i j hi hj => ?_⟩
    rw [List.getElem_drop, ← hc (k + i) j (by omega) hj]
    congr 2
    omega
set_option maxRecDepth 100000 in
set_option maxHeartbeats 4000000 in
theorem insert40 (L : List Int) (n : Int) (v : Value) (w : World) (h : SlC w v L) (hu : Up L) (hl : L.length ≤ 1000000000000) : Calls Tryd.prog 40 #[v, .int .i64 n] w (RdR (insF L n) w) := by
  obtain ⟨sa, cap, rfl, hcap, hcm, hsn, hsp⟩ := h.2
  have HSN := Lib.hid hsn
  have HSP := Lib.hid hsp
  have HC := Lib.hid h
  have H := Lib.hid h.1
  have HU := Lib.hid hu
  have C61 := Lib.hid (in_any L n _ w h.1)
  have hcm2 : cap ≤ 9223372036854775807 := by unfold maxLen at hcm; omega
  obtain ⟨m, hm⟩ : ∃ q, q = L.length := ⟨_, rfl⟩
  rw [← hm] at H HC C61 hl hcap ⊢
  have HM := Lib.hid hm
  clear h hu hm hsn hsp hcm
  go_enter Tryd.func40, Tryd.ntmps40
  go_wp2_with fail
  refine C61.out.mono ?_
  rintro e w1 ⟨rfl, b1⟩
  have B1 := Lib.hid b1
  have H1 := Lib.hid (H.out.keep b1)
  clear b1 C61
  by_cases hin : n ∈ L
  · have HR : Hid (insF L n = L) := Lib.hid (insF_in L n HU.out hin)
    rw [decide_eq_true hin]
    clear hin
    go_wp2_with fail
    go_ret
    exact ⟨B1.out, _, rfl, by rw [HR.out]; exact HC.out.keep B1.out⟩
  · have HNI := Lib.hid hin
    rw [decide_eq_false hin]
    clear hin HC
    go_wp2_with fail
    go_loopw [5] (fun z wr => ∃ (k : Nat), k ≤ m ∧ z = .int .i64 (k : Int) ∧ Hid (∀ j (h : j < L.length), j < k → L[j] < n) ∧ w1 = wr) (fun z _ => m - (intOf z).toNat)
    case atStart => exact ⟨0, Nat.zero_le _, rfl, Lib.hid (fun _ _ h => by omega), rfl⟩
    case round =>
      obtain ⟨k, hk, rfl, HK, rfl⟩ := hrel
      by_cases hkm : k < m
      · have hkmi : (k : Int) < (m : Int) := by omega
        obtain ⟨b, o, rfl, hb, hc⟩ := H1.out.get (by rw [← HM.out]; omega)
        have hkl : k < L.length := by rw [← HM.out]; exact hkm
        have ck := hc k 0 hkl (by omega)
        obtain ⟨x, hx⟩ : ∃ x, x = L[k] := ⟨_, rfl⟩
        rw [← hx] at ck
        simp only [inC, List.getElem?_cons_zero, Nat.add_zero, Nat.mul_one] at ck
        have HX := Lib.hid hx
        clear hc hb hx
        by_cases hxn : x < n
        · have HK2 : Hid (∀ j (h : j < L.length), j < k + 1 → L[j] < n) := Lib.hid (fun j hj hjk => by
            rcases Nat.lt_succ_iff_lt_or_eq.1 hjk with q | q
            · exact HK.out j hj q
            · subst q
              rw [← HX.out]
              exact hxn)
          clear HK
          go_wp2_with fail
          go_roundw
          case rel => exact ⟨k + 1, by omega, by go_num, HK2, trivial⟩
          case measure => simp [intOf]; omega
        · have HIF : Hid (insF L n = L.take k ++ n :: L.drop k) := Lib.hid (insF_at L n k HK.out (fun h => by rw [← HX.out]; exact hxn) (by omega) HNI.out)
          have hwz := B1.out.size
          obtain ⟨sx, cx, w3, hr1, s3, g3⟩ := apps23 (Sl.nil w1 w.heap.size 3 1 inC) (slat_take H1.out (k := k) (by rw [← HM.out]; omega) cap) (by rw [List.length_take, List.length_nil]; omega) hwz
          rw [List.nil_append] at hr1 s3
          have hlk : (L.take k).length = k := by rw [List.length_take, ← HM.out]; omega
          rw [hlk] at hr1 s3
          have b3 : Below w.heap.size w1 w3 := (grown_only g3).below (fun r hr => by simp [Value.ownBlock] at hr) hwz
          obtain ⟨w4, hw4⟩ : ∃ W, w3.alloc (.cells #[.int .i64 n] 3) = W := ⟨_, rfl⟩
          obtain ⟨a4, ha4⟩ : ∃ q, q = w3.heap.size := ⟨_, rfl⟩
          have b4 : Below w3.heap.size w3 w4 := by rw [← hw4]; exact (Below.refl _ _).alloc (Nat.le_refl _) _
          have x4 : Blk w4 a4 3 #[.int .i64 n] := by rw [← hw4, ha4]; exact Blk.new w3 3 _
          have s4 := s3.below b4 (fun g hg => (s3.lt g hg).2)
          have hz4 : w.heap.size ≤ w4.heap.size := by have := b3.size; have := b4.size; omega
          obtain ⟨g5, c5, w5, hr2, s5, gr5, _⟩ := sl_push_in s4 n a4 x4 (by rw [hlk]; omega) hz4
          have b5 : Below w.heap.size w4 w5 := (grown_only gr5).below (fun r hr => by rw [Option.mem_toList] at hr; exact (s4.lt r hr).1) hz4
          have hz5 : w.heap.size ≤ w5.heap.size := by have := b5.size; omega
          have bz : Below w.heap.size w w5 := B1.out.trans (b3.trans ((b4.mono (by have := b3.size; omega)).trans b5))
          rw [hlk] at hr2 s5
          have H5 := H.out.keep bz
          obtain ⟨sy, cy, w6, hr3, s6, g6⟩ := apps23 s5 (slat_drop H5 HM.out (k := k) (by rw [← HM.out]; omega) (cap - k)) (by rw [List.length_append, hlk, List.length_drop, ← HM.out, List.length_singleton]; omega) hz5
          rw [show (L.take k ++ [n]) ++ L.drop k = insF L n from by rw [HIF.out]; simp] at hr3 s6
          obtain ⟨nr, hnr⟩ : ∃ q, q = (insF L n).length := ⟨_, rfl⟩
          have R6 := Lib.hid (sl_slc s6 (insF_pos _ _))
          rw [← hnr] at hr3 R6
          have B6 : Hid (Below w.heap.size w w6) := Lib.hid (bz.trans ((grown_only g6).below (fun r hr => by rw [Option.mem_toList] at hr; exact (s5.lt r hr).1) hz5))
          have HR1 := Lib.hid hr1
          have HR2 := Lib.hid hr2
          have HR3 := Lib.hid hr3
          have HA4 := Lib.hid ha4
          clear hwz hr1 s3 g3 hlk b3 ha4 b4 x4 s4 hz4 hr2 s5 gr5 b5 hz5 bz H5 hr3 s6 g6 hnr H1 H
          go_upto_region 8 with (at_builtin; refine wpList_append_run rfl _ _ 23 23 rfl rfl rfl HR1.out ?_)
          go_upto_region 9 with (at_builtin; rw [← HA4.out]; refine wpList_append_run rfl _ _ 23 23 rfl rfl rfl HR2.out ?_)
          go_wp2_with (at_builtin; refine wpList_append_run rfl _ _ 23 23 rfl rfl rfl HR3.out ?_)
          go_ret
          exact ⟨B6.out, _, rfl, R6.out⟩
      · have hkmi : ¬ (k : Int) < (m : Int) := by omega
        obtain rfl : m = k := by omega
        have HIF : Hid (insF L n = L.take m ++ n :: L.drop m) := Lib.hid (insF_at L n m HK.out (fun h => by have := HM.out; omega) (by rw [← HM.out]; exact Nat.le_refl _) HNI.out)
        cases sa with
        | none =>
          obtain rfl : cap = 0 := HSN.out rfl
          obtain rfl : m = 0 := by omega
          have hwz := B1.out.size
          have s3 : Sl w1 w.heap.size 3 1 inC (.slice none 0 0) (L.take 0) := by rw [List.take_zero]; exact Sl.nil _ _ _ _ _
          have hlk : (L.take 0).length = 0 := by rw [List.length_take, ← HM.out]; omega
          have b3 : Below w.heap.size w1 w1 := Below.refl _ _
          obtain ⟨w4, hw4⟩ : ∃ W, w1.alloc (.cells #[.int .i64 n] 3) = W := ⟨_, rfl⟩
          obtain ⟨a4, ha4⟩ : ∃ q, q = w1.heap.size := ⟨_, rfl⟩
          have b4 : Below w1.heap.size w1 w4 := by rw [← hw4]; exact (Below.refl _ _).alloc (Nat.le_refl _) _
          have x4 : Blk w4 a4 3 #[.int .i64 n] := by rw [← hw4, ha4]; exact Blk.new w1 3 _
          have s4 := s3.below b4 (fun g hg => (s3.lt g hg).2)
          have hz4 : w.heap.size ≤ w4.heap.size := by have := b3.size; have := b4.size; omega
          obtain ⟨g5, c5, w5, hr2, s5, gr5, _⟩ := sl_push_in s4 n a4 x4 (by rw [hlk]; omega) hz4
          have b5 : Below w.heap.size w4 w5 := (grown_only gr5).below (fun r hr => by rw [Option.mem_toList] at hr; exact (s4.lt r hr).1) hz4
          have hz5 : w.heap.size ≤ w5.heap.size := by have := b5.size; omega
          have bz : Below w.heap.size w w5 := B1.out.trans (b3.trans ((b4.mono (by have := b3.size; omega)).trans b5))
          rw [hlk, Nat.zero_add] at hr2 s5
          have H5 := H.out.keep bz
          obtain ⟨sy, cy, w6, hr3, s6, g6⟩ := apps23 s5 (show SlAt w5 1 inC (.slice none 0 0) (L.drop 0) from .inl ⟨List.drop_eq_nil_of_le (by rw [← HM.out]; exact Nat.le_refl _), _, _, rfl⟩) (by rw [List.length_append, hlk, List.length_drop, ← HM.out, List.length_singleton]; omega) hz5
          rw [show (L.take 0 ++ [n]) ++ L.drop 0 = insF L n from by rw [HIF.out]; simp] at hr3 s6
          obtain ⟨nr, hnr⟩ : ∃ q, q = (insF L n).length := ⟨_, rfl⟩
          have R6 := Lib.hid (sl_slc s6 (insF_pos _ _))
          rw [← hnr] at hr3 R6
          have B6 : Hid (Below w.heap.size w w6) := Lib.hid (bz.trans ((grown_only g6).below (fun r hr => by rw [Option.mem_toList] at hr; exact (s5.lt r hr).1) hz5))
          have HR2 := Lib.hid hr2
          have HR3 := Lib.hid hr3
          have HA4 := Lib.hid ha4
          clear hwz s3 hlk b3 ha4 b4 x4 s4 hz4 hr2 s5 gr5 b5 hz5 bz H5 hr3 s6 g6 hnr H1 H
          go_upto_region 8 with fail
          go_upto_region 9 with (at_builtin; rw [← HA4.out]; refine wpList_append_run rfl _ _ 23 23 rfl rfl rfl HR2.out ?_)
          go_wp2_with (at_builtin; refine wpList_append_run rfl _ _ 23 23 rfl rfl rfl HR3.out ?_)
          go_ret
          exact ⟨B6.out, _, rfl, R6.out⟩
        | some a =>
          have hm0 : 0 < m := by
            rcases HSP.out with h | h
            · cases h
            · rw [HM.out]; exact h
          obtain ⟨b, o, e, hb, hc⟩ := H1.out.get (by rw [← HM.out]; exact hm0)
          simp only [Option.some.injEq] at e
          subst e
          clear hb hc
          by_cases hcq : cap = m
          · subst hcq
            have hwz := B1.out.size
            obtain ⟨sx, cx, w3, hr1, s3, g3⟩ := apps23 (Sl.nil w1 w.heap.size 3 1 inC) (slat_take H1.out (k := cap) (by rw [← HM.out]; omega) cap) (by rw [List.length_take, List.length_nil]; omega) hwz
            rw [List.nil_append] at hr1 s3
            have hlk : (L.take cap).length = cap := by rw [List.length_take, ← HM.out]; omega
            rw [hlk] at hr1 s3
            have b3 : Below w.heap.size w1 w3 := (grown_only g3).below (fun r hr => by simp [Value.ownBlock] at hr) hwz
            obtain ⟨w4, hw4⟩ : ∃ W, w3.alloc (.cells #[.int .i64 n] 3) = W := ⟨_, rfl⟩
            obtain ⟨a4, ha4⟩ : ∃ q, q = w3.heap.size := ⟨_, rfl⟩
            have b4 : Below w3.heap.size w3 w4 := by rw [← hw4]; exact (Below.refl _ _).alloc (Nat.le_refl _) _
            have x4 : Blk w4 a4 3 #[.int .i64 n] := by rw [← hw4, ha4]; exact Blk.new w3 3 _
            have s4 := s3.below b4 (fun g hg => (s3.lt g hg).2)
            have hz4 : w.heap.size ≤ w4.heap.size := by have := b3.size; have := b4.size; omega
            obtain ⟨g5, c5, w5, hr2, s5, gr5, _⟩ := sl_push_in s4 n a4 x4 (by rw [hlk]; omega) hz4
            have b5 : Below w.heap.size w4 w5 := (grown_only gr5).below (fun r hr => by rw [Option.mem_toList] at hr; exact (s4.lt r hr).1) hz4
            have hz5 : w.heap.size ≤ w5.heap.size := by have := b5.size; omega
            have bz : Below w.heap.size w w5 := B1.out.trans (b3.trans ((b4.mono (by have := b3.size; omega)).trans b5))
            rw [hlk] at hr2 s5
            have H5 := H.out.keep bz
            obtain ⟨sy, cy, w6, hr3, s6, g6⟩ := apps23 s5 (show SlAt w5 1 inC (.slice (some ⟨b, o, none⟩) 0 0) (L.drop cap) from .inl ⟨List.drop_eq_nil_of_le (by rw [← HM.out]; exact Nat.le_refl _), _, _, rfl⟩) (by rw [List.length_append, hlk, List.length_drop, ← HM.out, List.length_singleton]; omega) hz5
            rw [show (L.take cap ++ [n]) ++ L.drop cap = insF L n from by rw [HIF.out]; simp] at hr3 s6
            obtain ⟨nr, hnr⟩ : ∃ q, q = (insF L n).length := ⟨_, rfl⟩
            have R6 := Lib.hid (sl_slc s6 (insF_pos _ _))
            rw [← hnr] at hr3 R6
            have B6 : Hid (Below w.heap.size w w6) := Lib.hid (bz.trans ((grown_only g6).below (fun r hr => by rw [Option.mem_toList] at hr; exact (s5.lt r hr).1) hz5))
            have HR1 := Lib.hid hr1
            have HR2 := Lib.hid hr2
            have HR3 := Lib.hid hr3
            have HA4 := Lib.hid ha4
            clear hwz hr1 s3 g3 hlk b3 ha4 b4 x4 s4 hz4 hr2 s5 gr5 b5 hz5 bz H5 hr3 s6 g6 hnr H1 H
            go_upto_region 8 with (at_builtin; refine wpList_append_run rfl _ _ 23 23 rfl rfl rfl HR1.out ?_)
            go_upto_region 9 with (at_builtin; rw [← HA4.out]; refine wpList_append_run rfl _ _ 23 23 rfl rfl rfl HR2.out ?_)
            go_wp2_with (at_builtin; refine wpList_append_run rfl _ _ 23 23 rfl rfl rfl HR3.out ?_)
            go_ret
            exact ⟨B6.out, _, rfl, R6.out⟩
          · have hwz := B1.out.size
            obtain ⟨sx, cx, w3, hr1, s3, g3⟩ := apps23 (Sl.nil w1 w.heap.size 3 1 inC) (slat_take H1.out (k := m) (by rw [← HM.out]; omega) cap) (by rw [List.length_take, List.length_nil]; omega) hwz
            rw [List.nil_append] at hr1 s3
            have hlk : (L.take m).length = m := by rw [List.length_take, ← HM.out]; omega
            rw [hlk] at hr1 s3
            have b3 : Below w.heap.size w1 w3 := (grown_only g3).below (fun r hr => by simp [Value.ownBlock] at hr) hwz
            obtain ⟨w4, hw4⟩ : ∃ W, w3.alloc (.cells #[.int .i64 n] 3) = W := ⟨_, rfl⟩
            obtain ⟨a4, ha4⟩ : ∃ q, q = w3.heap.size := ⟨_, rfl⟩
            have b4 : Below w3.heap.size w3 w4 := by rw [← hw4]; exact (Below.refl _ _).alloc (Nat.le_refl _) _
            have x4 : Blk w4 a4 3 #[.int .i64 n] := by rw [← hw4, ha4]; exact Blk.new w3 3 _
            have s4 := s3.below b4 (fun g hg => (s3.lt g hg).2)
            have hz4 : w.heap.size ≤ w4.heap.size := by have := b3.size; have := b4.size; omega
            obtain ⟨g5, c5, w5, hr2, s5, gr5, _⟩ := sl_push_in s4 n a4 x4 (by rw [hlk]; omega) hz4
            have b5 : Below w.heap.size w4 w5 := (grown_only gr5).below (fun r hr => by rw [Option.mem_toList] at hr; exact (s4.lt r hr).1) hz4
            have hz5 : w.heap.size ≤ w5.heap.size := by have := b5.size; omega
            have bz : Below w.heap.size w w5 := B1.out.trans (b3.trans ((b4.mono (by have := b3.size; omega)).trans b5))
            rw [hlk] at hr2 s5
            have H5 := H.out.keep bz
            obtain ⟨sy, cy, w6, hr3, s6, g6⟩ := apps23 s5 (slat_drop H5 HM.out (k := m) (by rw [← HM.out]; omega) (cap - m)) (by rw [List.length_append, hlk, List.length_drop, ← HM.out, List.length_singleton]; omega) hz5
            rw [Nat.sub_self] at hr3
            rw [show (L.take m ++ [n]) ++ L.drop m = insF L n from by rw [HIF.out]; simp] at hr3 s6
            obtain ⟨nr, hnr⟩ : ∃ q, q = (insF L n).length := ⟨_, rfl⟩
            have R6 := Lib.hid (sl_slc s6 (insF_pos _ _))
            rw [← hnr] at hr3 R6
            have B6 : Hid (Below w.heap.size w w6) := Lib.hid (bz.trans ((grown_only g6).below (fun r hr => by rw [Option.mem_toList] at hr; exact (s5.lt r hr).1) hz5))
            have HR1 := Lib.hid hr1
            have HR2 := Lib.hid hr2
            have HR3 := Lib.hid hr3
            have HA4 := Lib.hid ha4
            clear hwz hr1 s3 g3 hlk b3 ha4 b4 x4 s4 hz4 hr2 s5 gr5 b5 hz5 bz H5 hr3 s6 g6 hnr H1 H
            go_upto_region 8 with (at_builtin; refine wpList_append_run rfl _ _ 23 23 rfl rfl rfl HR1.out ?_)
            go_upto_region 9 with (at_builtin; rw [← HA4.out]; refine wpList_append_run rfl _ _ 23 23 rfl rfl rfl HR2.out ?_)
            go_wp2_with (at_builtin; refine wpList_append_run (v := .slice (some ⟨g5, 0, none⟩) (m + 1) c5) (src := .slice (some ⟨b, o + m, none⟩) 0 (cap - m)) rfl (.tmp 34) (.tmp 37) 23 23 rfl (by kernel_rfl) (by kernel_rfl) HR3.out ?_)
            all_goals go_ret
            all_goals exact ⟨B6.out, _, rfl, R6.out⟩
end Go.Proofs.YtekfnonjhcfdmaaDoor
