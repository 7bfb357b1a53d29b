/- A list that is read is appended to an owned one. No condition beyond the premises of each theorem. Where one more goes in an ascending list. The reference's insert. The reference's Next. -/
import Derived.Test.YtekfnonjhcfdmaaDoorBase1
import Derived.Test.YtekfnonjhcfdmaaDoorNext1
import Derived.Laws.OwnMore
import Derived.Test.YtekfnonjhcfdmaaDoorWalk1
import Derived.Test.YtekfnonjhcfdmaaDoorFam1
import Derived.Deep.CutBlock
namespace Go.Rw
open Go Go.RowKit Go.Rt
/-- Nothing is appended. -/
theorem run_app_zero {P : Program} {α : Type} {w : World} {base m : Nat} {e : TypeId} {c : α → List Value} {v : Value} {L : List α} {t ty : TypeId} {i : TypeInfo} (ht : P.underlying t = some (.slice e)) (hi : P.info? e = some i) (h : Sl w base e m c v L) (sa : Option Addr) (cap : Nat) :
    (Builtin.append_ #[t, t] ty #[v, .slice sa 0 cap]).run P w = .ok v w := by
  have hf : (Builtin.firstCells i.size 0 (.slice sa 0 cap)).run P w = .ok #[] w := by
    cases sa with
    | none => simp [Builtin.firstCells]
    | some a => exact run_firstCells_some w i.size 0 a 0 cap [] (by simp) (fun j u h => by simp at h)
  rcases h.form with ⟨rfl, rfl⟩ | ⟨g, cp, rfl, _, _, hle, _⟩
  · simp [Builtin.append_, run_underlying ht, sizeOf, typeInfo, hi, Builtin.lenOf, hf]
  · simp [Builtin.append_, run_underlying ht, sizeOf, typeInfo, hi, Builtin.lenOf, hf, hle, storeCells]
/-- A list that is read is appended. -/
theorem Sl.apps {P : Program} {α : Type} {w : World} {base m : Nat} {e : TypeId} {c : α → List Value} {v u z : Value} {L M : List α} {t ty : TypeId} {bytes : Nat} (h : Sl w base e m c v L) (hu : P.underlying t = some (.slice e)) (hi : (P.info? e).map (fun i => (i.zero, i.size, i.bytes)) = some (some z, m, bytes))
    (hz : z.cells.size = m) (hm : 0 < m) (hc : ∀ a, (c a).length = m) (h1 : ∀ a, ∀ u ∈ c a, u.oneCell' = true) (k : SlAt w m c u M) (hl : L.length + M.length ≤ 100000000000000) (hby : (L.length + M.length) * bytes ≤ 140737488355328) (hbase : base ≤ w.heap.size) :
    ∃ (v' : Value) (W2 : World), (Builtin.append_ #[t, t] ty #[v, u]).run P w = .ok v' W2 ∧ Sl W2 base e m c v' (L ++ M) ∧ w.grownBy W2 v.ownBlock ∧ (v'.ownBlock = v.ownBlock ∨ v'.ownBlock = some w.heap.size) := by
  rcases k with ⟨rfl, sa, cap, rfl⟩ | ⟨b, o, cap, rfl, _, _, hcell⟩
  · obtain ⟨i0, hi0, _⟩ := info_parts hi
    exact ⟨v, w, run_app_zero hu hi0 h sa cap, by rw [List.append_nil]; exact h, ⟨rfl, rfl, rfl, Nat.le_refl _, fun _ _ _ => rfl⟩, .inl rfl⟩
  · refine h.pushs hu hi hz hm hc h1 M (fun j x hj => ?_) hl hby hbase cap
    have hlt : j < M.length * m := by
      have := (List.getElem?_eq_some_iff.1 hj).1
      rwa [flat_len hc] at this
    have hq : j / m < M.length := (Nat.div_lt_iff_lt_mul hm).2 hlt
    have e : j = j / m * m + j % m := (Nat.div_add_mod' j m).symm
    have h2 := flat_at hc M (j / m) (j % m) hq (Nat.mod_lt _ hm)
    rw [← e, hj] at h2
    have h3 := hcell (j / m) (j % m) hq (Nat.mod_lt _ hm)
    rw [Nat.add_assoc, ← e] at h3
    rw [h3, ← h2]
end Go.Rw
namespace Go.Proofs.YtekfnonjhcfdmaaDoor
open Go Go.RowKit Go.Rt Go.Rw
theorem apps23 {W : World} {B : Nat} {v u : Value} {L M : List Int} (h : Sl W B 3 1 inC v L) (k : SlAt W 1 inC u M) (hl : (L.length + M.length) * 8 ≤ 140737488355328) (hb : B ≤ W.heap.size) :
    ∃ (sa : Option Addr) (co : Nat) (W2 : World), (Builtin.append_ #[23, 23] 23 #[v, u]).run Tryd.prog W = .ok (.slice sa (L ++ M).length co) W2 ∧ Sl W2 B 3 1 inC (.slice sa (L ++ M).length co) (L ++ M) ∧ W.grownBy W2 v.ownBlock := by
  obtain ⟨v', W2, h1, h2, h3, _⟩ := h.apps (t := 23) (ty := 23) (bytes := 8) (z := .int .i64 0) Tryd.underlying23 (by kernel_rfl) (by rfl) (by decide) (fun _ => rfl) (fun a u hu => by simp [inC] at hu; rcases hu with rfl; rfl) k (by omega) hl hb
  rcases h2.form with ⟨e, hn⟩ | ⟨g, cap, e, _⟩
  · subst e
    exact ⟨none, 0, W2, by rw [hn]; exact h1, by rw [hn] at h2 ⊢; exact h2, h3⟩
  · subst e
    exact ⟨_, _, W2, h1, h2, h3⟩
theorem apps35 {W : World} {B : Nat} {v u : Value} {L M : List Ar} (h : Sl W B 38 2 arC v L) (k : SlAt W 2 arC u M) (hl : (L.length + M.length) * 16 ≤ 140737488355328) (hb : B ≤ W.heap.size) :
    ∃ (sa : Option Addr) (co : Nat) (W2 : World), (Builtin.append_ #[35, 35] 35 #[v, u]).run Tryd.prog W = .ok (.slice sa (L ++ M).length co) W2 ∧ Sl W2 B 38 2 arC (.slice sa (L ++ M).length co) (L ++ M) ∧ W.grownBy W2 v.ownBlock := by
  obtain ⟨v', W2, h1, h2, h3, _⟩ := h.apps (t := 35) (ty := 35) (bytes := 16) (z := .agg #[.int .i64 0, .int .i64 0]) Tryd.underlying35 (by kernel_rfl) (by rfl) (by decide) (fun _ => rfl) (fun a u hu => by simp [arC] at hu; rcases hu with rfl | rfl <;> rfl) k (by omega) hl hb
  rcases h2.form with ⟨e, hn⟩ | ⟨g, cap, e, _⟩
  · subst e
    exact ⟨none, 0, W2, by rw [hn]; exact h1, by rw [hn] at h2 ⊢; exact h2, h3⟩
  · subst e
    exact ⟨_, _, W2, h1, h2, h3⟩
end Go.Proofs.YtekfnonjhcfdmaaDoor
namespace Go.Proofs.YtekfnonjhcfdmaaDoor

theorem insF_at : ∀ (L : List Int) (n : Int) (k : Nat), (∀ j (h : j < L.length), j < k → L[j] < n) → (∀ h : k < L.length, ¬ L[k] < n) → k ≤ L.length → n ∉ L → insF L n = L.take k ++ n :: L.drop k
  | [], n, k, _, _, hk, _ => by
    have : k = 0 := by simpa using hk
    subst this
    rfl
  | a :: r, n, k, h1, h2, hk, hn => by
    rw [List.mem_cons, not_or] at hn
    cases k with
    | zero =>
      have h := h2 (by simp)
      simp only [List.getElem_cons_zero] at h
      unfold insF
      rw [if_pos (by omega)]
      rfl
    | succ k =>
      have h := h1 0 (by simp) (by omega)
      simp only [List.getElem_cons_zero] at h
      unfold insF
      rw [if_neg (by omega), if_neg hn.1, insF_at r n k (fun j hj hjk => ?_) (fun hj => ?_) (by simpa using hk) hn.2]
      · rfl
      · have := h1 (j + 1) (by simpa using hj) (by omega)
        simpa using this
      · have := h2 (by simpa using hj)
        simpa using this
end Go.Proofs.YtekfnonjhcfdmaaDoor
namespace Go.Proofs.YtekfnonjhcfdmaaDoor
open Go.RowKit Go.Rt Go.Rw

/-- A list to be read and sliced. -/
def SlC (W : World) (v : Value) (L : List Int) : Prop := SlAt W 1 inC v L ∧ ∃ sa cap, v = .slice sa L.length cap ∧ L.length ≤ cap ∧ cap ≤ maxLen ∧ (sa = none → cap = 0) ∧ (sa = none ∨ 0 < L.length)
theorem SlC.keep {w w' : World} {v : Value} {L : List Int} (h : SlC w v L) (b : Below w.heap.size w w') : SlC w' v L := ⟨h.1.keep b, h.2⟩
theorem sl_slc {W : World} {B : Nat} {v : Value} {L : List Int} (h : Sl W B 3 1 inC v L) (hne : 0 < L.length) : SlC W v L := by
  refine ⟨h.at in_len, ?_⟩
  rcases h.form with ⟨rfl, rfl⟩ | ⟨g, cap, rfl, _, _, hc, hm, _⟩
  · simp at hne
  · exact ⟨_, cap, rfl, hc, hm, fun h => (by cases h), .inr hne⟩
theorem nil_slc (W : World) : SlC W (.slice none 0 0) [] := ⟨.inl ⟨rfl, none, 0, rfl⟩, none, 0, rfl, Nat.le_refl _, Nat.zero_le _, fun _ => rfl, .inl rfl⟩
theorem insF_pos (L : List Int) (n : Int) : 0 < (insF L n).length := by
  have : n ∈ insF L n := (mem_insF L n n).2 (.inl rfl)
  exact List.length_pos_of_mem this
/-- A list that is returned, to be read. -/
def RdR (L : List Int) (w : World) (e : Ending) (w' : World) : Prop := Below w.heap.size w w' ∧ ∃ u, e = .returned u ∧ SlC w' u L
theorem slat_take {W : World} {s : Option Addr} {n c k : Nat} {L : List Int} (h : SlAt W 1 inC (.slice s n c) L) (hk : k ≤ L.length) (c2 : Nat) : SlAt W 1 inC (.slice s k c2) (L.take k) := by
  by_cases h0 : k = 0
  · subst h0
    exact .inl ⟨by simp, s, c2, rfl⟩
  · obtain ⟨b, o, rfl, hb, hc⟩ := h.get (by omega)
    have hl : (L.take k).length = k := by rw [List.length_take]; omega
    refine .inr ⟨b, o, c2, by rw [hl], by have := h.len.1; omega, hb, fun i j hi hj => ?_⟩
    rw [hc i j (by omega) hj, List.getElem_take]
theorem slat_drop {W : World} {b o n c k : Nat} {L : List Int} (h : SlAt W 1 inC (.slice (some ⟨b, o, none⟩) n c) L) (hn : n = L.length) (hk : k ≤ L.length) (c2 : Nat) : SlAt W 1 inC (.slice (some ⟨b, o + k, none⟩) (n - k) c2) (L.drop k) := by
  by_cases h0 : L.length = k
  · exact .inl ⟨List.drop_eq_nil_of_le (by omega), _, c2, by rw [hn, h0, Nat.sub_self]⟩
  · obtain ⟨b', o', e, hb, hc⟩ := h.get (by omega)
    simp only [Option.some.injEq, Addr.mk.injEq, and_true] at e
    obtain ⟨rfl, rfl⟩ := e
    have hl : (L.drop k).length = n - k := by rw [List.length_drop, hn]
    refine .inr ⟨b, o + k, c2, by rw [hl], by have := h.len.1; omega, hb, fun i j hi hj => ?_⟩
    rw [List.getElem_drop, ← hc (k + i) j (by omega) hj]
    congr 2
    omega
set_option maxRecDepth 100000 in
set_option maxHeartbeats 4000000 in
theorem insert40 (L : List Int) (n : Int) (v : Value) (w : World) (h : SlC w v L) (hu : Up L) (hl : L.length ≤ 1000000000000) : Calls Tryd.prog 40 #[v, .int .i64 n] w (RdR (insF L n) w) := by
  obtain ⟨sa, cap, rfl, hcap, hcm, hsn, hsp⟩ := h.2
  have HSN := Lib.hid hsn
  have HSP := Lib.hid hsp
  have HC := Lib.hid h
  have H := Lib.hid h.1
  have HU := Lib.hid hu
  have C61 := Lib.hid (in_any L n _ w h.1)
  have hcm2 : cap ≤ 9223372036854775807 := by unfold maxLen at hcm; omega
  obtain ⟨m, hm⟩ : ∃ q, q = L.length := ⟨_, rfl⟩
  rw [← hm] at H HC C61 hl hcap ⊢
  have HM := Lib.hid hm
  clear h hu hm hsn hsp hcm
  go_enter Tryd.func40, Tryd.ntmps40
  go_wp2_with fail
  refine C61.out.mono ?_
  rintro e w1 ⟨rfl, b1⟩
  have B1 := Lib.hid b1
  have H1 := Lib.hid (H.out.keep b1)
  clear b1 C61
  by_cases hin : n ∈ L
  · have HR : Hid (insF L n = L) := Lib.hid (insF_in L n HU.out hin)
    rw [decide_eq_true hin]
    clear hin
    go_wp2_with fail
    go_ret
    exact ⟨B1.out, _, rfl, by rw [HR.out]; exact HC.out.keep B1.out⟩
  · have HNI := Lib.hid hin
    rw [decide_eq_false hin]
    clear hin HC
    go_wp2_with fail
    go_loopw [5] (fun z wr => ∃ (k : Nat), k ≤ m ∧ z = .int .i64 (k : Int) ∧ Hid (∀ j (h : j < L.length), j < k → L[j] < n) ∧ w1 = wr) (fun z _ => m - (intOf z).toNat)
    case atStart => exact ⟨0, Nat.zero_le _, rfl, Lib.hid (fun _ _ h => by omega), rfl⟩
    case round =>
      obtain ⟨k, hk, rfl, HK, rfl⟩ := hrel
      by_cases hkm : k < m
      · have hkmi : (k : Int) < (m : Int) := by omega
        obtain ⟨b, o, rfl, hb, hc⟩ := H1.out.get (by rw [← HM.out]; omega)
        have hkl : k < L.length := by rw [← HM.out]; exact hkm
        have ck := hc k 0 hkl (by omega)
        obtain ⟨x, hx⟩ : ∃ x, x = L[k] := ⟨_, rfl⟩
        rw [← hx] at ck
        simp only [inC, List.getElem?_cons_zero, Nat.add_zero, Nat.mul_one] at ck
        have HX := Lib.hid hx
        clear hc hb hx
        by_cases hxn : x < n
        · have HK2 : Hid (∀ j (h : j < L.length), j < k + 1 → L[j] < n) := Lib.hid (fun j hj hjk => by
            rcases Nat.lt_succ_iff_lt_or_eq.1 hjk with q | q
            · exact HK.out j hj q
            · subst q
              rw [← HX.out]
              exact hxn)
          clear HK
          go_wp2_with fail
          go_roundw
          case rel => exact ⟨k + 1, by omega, by go_num, HK2, trivial⟩
          case measure => simp [intOf]; omega
        · have HIF : Hid (insF L n = L.take k ++ n :: L.drop k) := Lib.hid (insF_at L n k HK.out (fun h => by rw [← HX.out]; exact hxn) (by omega) HNI.out)
          have hwz := B1.out.size
          obtain ⟨sx, cx, w3, hr1, s3, g3⟩ := apps23 (Sl.nil w1 w.heap.size 3 1 inC) (slat_take H1.out (k := k) (by rw [← HM.out]; omega) cap) (by rw [List.length_take, List.length_nil]; omega) hwz
          rw [List.nil_append] at hr1 s3
          have hlk : (L.take k).length = k := by rw [List.length_take, ← HM.out]; omega
          rw [hlk] at hr1 s3
          have b3 : Below w.heap.size w1 w3 := (grown_only g3).below (fun r hr => by simp [Value.ownBlock] at hr) hwz
          obtain ⟨w4, hw4⟩ : ∃ W, w3.alloc (.cells #[.int .i64 n] 3) = W := ⟨_, rfl⟩
          obtain ⟨a4, ha4⟩ : ∃ q, q = w3.heap.size := ⟨_, rfl⟩
          have b4 : Below w3.heap.size w3 w4 := by rw [← hw4]; exact (Below.refl _ _).alloc (Nat.le_refl _) _
          have x4 : Blk w4 a4 3 #[.int .i64 n] := by rw [← hw4, ha4]; exact Blk.new w3 3 _
          have s4 := s3.below b4 (fun g hg => (s3.lt g hg).2)
          have hz4 : w.heap.size ≤ w4.heap.size := by have := b3.size; have := b4.size; omega
          obtain ⟨g5, c5, w5, hr2, s5, gr5, _⟩ := sl_push_in s4 n a4 x4 (by rw [hlk]; omega) hz4
          have b5 : Below w.heap.size w4 w5 := (grown_only gr5).below (fun r hr => by rw [Option.mem_toList] at hr; exact (s4.lt r hr).1) hz4
          have hz5 : w.heap.size ≤ w5.heap.size := by have := b5.size; omega
          have bz : Below w.heap.size w w5 := B1.out.trans (b3.trans ((b4.mono (by have := b3.size; omega)).trans b5))
          rw [hlk] at hr2 s5
          have H5 := H.out.keep bz
          obtain ⟨sy, cy, w6, hr3, s6, g6⟩ := apps23 s5 (slat_drop H5 HM.out (k := k) (by rw [← HM.out]; omega) (cap - k)) (by rw [List.length_append, hlk, List.length_drop, ← HM.out, List.length_singleton]; omega) hz5
          rw [show (L.take k ++ [n]) ++ L.drop k = insF L n from by rw [HIF.out]; simp] at hr3 s6
          obtain ⟨nr, hnr⟩ : ∃ q, q = (insF L n).length := ⟨_, rfl⟩
          have R6 := Lib.hid (sl_slc s6 (insF_pos _ _))
          rw [← hnr] at hr3 R6
          have B6 : Hid (Below w.heap.size w w6) := Lib.hid (bz.trans ((grown_only g6).below (fun r hr => by rw [Option.mem_toList] at hr; exact (s5.lt r hr).1) hz5))
          have HR1 := Lib.hid hr1
          have HR2 := Lib.hid hr2
          have HR3 := Lib.hid hr3
          have HA4 := Lib.hid ha4
          clear hwz hr1 s3 g3 hlk b3 ha4 b4 x4 s4 hz4 hr2 s5 gr5 b5 hz5 bz H5 hr3 s6 g6 hnr H1 H
          go_upto_region 8 with (at_builtin; refine wpList_append_run rfl _ _ 23 23 rfl rfl rfl HR1.out ?_)
          go_upto_region 9 with (at_builtin; rw [← HA4.out]; refine wpList_append_run rfl _ _ 23 23 rfl rfl rfl HR2.out ?_)
          go_wp2_with (at_builtin; refine wpList_append_run rfl _ _ 23 23 rfl rfl rfl HR3.out ?_)
          go_ret
          exact ⟨B6.out, _, rfl, R6.out⟩
      · have hkmi : ¬ (k : Int) < (m : Int) := by omega
        obtain rfl : m = k := by omega
        have HIF : Hid (insF L n = L.take m ++ n :: L.drop m) := Lib.hid (insF_at L n m HK.out (fun h => by have := HM.out; omega) (by rw [← HM.out]; exact Nat.le_refl _) HNI.out)
        cases sa with
        | none =>
          obtain rfl : cap = 0 := HSN.out rfl
          obtain rfl : m = 0 := by omega
          have hwz := B1.out.size
          have s3 : Sl w1 w.heap.size 3 1 inC (.slice none 0 0) (L.take 0) := by rw [List.take_zero]; exact Sl.nil _ _ _ _ _
          have hlk : (L.take 0).length = 0 := by rw [List.length_take, ← HM.out]; omega
          have b3 : Below w.heap.size w1 w1 := Below.refl _ _
          obtain ⟨w4, hw4⟩ : ∃ W, w1.alloc (.cells #[.int .i64 n] 3) = W := ⟨_, rfl⟩
          obtain ⟨a4, ha4⟩ : ∃ q, q = w1.heap.size := ⟨_, rfl⟩
          have b4 : Below w1.heap.size w1 w4 := by rw [← hw4]; exact (Below.refl _ _).alloc (Nat.le_refl _) _
          have x4 : Blk w4 a4 3 #[.int .i64 n] := by rw [← hw4, ha4]; exact Blk.new w1 3 _
          have s4 := s3.below b4 (fun g hg => (s3.lt g hg).2)
          have hz4 : w.heap.size ≤ w4.heap.size := by have := b3.size; have := b4.size; omega
          obtain ⟨g5, c5, w5, hr2, s5, gr5, _⟩ := sl_push_in s4 n a4 x4 (by rw [hlk]; omega) hz4
          have b5 : Below w.heap.size w4 w5 := (grown_only gr5).below (fun r hr => by rw [Option.mem_toList] at hr; exact (s4.lt r hr).1) hz4
          have hz5 : w.heap.size ≤ w5.heap.size := by have := b5.size; omega
          have bz : Below w.heap.size w w5 := B1.out.trans (b3.trans ((b4.mono (by have := b3.size; omega)).trans b5))
          rw [hlk, Nat.zero_add] at hr2 s5
          have H5 := H.out.keep bz
          obtain ⟨sy, cy, w6, hr3, s6, g6⟩ := apps23 s5 (show SlAt w5 1 inC (.slice none 0 0) (L.drop 0) from .inl ⟨List.drop_eq_nil_of_le (by rw [← HM.out]; exact Nat.le_refl _), _, _, rfl⟩) (by rw [List.length_append, hlk, List.length_drop, ← HM.out, List.length_singleton]; omega) hz5
          rw [show (L.take 0 ++ [n]) ++ L.drop 0 = insF L n from by rw [HIF.out]; simp] at hr3 s6
          obtain ⟨nr, hnr⟩ : ∃ q, q = (insF L n).length := ⟨_, rfl⟩
          have R6 := Lib.hid (sl_slc s6 (insF_pos _ _))
          rw [← hnr] at hr3 R6
          have B6 : Hid (Below w.heap.size w w6) := Lib.hid (bz.trans ((grown_only g6).below (fun r hr => by rw [Option.mem_toList] at hr; exact (s5.lt r hr).1) hz5))
          have HR2 := Lib.hid hr2
          have HR3 := Lib.hid hr3
          have HA4 := Lib.hid ha4
          clear hwz s3 hlk b3 ha4 b4 x4 s4 hz4 hr2 s5 gr5 b5 hz5 bz H5 hr3 s6 g6 hnr H1 H
          go_upto_region 8 with fail
          go_upto_region 9 with (at_builtin; rw [← HA4.out]; refine wpList_append_run rfl _ _ 23 23 rfl rfl rfl HR2.out ?_)
          go_wp2_with (at_builtin; refine wpList_append_run rfl _ _ 23 23 rfl rfl rfl HR3.out ?_)
          go_ret
          exact ⟨B6.out, _, rfl, R6.out⟩
        | some a =>
          have hm0 : 0 < m := by
            rcases HSP.out with h | h
            · cases h
            · rw [HM.out]; exact h
          obtain ⟨b, o, e, hb, hc⟩ := H1.out.get (by rw [← HM.out]; exact hm0)
          simp only [Option.some.injEq] at e
          subst e
          clear hb hc
          by_cases hcq : cap = m
          · subst hcq
            have hwz := B1.out.size
            obtain ⟨sx, cx, w3, hr1, s3, g3⟩ := apps23 (Sl.nil w1 w.heap.size 3 1 inC) (slat_take H1.out (k := cap) (by rw [← HM.out]; omega) cap) (by rw [List.length_take, List.length_nil]; omega) hwz
            rw [List.nil_append] at hr1 s3
            have hlk : (L.take cap).length = cap := by rw [List.length_take, ← HM.out]; omega
            rw [hlk] at hr1 s3
            have b3 : Below w.heap.size w1 w3 := (grown_only g3).below (fun r hr => by simp [Value.ownBlock] at hr) hwz
            obtain ⟨w4, hw4⟩ : ∃ W, w3.alloc (.cells #[.int .i64 n] 3) = W := ⟨_, rfl⟩
            obtain ⟨a4, ha4⟩ : ∃ q, q = w3.heap.size := ⟨_, rfl⟩
            have b4 : Below w3.heap.size w3 w4 := by rw [← hw4]; exact (Below.refl _ _).alloc (Nat.le_refl _) _
            have x4 : Blk w4 a4 3 #[.int .i64 n] := by rw [← hw4, ha4]; exact Blk.new w3 3 _
            have s4 := s3.below b4 (fun g hg => (s3.lt g hg).2)
            have hz4 : w.heap.size ≤ w4.heap.size := by have := b3.size; have := b4.size; omega
            obtain ⟨g5, c5, w5, hr2, s5, gr5, _⟩ := sl_push_in s4 n a4 x4 (by rw [hlk]; omega) hz4
            have b5 : Below w.heap.size w4 w5 := (grown_only gr5).below (fun r hr => by rw [Option.mem_toList] at hr; exact (s4.lt r hr).1) hz4
            have hz5 : w.heap.size ≤ w5.heap.size := by have := b5.size; omega
            have bz : Below w.heap.size w w5 := B1.out.trans (b3.trans ((b4.mono (by have := b3.size; omega)).trans b5))
            rw [hlk] at hr2 s5
            have H5 := H.out.keep bz
            obtain ⟨sy, cy, w6, hr3, s6, g6⟩ := apps23 s5 (show SlAt w5 1 inC (.slice (some ⟨b, o, none⟩) 0 0) (L.drop cap) from .inl ⟨List.drop_eq_nil_of_le (by rw [← HM.out]; exact Nat.le_refl _), _, _, rfl⟩) (by rw [List.length_append, hlk, List.length_drop, ← HM.out, List.length_singleton]; omega) hz5
            rw [show (L.take cap ++ [n]) ++ L.drop cap = insF L n from by rw [HIF.out]; simp] at hr3 s6
            obtain ⟨nr, hnr⟩ : ∃ q, q = (insF L n).length := ⟨_, rfl⟩
            have R6 := Lib.hid (sl_slc s6 (insF_pos _ _))
            rw [← hnr] at hr3 R6
            have B6 : Hid (Below w.heap.size w w6) := Lib.hid (bz.trans ((grown_only g6).below (fun r hr => by rw [Option.mem_toList] at hr; exact (s5.lt r hr).1) hz5))
            have HR1 := Lib.hid hr1
            have HR2 := Lib.hid hr2
            have HR3 := Lib.hid hr3
            have HA4 := Lib.hid ha4
            clear hwz hr1 s3 g3 hlk b3 ha4 b4 x4 s4 hz4 hr2 s5 gr5 b5 hz5 bz H5 hr3 s6 g6 hnr H1 H
            go_upto_region 8 with (at_builtin; refine wpList_append_run rfl _ _ 23 23 rfl rfl rfl HR1.out ?_)
            go_upto_region 9 with (at_builtin; rw [← HA4.out]; refine wpList_append_run rfl _ _ 23 23 rfl rfl rfl HR2.out ?_)
            go_wp2_with (at_builtin; refine wpList_append_run rfl _ _ 23 23 rfl rfl rfl HR3.out ?_)
            go_ret
            exact ⟨B6.out, _, rfl, R6.out⟩
          · have hwz := B1.out.size
            obtain ⟨sx, cx, w3, hr1, s3, g3⟩ := apps23 (Sl.nil w1 w.heap.size 3 1 inC) (slat_take H1.out (k := m) (by rw [← HM.out]; omega) cap) (by rw [List.length_take, List.length_nil]; omega) hwz
            rw [List.nil_append] at hr1 s3
            have hlk : (L.take m).length = m := by rw [List.length_take, ← HM.out]; omega
            rw [hlk] at hr1 s3
            have b3 : Below w.heap.size w1 w3 := (grown_only g3).below (fun r hr => by simp [Value.ownBlock] at hr) hwz
            obtain ⟨w4, hw4⟩ : ∃ W, w3.alloc (.cells #[.int .i64 n] 3) = W := ⟨_, rfl⟩
            obtain ⟨a4, ha4⟩ : ∃ q, q = w3.heap.size := ⟨_, rfl⟩
            have b4 : Below w3.heap.size w3 w4 := by rw [← hw4]; exact (Below.refl _ _).alloc (Nat.le_refl _) _
            have x4 : Blk w4 a4 3 #[.int .i64 n] := by rw [← hw4, ha4]; exact Blk.new w3 3 _
            have s4 := s3.below b4 (fun g hg => (s3.lt g hg).2)
            have hz4 : w.heap.size ≤ w4.heap.size := by have := b3.size; have := b4.size; omega
            obtain ⟨g5, c5, w5, hr2, s5, gr5, _⟩ := sl_push_in s4 n a4 x4 (by rw [hlk]; omega) hz4
            have b5 : Below w.heap.size w4 w5 := (grown_only gr5).below (fun r hr => by rw [Option.mem_toList] at hr; exact (s4.lt r hr).1) hz4
            have hz5 : w.heap.size ≤ w5.heap.size := by have := b5.size; omega
            have bz : Below w.heap.size w w5 := B1.out.trans (b3.trans ((b4.mono (by have := b3.size; omega)).trans b5))
            rw [hlk] at hr2 s5
            have H5 := H.out.keep bz
            obtain ⟨sy, cy, w6, hr3, s6, g6⟩ := apps23 s5 (slat_drop H5 HM.out (k := m) (by rw [← HM.out]; omega) (cap - m)) (by rw [List.length_append, hlk, List.length_drop, ← HM.out, List.length_singleton]; omega) hz5
            rw [Nat.sub_self] at hr3
            rw [show (L.take m ++ [n]) ++ L.drop m = insF L n from by rw [HIF.out]; simp] at hr3 s6
            obtain ⟨nr, hnr⟩ : ∃ q, q = (insF L n).length := ⟨_, rfl⟩
            have R6 := Lib.hid (sl_slc s6 (insF_pos _ _))
            rw [← hnr] at hr3 R6
            have B6 : Hid (Below w.heap.size w w6) := Lib.hid (bz.trans ((grown_only g6).below (fun r hr => by rw [Option.mem_toList] at hr; exact (s5.lt r hr).1) hz5))
            have HR1 := Lib.hid hr1
            have HR2 := Lib.hid hr2
            have HR3 := Lib.hid hr3
            have HA4 := Lib.hid ha4
            clear hwz hr1 s3 g3 hlk b3 ha4 b4 x4 s4 hz4 hr2 s5 gr5 b5 hz5 bz H5 hr3 s6 g6 hnr H1 H
            go_upto_region 8 with (at_builtin; refine wpList_append_run rfl _ _ 23 23 rfl rfl rfl HR1.out ?_)
            go_upto_region 9 with (at_builtin; rw [← HA4.out]; refine wpList_append_run rfl _ _ 23 23 rfl rfl rfl HR2.out ?_)
            go_wp2_with (at_builtin; refine wpList_append_run (v := .slice (some ⟨g5, 0, none⟩) (m + 1) c5) (src := .slice (some ⟨b, o + m, none⟩) 0 (cap - m)) rfl (.tmp 34) (.tmp 37) 23 23 rfl (by kernel_rfl) (by kernel_rfl) HR3.out ?_)
            all_goals go_ret
            all_goals exact ⟨B6.out, _, rfl, R6.out⟩
end Go.Proofs.YtekfnonjhcfdmaaDoor
namespace Go.Proofs.YtekfnonjhcfdmaaDoor
open Go.RowKit Go.Rt Go.Rw

theorem asc_snoc (L : List Int) (x : Int) : asc (L ++ [x]) = insF (asc L) x := by unfold asc; rw [List.foldl_append]; rfl
/-- The entries in range, put in order, the first k. -/
def nxK (l : List In) (to_ : List Int) (k : Nat) : List Int := asc ((to_.take k).filter (inR l))
theorem nxK_step (l : List In) (to_ : List Int) (k : Nat) (hk : k < to_.length) : nxK l to_ (k + 1) = if inR l to_[k] = true then insF (nxK l to_ k) to_[k] else nxK l to_ k := by
  unfold nxK
  rw [List.take_succ_eq_append_getElem hk, List.filter_append]
  by_cases h : inR l to_[k] = true
  · rw [if_pos h, List.filter_cons_of_pos (by exact h), List.filter_nil, asc_snoc]
  · rw [if_neg h, List.filter_cons_of_neg (by exact h), List.filter_nil, List.append_nil]
theorem nxK_len (l : List In) (to_ : List Int) (k : Nat) : (nxK l to_ k).length ≤ to_.length := by
  have h1 := asc_len ((to_.take k).filter (inR l))
  have h2 := List.length_filter_le (inR l) (to_.take k)
  have h3 := List.length_take_le' k to_
  unfold nxK
  omega
/-- A literal list is appended. -/
theorem lit23 {W : World} {B : Nat} {v : Value} {L : List Int} (h : Sl W B 3 1 inC v L) (M : List Int) (hl : L.length + M.length ≤ 1000000000000) (hb : B ≤ W.heap.size) :
    ∃ (sa : Option Addr) (co : Nat) (W2 : World), (Builtin.append_ #[23, 23] 23 #[v, .slice (some ⟨W.heap.size, 0, none⟩) M.length M.length]).run Tryd.prog (W.alloc (.cells (M.flatMap inC).toArray 3)) = .ok (.slice sa (L ++ M).length co) W2 ∧ Sl W2 B 3 1 inC (.slice sa (L ++ M).length co) (L ++ M) ∧ Below B W W2 := by
  have h1 := h.only (bs := []) (Only.alloc [] W (.cells (M.flatMap inC).toArray 3)) (fun g hg hm => by cases hm)
  have k1 : SlAt (W.alloc (.cells (M.flatMap inC).toArray 3)) 1 inC (.slice (some ⟨W.heap.size, 0, none⟩) M.length M.length) M := (Sl.lit (base := W.heap.size) W M in_len (Nat.le_refl _) (by unfold maxLen; omega)).at in_len
  obtain ⟨sa, co, W2, r, s, g⟩ := apps23 h1 k1 (by omega) (by simp; omega)
  exact ⟨sa, co, W2, r, s, ((Below.refl B W).alloc hb _).trans ((grown_only g).below (fun r hr => by rw [Option.mem_toList] at hr; exact (h.lt r hr).1) (by simp; omega))⟩
set_option maxRecDepth 100000 in
set_option maxHeartbeats 8000000 in
theorem rnext17 (l : List In) (v : Value) (i : Int) (w : World) (h : InsAt w l v) (hb1 : l.length ≤ 1048576) (hb2 : ∀ x ∈ l, x.cases.length ≤ 1048576) : Calls Tryd.prog 17 #[v, .int .i64 i] w (RdR (nextF l i) w) := by
  obtain ⟨_, sa, cap, rfl⟩ := h.form
  obtain ⟨n, hn⟩ : ∃ q, q = l.length := ⟨_, rfl⟩
  have hbn := hb1
  clear hb1
  rw [← hn] at h hbn ⊢
  have HN := Lib.hid hn
  have HH := Lib.hid h
  have HB2 := Lib.hid hb2
  clear h hn hb2
  by_cases hi : 0 ≤ i ∧ i < n
  · obtain ⟨j, rfl⟩ : ∃ j : Nat, i = j := ⟨i.toNat, by omega⟩
    have hjn : j < n := by omega
    have hjni : (j : Int) < (n : Int) := hi.2
    have hjl : j < l.length := by rw [← HN.out]; exact hjn
    have hnj : ¬ n ≤ j := by omega
    have hj0 : ¬ (j : Int) < 0 := by omega
    have dj0 : decide ((j : Int) < 0) = false := decide_eq_false hj0
    have dnj : decide (n ≤ j) = false := decide_eq_false hnj
    obtain ⟨b, o, rfl, hb, hc⟩ := HH.out.get (by omega)
    obtain ⟨f, hf, hfa, hcell⟩ := hc j hjl
    have HTG : Hid (nextF l j = asc ((targF f.x j).filter (inR l))) := Lib.hid (by
      unfold nextF
      rw [dif_pos ⟨by omega, by simpa using hjl⟩]
      rw [hf]
      rfl)
    have hcl : f.x.cases.length ≤ 1048576 := by rw [hf]; exact HB2.out _ (List.getElem_mem _)
    obtain ⟨⟨op, ⟨dk, dn⟩, src, goal, nn, live, name, cas, segs⟩, sv, cv, gv⟩ := f
    obtain ⟨_, s1, p1, esv⟩ := hfa.src.len
    obtain ⟨_, s2, p2, ecv⟩ := hfa.cases.len
    obtain ⟨_, s3, p3, egv⟩ := hfa.segs.len
    dsimp only at esv ecv egv hcl HTG
    obtain ⟨n1, hn1⟩ : ∃ q, q = src.length := ⟨_, rfl⟩
    obtain ⟨n2, hn2⟩ : ∃ q, q = cas.length := ⟨_, rfl⟩
    obtain ⟨n3, hn3⟩ : ∃ q, q = segs.length := ⟨_, rfl⟩
    rw [← hn1] at esv
    rw [← hn2] at ecv hcl
    rw [← hn3] at egv
    subst esv ecv egv
    have HN2 := Lib.hid hn2
    clear hn1 hn2 hn3
    obtain ⟨e0, e1, e2, e3, e4, e5, e6, e7, e8, e9⟩ := cells10 hcell
    dsimp only at e0 e1 e2 e3 e4 e5 e6 e7 e8 e9
    have HFC := Lib.hid hfa.cases
    have X := Lib.hid (Blk.new w 42 #[.int .i64 op, .int .i64 dk, .int .i64 dn, .slice s1 n1 p1, .int .i64 goal, .int .i64 nn, .int .i64 live, .string name, .slice s2 n2 p2, .slice s3 n3 p3])
    have B := Lib.hid ((Below.refl w.heap.size w).alloc (Nat.le_refl _) (.cells #[.int .i64 op, .int .i64 dk, .int .i64 dn, .slice s1 n1 p1, .int .i64 goal, .int .i64 nn, .int .i64 live, .string name, .slice s2 n2 p2, .slice s3 n3 p3] 42))
    obtain ⟨m, hm⟩ : ∃ q, q = w.heap.size := ⟨_, rfl⟩
    have HZ1 : Hid ((w.alloc (.cells #[.int .i64 op, .int .i64 dk, .int .i64 dn, .slice s1 n1 p1, .int .i64 goal, .int .i64 nn, .int .i64 live, .string name, .slice s2 n2 p2, .slice s3 n3 p3] 42)).heap.size = m + 1) := Lib.hid (by rw [World.size_alloc, hm])
    have HM := Lib.hid hm
    rw [← hm] at X B
    clear hc hf hcell hi
    go_enter Tryd.func17, Tryd.ntmps17
    go_upto_region 5 with fail
    rw [← hm]
    generalize w.alloc (.cells #[.int .i64 op, .int .i64 dk, .int .i64 dn, .slice s1 n1 p1, .int .i64 goal, .int .i64 nn, .int .i64 live, .string name, .slice s2 n2 p2, .slice s3 n3 p3] 42) = w1 at X B HZ1 ⊢
    clear hm e0 e1 e2 e3 e4 e5 e6 e7 e8 e9
    have q0 : w1.cell? ⟨m, 0, none⟩ = some (.int .i64 op) := X.out.cell 0
    have q4 : w1.cell? ⟨m, 4, none⟩ = some (.int .i64 goal) := X.out.cell 4
    go_upto_block 0 with fail
    go_cut [7] from 25 (fun z7 wx => ∃ (S : Option Addr) (N C : Nat) (toL : List Int), z7 = .slice S N C ∧ N ≤ 1048577 ∧ Hid (targF ⟨op, ⟨dk, dn⟩, src, goal, nn, live, name, cas, segs⟩ j = toL) ∧ Hid (N = toL.length) ∧ Hid (Sl wx m 3 1 inC (.slice S N C) toL) ∧ Hid (Below m w wx))
    case first =>
      go_upto_if 30 with fail
      go_cut [30, 31] from 999 (fun z30 _ wx => z30 = .bool (endOp op) ∧ w1 = wx)
      case first =>
        by_cases h17 : op = 17
        · subst h17
          go_wp2_with fail
          go_meet
          exact ⟨rfl, rfl⟩
        have e17 : (op == 17) = false := by rw [beq_eq_false_iff_ne]; exact h17
        by_cases h19 : op = 19
        · subst h19
          go_wp2_with fail
          go_meet
          exact ⟨rfl, rfl⟩
        have e19 : (op == 19) = false := by rw [beq_eq_false_iff_ne]; exact h19
        by_cases h21 : op = 21
        · subst h21
          go_wp2_with fail
          go_meet
          exact ⟨rfl, rfl⟩
        have e21 : (op == 21) = false := by rw [beq_eq_false_iff_ne]; exact h21
        by_cases h23 : op = 23
        · subst h23
          go_wp2_with fail
          go_meet
          exact ⟨rfl, rfl⟩
        have e23 : (op == 23) = false := by rw [beq_eq_false_iff_ne]; exact h23
        by_cases h26 : op = 26
        · subst h26
          go_wp2_with fail
          go_meet
          exact ⟨rfl, rfl⟩
        have e26 : (op == 26) = false := by rw [beq_eq_false_iff_ne]; exact h26
        by_cases h27 : op = 27
        · subst h27
          go_wp2_with fail
          go_meet
          exact ⟨rfl, rfl⟩
        have e27 : (op == 27) = false := by rw [beq_eq_false_iff_ne]; exact h27
        have g1 : endOp op = false := by unfold endOp; simp [h17, h19, h21, h23, h26, h27]
        replace g1 := Lib.hid g1
        clear h17 h19 h21 h23 h26 h27
        go_wp2_with fail
        go_meet
        exact ⟨by rw [g1.out], rfl⟩
      case rest =>
        obtain ⟨rfl, rfl⟩ := hcut
        obtain ⟨E, hE⟩ : ∃ q, endOp op = q := ⟨_, rfl⟩
        rw [hE]
        replace hE := Lib.hid hE
        cases E with
        | true =>
          have HTO : Hid (targF ⟨op, ⟨dk, dn⟩, src, goal, nn, live, name, cas, segs⟩ j = []) := Lib.hid (by unfold targF; rw [hE.out]; rfl)
          go_wp2_with fail
          go_meet
          exact ⟨none, 0, 0, [], rfl, by omega, HTO, Lib.hid rfl, Lib.hid (Sl.nil _ _ _ _ _), B⟩
        | false =>
          go_upto_if 37 with fail
          go_cut [37, 38] from 999 (fun z _ wx => z = .bool (jumpOp op) ∧ w1 = wx)
          case first =>
            by_cases h8 : op = 8
            · subst h8
              go_wp2_with fail
              go_meet
              exact ⟨rfl, rfl⟩
            have e8 : (op == 8) = false := by rw [beq_eq_false_iff_ne]; exact h8
            by_cases h39 : op = 39
            · subst h39
              go_wp2_with fail
              go_meet
              exact ⟨rfl, rfl⟩
            have e39 : (op == 39) = false := by rw [beq_eq_false_iff_ne]; exact h39
            have g1 : jumpOp op = false := by unfold jumpOp; simp [h8, h39]
            replace g1 := Lib.hid g1
            clear h8 h39
            go_wp2_with fail
            go_meet
            exact ⟨by rw [g1.out], rfl⟩
          case rest =>
            obtain ⟨rfl, rfl⟩ := hcut
            obtain ⟨J, hJ⟩ : ∃ q, jumpOp op = q := ⟨_, rfl⟩
            rw [hJ]
            replace hJ := Lib.hid hJ
            cases J with
            | true =>
              have HTO : Hid (targF ⟨op, ⟨dk, dn⟩, src, goal, nn, live, name, cas, segs⟩ j = [goal]) := Lib.hid (by unfold targF; rw [hE.out, hJ.out]; rfl)
              obtain ⟨sx, cx, w3, hr1, s3, b3⟩ := lit23 (Sl.nil w1 m 3 1 inC) [goal] (by simp) (by have := B.out.size; have := HM.out; omega)
              rw [List.nil_append] at hr1 s3
              have HR1 := Lib.hid hr1
              have HS3 := Lib.hid s3
              have HB3 := Lib.hid (B.out.trans (b3.mono (by have := HM.out; omega)))
              clear hr1 s3 b3 B
              go_wp2_with (at_builtin; refine wpList_append_run rfl _ _ 23 23 rfl rfl rfl HR1.out ?_)
              go_meet
              exact ⟨_, 1, _, _, rfl, by omega, HTO, Lib.hid rfl, HS3, HB3⟩
            | false =>
              by_cases h12 : op = 12
              · subst h12
                have HTO : Hid (targF ⟨(12 : Int), ⟨dk, dn⟩, src, goal, nn, live, name, cas, segs⟩ j = goal :: cas.map (·.to)) := Lib.hid (by rfl)
                have X12 : Hid (Blk w1 m 42 #[.int .i64 12, .int .i64 dk, .int .i64 dn, .slice s1 n1 p1, .int .i64 goal, .int .i64 nn, .int .i64 live, .string name, .slice s2 n2 p2, .slice s3 n3 p3]) := X
                clear X
                obtain ⟨sx, cx, w3, hr1, s4, b3⟩ := lit23 (Sl.nil w1 (m + 1) 3 1 inC) [goal] (by simp) (by have := HZ1.out; omega)
                rw [List.nil_append] at hr1 s4
                have HR1 := Lib.hid hr1
                have HS3 : Hid (Sl w3 (m + 1) 3 1 inC (.slice sx (0 + 1) cx) (goal :: (cas.take 0).map (·.to))) := Lib.hid (by simpa using s4)
                have HB3 := Lib.hid (B.out.trans (b3.mono (by omega)))
                have HX3 := Lib.hid (show Blk w3 m 42 #[.int .i64 12, .int .i64 dk, .int .i64 dn, .slice s1 n1 p1, .int .i64 goal, .int .i64 nn, .int .i64 live, .string name, .slice s2 n2 p2, .slice s3 n3 p3] from (b3.block m (by omega)).trans X12.out)
                clear hr1 s4 b3 B X12
                go_wp2_with (at_builtin; refine wpList_append_run rfl _ _ 23 23 rfl rfl rfl HR1.out ?_)
                go_loopw [7, 8] (fun z7 z8 wr => ∃ (k : Nat) (S : Option Addr) (C : Nat), k ≤ n2 ∧ z8 = .int .i64 (k : Int) ∧ z7 = .slice S (k + 1) C ∧ Hid (Sl wr (m + 1) 3 1 inC (.slice S (k + 1) C) (goal :: (cas.take k).map (·.to))) ∧ Hid (Blk wr m 42 #[.int .i64 12, .int .i64 dk, .int .i64 dn, .slice s1 n1 p1, .int .i64 goal, .int .i64 nn, .int .i64 live, .string name, .slice s2 n2 p2, .slice s3 n3 p3]) ∧ Hid (Below m w wr)) (fun _ z _ => n2 - (intOf z).toNat)
                case atStart => exact ⟨0, _, _, Nat.zero_le _, rfl, rfl, HS3, HX3, HB3⟩
                case round =>
                  obtain ⟨k, S, C, hk, rfl, rfl, HS, HX, HB⟩ := hrel
                  clear HS3 HX3 HB3
                  have q7 : wr.cell? ⟨m, 8, none⟩ = some (.slice s2 n2 p2) := HX.out.cell 8
                  by_cases hkn : k < n2
                  · have hkni : (k : Int) < (n2 : Int) := by omega
                    have hkl : k < cas.length := by rw [← HN2.out]; exact hkn
                    have HF2 := Lib.hid (HFC.out.keep (by rw [← HM.out]; exact HB.out))
                    obtain ⟨b', o', es, hb', hc'⟩ := HF2.out.get (by omega)
                    have k1 := hc' k 1 hkl (by omega)
                    obtain ⟨x, hx⟩ : ∃ x, x = (cas[k]).to := ⟨_, rfl⟩
                    simp only [csC, List.getElem?_cons_zero, List.getElem?_cons_succ] at k1
                    rw [← hx] at k1
                    have htk : goal :: (cas.take (k + 1)).map (·.to) = (goal :: (cas.take k).map (·.to)) ++ [x] := by rw [List.take_succ_eq_append_getElem hkl, List.map_append, hx]; rfl
                    have hlk : (goal :: (cas.take k).map (·.to)).length = k + 1 := by rw [List.length_cons, List.length_map, List.length_take]; omega
                    obtain ⟨sx2, cx2, w4, hr2, s5, b4⟩ := lit23 HS.out [x] (by rw [hlk]; simp; omega) (by have := HX.out.lt; omega)
                    rw [← htk] at hr2 s5
                    rw [show (goal :: (cas.take (k + 1)).map (·.to)).length = k + 1 + 1 by rw [htk, List.length_append, hlk]; rfl] at hr2 s5
                    have HR2 := Lib.hid hr2
                    have HS2 := Lib.hid s5
                    have HB2 := Lib.hid (HB.out.trans (b4.mono (by omega)))
                    have HX2 := Lib.hid (show Blk w4 m 42 #[.int .i64 12, .int .i64 dk, .int .i64 dn, .slice s1 n1 p1, .int .i64 goal, .int .i64 nn, .int .i64 live, .string name, .slice s2 n2 p2, .slice s3 n3 p3] from (b4.block m (by omega)).trans HX.out)
                    clear hx hkl hr2 s5 b4 htk hlk hc' hb' HF2 HS HB
                    subst es
                    go_wp2_with (at_builtin; refine wpList_append_run rfl _ _ 23 23 rfl rfl rfl HR2.out ?_)
                    go_roundw
                    case rel => exact ⟨k + 1, _, _, by omega, by go_num, rfl, HS2, HX2, HB2⟩
                    case measure => simp [intOf]; omega
                  · have hkni : ¬ (k : Int) < (n2 : Int) := by omega
                    have hke : k = cas.length := by rw [← HN2.out]; omega
                    have HS2 := Lib.hid (HS.out.mono (Nat.le_succ m))
                    have HNT : Hid (k + 1 = (goal :: (cas.take k).map (·.to)).length) := Lib.hid (by rw [List.length_cons, List.length_map, List.length_take]; omega)
                    have HTO2 : Hid (targF ⟨(12 : Int), ⟨dk, dn⟩, src, goal, nn, live, name, cas, segs⟩ j = goal :: (cas.take k).map (·.to)) := Lib.hid (by rw [hke, List.take_length]; exact HTO.out)
                    clear hke HTO
                    go_wp2_with fail
                    go_meet
                    exact ⟨S, k + 1, C, _, rfl, by omega, HTO2, HNT, HS2, HB⟩
              · have e12 : (op == 12) = false := by rw [beq_eq_false_iff_ne]; exact h12
                have H12 := Lib.hid h12
                clear h12
                go_upto_if 68 with fail
                go_cut [68, 69] from 999 (fun z _ wx => z = .bool (forkOp op) ∧ w1 = wx)
                case first =>
                  by_cases h9 : op = 9
                  · subst h9
                    go_wp2_with fail
                    go_meet
                    exact ⟨rfl, rfl⟩
                  have e9 : (op == 9) = false := by rw [beq_eq_false_iff_ne]; exact h9
                  by_cases h10 : op = 10
                  · subst h10
                    go_wp2_with fail
                    go_meet
                    exact ⟨rfl, rfl⟩
                  have e10 : (op == 10) = false := by rw [beq_eq_false_iff_ne]; exact h10
                  by_cases h11 : op = 11
                  · subst h11
                    go_wp2_with fail
                    go_meet
                    exact ⟨rfl, rfl⟩
                  have e11 : (op == 11) = false := by rw [beq_eq_false_iff_ne]; exact h11
                  by_cases h13 : op = 13
                  · subst h13
                    go_wp2_with fail
                    go_meet
                    exact ⟨rfl, rfl⟩
                  have e13 : (op == 13) = false := by rw [beq_eq_false_iff_ne]; exact h13
                  by_cases h30 : op = 30
                  · subst h30
                    go_wp2_with fail
                    go_meet
                    exact ⟨rfl, rfl⟩
                  have e30 : (op == 30) = false := by rw [beq_eq_false_iff_ne]; exact h30
                  by_cases h31 : op = 31
                  · subst h31
                    go_wp2_with fail
                    go_meet
                    exact ⟨rfl, rfl⟩
                  have e31 : (op == 31) = false := by rw [beq_eq_false_iff_ne]; exact h31
                  by_cases h32 : op = 32
                  · subst h32
                    go_wp2_with fail
                    go_meet
                    exact ⟨rfl, rfl⟩
                  have e32 : (op == 32) = false := by rw [beq_eq_false_iff_ne]; exact h32
                  by_cases h33 : op = 33
                  · subst h33
                    go_wp2_with fail
                    go_meet
                    exact ⟨rfl, rfl⟩
                  have e33 : (op == 33) = false := by rw [beq_eq_false_iff_ne]; exact h33
                  by_cases h34 : op = 34
                  · subst h34
                    go_wp2_with fail
                    go_meet
                    exact ⟨rfl, rfl⟩
                  have e34 : (op == 34) = false := by rw [beq_eq_false_iff_ne]; exact h34
                  by_cases h37 : op = 37
                  · subst h37
                    go_wp2_with fail
                    go_meet
                    exact ⟨rfl, rfl⟩
                  have e37 : (op == 37) = false := by rw [beq_eq_false_iff_ne]; exact h37
                  by_cases h40 : op = 40
                  · subst h40
                    go_wp2_with fail
                    go_meet
                    exact ⟨rfl, rfl⟩
                  have e40 : (op == 40) = false := by rw [beq_eq_false_iff_ne]; exact h40
                  have g1 : forkOp op = false := by unfold forkOp; simp [h9, h10, h11, h13, h30, h31, h32, h33, h34, h37, h40]
                  replace g1 := Lib.hid g1
                  clear h9 h10 h11 h13 h30 h31 h32 h33 h34 h37 h40
                  go_wp2_with fail
                  go_meet
                  exact ⟨by rw [g1.out], rfl⟩
                case rest =>
                  obtain ⟨rfl, rfl⟩ := hcut
                  obtain ⟨F, hF⟩ : ∃ q, forkOp op = q := ⟨_, rfl⟩
                  rw [hF]
                  replace hF := Lib.hid hF
                  cases F with
                  | true =>
                    have HTO : Hid (targF ⟨op, ⟨dk, dn⟩, src, goal, nn, live, name, cas, segs⟩ j = [(j : Int) + 1, goal]) := Lib.hid (by unfold targF; rw [hE.out, hJ.out, if_neg (by simp), if_neg (by simp), if_neg H12.out, hF.out]; rfl)
                    obtain ⟨sx, cx, w3, hr1, s3, b3⟩ := lit23 (Sl.nil w1 m 3 1 inC) [(j : Int) + 1, goal] (by simp) (by have := B.out.size; have := HM.out; omega)
                    rw [List.nil_append] at hr1 s3
                    have HR1 := Lib.hid hr1
                    have HS3 := Lib.hid s3
                    have HB3 := Lib.hid (B.out.trans (b3.mono (by have := HM.out; omega)))
                    clear hr1 s3 b3 B
                    go_wp2_with (at_builtin; refine wpList_append_run rfl _ _ 23 23 rfl rfl rfl HR1.out ?_)
                    go_meet
                    exact ⟨_, 2, _, _, rfl, by omega, HTO, Lib.hid rfl, HS3, HB3⟩
                  | false =>
                    have HTO : Hid (targF ⟨op, ⟨dk, dn⟩, src, goal, nn, live, name, cas, segs⟩ j = [(j : Int) + 1]) := Lib.hid (by unfold targF; rw [hE.out, hJ.out, if_neg (by simp), if_neg (by simp), if_neg H12.out, hF.out]; rfl)
                    obtain ⟨sx, cx, w3, hr1, s3, b3⟩ := lit23 (Sl.nil w1 m 3 1 inC) [(j : Int) + 1] (by simp) (by have := B.out.size; have := HM.out; omega)
                    rw [List.nil_append] at hr1 s3
                    have HR1 := Lib.hid hr1
                    have HS3 := Lib.hid s3
                    have HB3 := Lib.hid (B.out.trans (b3.mono (by have := HM.out; omega)))
                    clear hr1 s3 b3 B
                    go_wp2_with (at_builtin; refine wpList_append_run rfl _ _ 23 23 rfl rfl rfl HR1.out ?_)
                    go_meet
                    exact ⟨_, 1, _, _, rfl, by omega, HTO, Lib.hid rfl, HS3, HB3⟩
    case rest =>
      obtain ⟨S, N, C, toL, rfl, hN, HTO, HNT, HS7, HBW⟩ := hcut
      have HC0 : Hid (SlC wc (.slice none 0 0) (nxK l toL 0)) := Lib.hid (nil_slc _)
      go_wp2_with fail
      go_loopw [5, 9] (fun z5 z9 wr => ∃ (k : Nat), k ≤ N ∧ z9 = .int .i64 (k : Int) ∧ Hid (SlC wr z5 (nxK l toL k)) ∧ Hid (Sl wr m 3 1 inC (.slice S N C) toL) ∧ Hid (Below m w wr)) (fun _ z _ => N - (intOf z).toNat)
      case atStart => exact ⟨0, Nat.zero_le _, rfl, HC0, HS7, HBW⟩
      case round =>
        obtain ⟨k, hk, rfl, HC, HS, HB⟩ := hrel
        clear HC0 HS7 HBW
        by_cases hkn : k < N
        · have hkni : (k : Int) < (N : Int) := by omega
          have hkl : k < toL.length := by rw [← HNT.out]; exact hkn
          obtain ⟨g7, hg7⟩ : ∃ g : Nat, S = some ⟨g, 0, none⟩ := by
            rcases HS.out.form with ⟨e, e2⟩ | ⟨g, cap, e, _⟩
            · rw [e2] at hkl
              simp at hkl
            · simp only [Value.slice.injEq] at e
              exact ⟨g, e.1⟩
          subst hg7
          have ck := HS.out.cell in_len k 0 hkl (by omega)
          obtain ⟨x, hx⟩ : ∃ x, x = toL[k] := ⟨_, rfl⟩
          rw [← hx] at ck
          simp only [inC, List.getElem?_cons_zero, Nat.add_zero, Nat.mul_one] at ck
          have HST := Lib.hid (nxK_step l toL k hkl)
          rw [← hx] at HST
          clear hx hkl
          by_cases hr0 : 0 ≤ x
          · by_cases hrn : x < (n : Int)
            · have CI := Lib.hid (insert40 (nxK l toL k) x _ wr HC.out (up_asc _) (by have := nxK_len l toL k; have := HNT.out; omega))
              have HST2 : Hid (nxK l toL (k + 1) = insF (nxK l toL k) x) := Lib.hid (by
                have := HST.out
                rwa [if_pos (by unfold inR; rw [← HN.out, decide_eq_true hr0, decide_eq_true hrn]; rfl)] at this)
              clear HST HC
              go_wp2_with fail
              refine CI.out.mono ?_
              rintro e w2 ⟨b2, u, rfl, s2⟩
              rw [← HST2.out] at s2
              have HC2 := Lib.hid s2
              have HS2 := Lib.hid (HS.out.below b2 (fun g hg => (HS.out.lt g hg).2))
              have HB2 := Lib.hid (HB.out.trans (b2.mono (by have := HB.out.size; have := HM.out; omega)))
              clear b2 s2 CI ck HS HB
              go_wp2_with fail
              go_roundw
              case rel => exact ⟨k + 1, by omega, by go_num, HC2, HS2, HB2⟩
              case measure => simp [intOf]; omega
            · have HC2 := Lib.hid HC.out
              rw [← show nxK l toL (k + 1) = nxK l toL k by rw [HST.out, if_neg (by unfold inR; rw [← HN.out, decide_eq_false hrn, Bool.and_false]; simp)]] at HC2
              clear HST HC
              go_wp2_with fail
              go_roundw
              case rel => exact ⟨k + 1, by omega, by go_num, HC2, HS, HB⟩
              case measure => simp [intOf]; omega
          · have HC2 := Lib.hid HC.out
            rw [← show nxK l toL (k + 1) = nxK l toL k by rw [HST.out, if_neg (by unfold inR; rw [decide_eq_false hr0, Bool.false_and]; simp)]] at HC2
            clear HST HC
            go_wp2_with fail
            go_roundw
            case rel => exact ⟨k + 1, by omega, by go_num, HC2, HS, HB⟩
            case measure => simp [intOf]; omega
        · have hkni : ¬ (k : Int) < (N : Int) := by omega
          have hke : k = N := by omega
          have HC2 := Lib.hid HC.out
          rw [show nxK l toL k = nextF l j by
            rw [HTG.out, HTO.out]
            unfold nxK
            rw [List.take_of_length_le (by rw [hke, HNT.out]; exact Nat.le_refl _)]] at HC2
          clear hke HC
          go_wp2_with fail
          go_ret
          exact ⟨by rw [← HM.out]; exact HB.out, _, rfl, HC2.out⟩
  · have HNX : Hid (nextF l i = []) := Lib.hid (by
      unfold nextF
      rw [dif_neg (fun h => hi ⟨h.1, by have := h.2; have := HN.out; omega⟩)])
    by_cases h0 : 0 ≤ i
    · have h1 : ¬ i < (n : Int) := fun h => hi ⟨h0, h⟩
      clear hi
      go_enter Tryd.func17, Tryd.ntmps17
      go_wp2_with fail
      go_ret
      exact ⟨Below.refl _ _, _, rfl, by rw [HNX.out]; exact nil_slc _⟩
    · clear hi
      go_enter Tryd.func17, Tryd.ntmps17
      go_wp2_with fail
      go_ret
      exact ⟨Below.refl _ _, _, rfl, by rw [HNX.out]; exact nil_slc _⟩
end Go.Proofs.YtekfnonjhcfdmaaDoor
