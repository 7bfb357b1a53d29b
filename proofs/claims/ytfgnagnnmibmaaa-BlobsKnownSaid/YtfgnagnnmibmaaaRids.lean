/- The reference's IDs, and stagehandkit.SameInts; the real IDs as an owned list. -/
import Derived.Test.YtfgnagnnmibmaaaIds
import Derived.Test.YtfgnagnnmibmaaaRget
import Derived.Test.YtfgnagnnmibmaaaLists
namespace Go.Proofs.Ytfgnagnnmibmaaa
open Go.RowKit Go.Mp Go.Rw

abbrev iv : Int → List Value := fun n => [intV n]
theorem iv_len (a : Int) : (iv a).length = 1 := rfl
theorem iv_one (a : Int) : ∀ u ∈ iv a, u.oneCell' = true := by intro u hu; simp [iv] at hu; subst hu; rfl
theorem info3 : (Try.prog.info? 3).map (fun i => (i.zero, i.size, i.bytes)) = some (some (.int .i64 0), 1, 8) := by kernel_rfl
theorem u46 : Try.prog.underlying 46 = some (.slice 3) := by kernel_rfl
def idL (L : List Blob) : List Int := L.map (fun b => b.1)
theorem iv_flat (L : List Blob) : (idL L).flatMap iv = L.map (fun b => intV b.1) := by
  induction L with
  | nil => rfl
  | cons b r ih => simp only [idL, List.map_cons, List.flatMap_cons] at *; rw [ih]; rfl
theorem idL_len (L : List Blob) : (idL L).length = L.length := by simp [idL]

theorem real_ids {B m1 m2 : Nat} {L : List Blob} {g : Int} {n : Nat} (w : World) (h : SL w B m1 m2 L g) (hi : Inv L g n) (hn : n ≤ 1000000) :
    Calls Try.prog 19 #[.pointer (some ⟨B, 0, none⟩)] w fun e w' => ∃ v : Value, e = .returned v ∧ Sl w' w.heap.size 3 1 iv v (idL L) ∧ Below w.heap.size w w' := by
  refine (ids_any w h hi hn).mono fun e w' ⟨v, h1, h2, _, h4⟩ => ⟨v, h1, ?_, h4⟩
  unfold Sl
  rw [iv_flat, idL_len]
  exact h2

theorem RA.below {w w' : World} {base R : Nat} {v : Value} {L : List Blob} {g : Int} (hv : RA w base R v L g) (hb : Below w.heap.size w w') : RA w' base R v L g := by
  refine ⟨(hb.block R hv.lt).trans hv.blk, hv.row.kept (row := none) ⟨hb.os, hb.tape, hb.output, hb.size, fun k hk _ => hb.block k hk⟩ ?_, hv.le⟩
  rcases hv.row.2 with ⟨rfl, _⟩ | ⟨g, cap, cur, rfl, _⟩
  · exact .inl rfl
  · exact .inr (by simp [Value.ownBlock])

set_option maxHeartbeats 1000000 in
theorem ref_ids {base R : Nat} {v : Value} {L : List Blob} {g : Int} (w : World) (h : RA w base R v L g) (hn : L.length ≤ 1000000) :
    Calls Try.prog 20 #[.pointer (some ⟨R, 0, none⟩)] w fun e w' => ∃ v : Value, e = .returned v ∧ Sl w' w.heap.size 3 1 iv v (idL L) ∧ Below w.heap.size w w' := by
  have c0 := h.c0
  have HR := Lib.hid h
  rcases h.val with ⟨rfl, rfl⟩ | ⟨b, cap, rfl, hlc, hcm, hbb, hbl, hbR⟩
  · go_enter Try.func20, Try.ntmps20
    go_wp2
    refine wp_loop_rounds 1 ?_
    rw [rounds_succ]
    go_wp2
    go_ret
    exact ⟨_, rfl, Sl.nil _ _ _ _ _, Below.refl _ _⟩
  · unfold maxLen at hcm
    clear c0 h
    go_enter Try.func20, Try.ntmps20
    go_wp2
    go_loopw [3, 4] (fun s i wr => ∃ k : Nat, k ≤ L.length ∧ i = .int .i64 k ∧ Sl wr w.heap.size 3 1 iv s (idL (L.take k)) ∧ Below w.heap.size w wr) (fun _ i _ => L.length - (intOf i).toNat)
    case atStart => exact ⟨0, Nat.zero_le _, rfl, Sl.nil _ _ _ _ _, Below.refl _ _⟩
    case round =>
      obtain ⟨k, hk, rfl, s1, b1⟩ := hrel
      have hr := HR.out.below b1
      have c0 := hr.c0
      have hw0 := b1.size
      by_cases hlt : k < L.length
      · have hc := hr.at k 0 hlt (by omega)
        simp only [bc, List.getElem?_cons_zero, Nat.add_zero] at hc
        have hkl : (idL (L.take k)).length = k := by rw [idL_len, List.length_take]; omega
        have hnx : idL (L.take (k + 1)) = idL (L.take k) ++ [L[k].1] := by unfold idL; rw [List.take_succ_eq_append_getElem hlt, List.map_append]; rfl
        obtain ⟨x, hx⟩ : ∃ x, x = L[k].1 := ⟨_, rfl⟩
        rw [← hx] at hc hnx
        have s2 := s1.below (w' := wr.alloc (.cells (iv x).toArray 3)) ((Below.refl wr.heap.size wr).alloc (Nat.le_refl _) _) (fun g hg => (s1.lt g hg).2)
        obtain ⟨g, cg, W2, hrun, s3, hgrow, hwhere⟩ := Sl.push (P := Try.prog) (t := 46) (ty := 46) s2 u46 info3 rfl (by omega) iv_len iv_one x (World.alloc_heap_new wr _) (by rw [hkl]; omega) (by rw [hkl]; omega) (by simp; omega) 1
        rw [hkl] at hrun s3
        have HS3 : Hid (Sl W2 w.heap.size 3 1 iv (.slice (some ⟨g, 0, none⟩) (k + 1) cg) (idL (L.take (k + 1)))) := by refine Lib.hid ?_; rw [hnx]; exact s3
        have HB3 : Hid (Below w.heap.size w W2) := Lib.hid (b1.trans (((Below.refl w.heap.size wr).alloc hw0 _).grown hgrow (by simp; omega) (fun r hr => (s1.lt r hr).1)))
        simp only [iv] at hrun
        have HRN := Lib.hid hrun
        clear hrun s3 s2 hgrow hwhere s1 b1 hx hnx hr
        have HH := HRN.out
        go_wp2_with (at_builtin; refine Go.Rw.wpList_append_run rfl _ _ 46 46 rfl rfl rfl HH ?_)
        go_roundw
        case rel => exact ⟨k + 1, by omega, by go_num, HS3.out, HB3.out⟩
        case measure => simp [intOf]; omega
      · obtain rfl : k = L.length := by omega
        rw [List.take_length] at s1
        have HS1 := Lib.hid s1
        have HB1 := Lib.hid b1
        clear s1 b1 hr
        go_wp2
        go_ret
        exact ⟨_, rfl, HS1.out, HB1.out⟩

theorem below_drewN {n : Nat} {a b : World} (h : Below n a b) (k : Nat) : Below n a (b.drewN k) := ⟨h.os, h.tape, h.output, h.size, h.block⟩
theorem SlAt.below {α : Type} {c : α → List Value} {m : Nat} {v : Value} {l : List α} {w w' : World} (h : SlAt w m c v l) (hb : Below w.heap.size w w') : SlAt w' m c v l := by
  rcases h with h | ⟨b, o, cap, h1, h2, h3, h4⟩
  · exact .inl h
  · refine .inr ⟨b, o, cap, h1, h2, Nat.lt_of_lt_of_le h3 hb.size, fun i j hi hj => ?_⟩
    rw [← h4 i j hi hj]
    simp only [World.cell?]
    rw [hb.block b h3]

set_option maxHeartbeats 1000000 in
theorem same_any {v1 v2 : Value} {l : List Int} (w : World) (h1 : SlAt w 1 iv v1 l) (h2 : SlAt w 1 iv v2 l) (hl : l.length ≤ 1000000) :
    Calls Try.prog 18 #[v1, v2] w fun e w' => e = .returned (.bool true) ∧ Below w.heap.size w w' := by
  obtain ⟨_, sa1, cap1, rfl⟩ := h1.len
  obtain ⟨_, sa2, cap2, rfl⟩ := h2.len
  have H1 := Lib.hid h1
  have H2 := Lib.hid h2
  clear h1 h2
  go_enter Try.func18, Try.ntmps18
  go_wp2
  go_loopw [5] (fun i wr => ∃ k : Nat, k ≤ l.length ∧ i = .int .i64 k ∧ Below w.heap.size w wr) (fun i _ => l.length - (intOf i).toNat)
  case atStart => exact ⟨0, Nat.zero_le _, rfl, Below.refl _ _⟩
  case round =>
    obtain ⟨k, hk, rfl, b0⟩ := hrel
    have B0 := Lib.hid b0
    by_cases hlt : k < l.length
    · obtain ⟨b1, o1, rfl, _, q1⟩ := (SlAt.below H1.out b0).get (by omega)
      obtain ⟨b2, o2, rfl, _, q2⟩ := (SlAt.below H2.out b0).get (by omega)
      have e1 := q1 k 0 hlt (by omega)
      have e2 := q2 k 0 hlt (by omega)
      simp only [iv, List.getElem?_cons_zero, Nat.add_zero, Nat.mul_one] at e1 e2
      obtain ⟨x, hx⟩ : ∃ x, x = l[k] := ⟨_, rfl⟩
      rw [← hx] at e1 e2
      clear q1 q2 hx b0
      have hne : (x != x) = false := by simp
      go_wp2_with fail
      go_quiet (fail)
      go_wp2
      go_roundw
      case rel => exact ⟨k + 1, by omega, by go_num, below_drewN B0.out nq⟩
      case measure => simp [intOf]; omega
    · clear b0
      go_wp2
      go_ret
      exact ⟨rfl, B0.out⟩

end Go.Proofs.Ytfgnagnnmibmaaa
