/- flow.Next. -/
import Derived.Test.YtekfnonjhcfdmaaDoorTarg
import Derived.Test.YtekfnonjhcfdmaaDoorSorts
namespace Go.Proofs.YtekfnonjhcfdmaaDoor
open Go.RowKit Go.Shelf Go.Rt Go.Rw
attribute [local go_sem] Oper.semAt_some

/-- A list of numbers that is returned. -/
def NsR (L : List Int) (w : World) (e : Ending) (w' : World) : Prop := Below w.heap.size w w' ∧ ∃ v, e = .returned v ∧ Sl w' w.heap.size 3 1 inC v L
theorem sl_push_in {W : World} {B : Nat} {v : Value} {L : List Int} (h : Sl W B 3 1 inC v L) (a : Int) (b : Nat) (hb : Blk W b 3 (inC a).toArray) (hl : L.length + 1 ≤ 10000000000000) (hbase : B ≤ W.heap.size) :
    ∃ (g cap : Nat) (W2 : World), (Builtin.append_ #[23, 23] 23 #[v, .slice (some ⟨b, 0, none⟩) 1 1]).run Tryd.prog W = .ok (.slice (some ⟨g, 0, none⟩) (L.length + 1) cap) W2 ∧ Sl W2 B 3 1 inC (.slice (some ⟨g, 0, none⟩) (L.length + 1) cap) (L ++ [a]) ∧ W.grownBy W2 v.ownBlock ∧ (v.ownBlock = some g ∨ W.heap.size ≤ g) :=
  h.push (t := 23) (ty := 23) (bytes := 8) (z := .int .i64 0) Tryd.underlying23 (by kernel_rfl) (by rfl) (by decide) (fun _ => rfl) (fun a u hu => by simp [inC] at hu; rcases hu with rfl; rfl) a hb (by omega) (by omega) hbase 1
theorem grown_only {w w' : World} {row : Option Nat} (h : w.grownBy w' row) : Only row.toList w w' := Only.grown h (fun r hr => .inl (by simp [hr]))
theorem nin2 {a b : Nat} (h : a < b) : a ∉ [b, b + 1] := by simp; omega
/-- The loop's invariant. -/
structure NxI (w : World) (lv : Value) (b o : Nat) (f : Im) (i : Int) (L : List Int) (W : World) : Prop where
  bl : Boxed W w.heap.size 22 lv
  out : ∃ v, Boxed W (w.heap.size + 1) 23 v ∧ Sl W (w.heap.size + 6) 3 1 inC v L
  pre : TPre (w.heap.size + 2) (w.heap.size + 3) b o f i W
  below : Below w.heap.size w W
set_option maxRecDepth 100000 in
set_option maxHeartbeats 4000000 in
theorem next_in (l : List In) (sa : Option Addr) (cap : Nat) (i : Nat) (w : World) (h : InsAt w l (.slice sa l.length cap)) (hi : i < l.length) (hb1 : l.length ≤ 4611686018427387904) (hb2 : (targF l[i] i).length ≤ 9000000000000) :
    Calls Tryd.prog 16 #[.slice sa l.length cap, .int .i64 i] w (NsR (nextF l i) w) := by
  obtain ⟨b, o, rfl, hb, hc⟩ := h.get (by omega)
  obtain ⟨f, hf, hfa, hcell⟩ := hc i hi
  obtain ⟨n, hn⟩ : ∃ n, n = l.length := ⟨_, rfl⟩
  rw [← hn] at hb1 ⊢
  have HN := Lib.hid hn
  have HF := Lib.hid hf
  have HFA := Lib.hid hfa
  obtain ⟨NX, hnx⟩ : ∃ q, q = nextF l i := ⟨_, rfl⟩
  rw [← hnx]
  have hnx2 : NX = asc ((targF f.x i).filter (inR l)) := by rw [hnx]; unfold nextF; rw [dif_pos ⟨by omega, by simpa using hi⟩, hf]; simp
  have HNX := Lib.hid hnx2
  have hti : (i : Int) < (n : Int) := by omega
  rw [← hf] at hb2
  have HB2 := Lib.hid hb2
  have hi62 : (i : Int) ≤ 4611686018427387904 := by omega
  have HC := Lib.hid hcell
  clear hf hfa hnx hc hnx2 hb2 hcell hn
  refine (callsIn_wide (n := 3)).1 ?_
  refine callsIn_of_wp_marks Tryd.func16 rfl trivial ?_ rfl
  simp only [Tryd.ntmps16, List.size_toArray, List.length_cons, List.length_nil, Nat.reduceAdd, Nat.reduceSub, Array.replicate_succ, Array.replicate_zero, List.push_toArray, List.append_toArray, List.nil_append, List.cons_append]
  have hi0 : ¬ (i : Int) < 0 := by omega
  gi_wp2_with (refine ⟨trivial, ?_⟩; gi_at_call 36; refine (targ36 Fence.wide _ trivial rfl _ _ _ _).mono ?_; rintro e w' ⟨rfl, rfl⟩)
  obtain ⟨W0, hW0⟩ : ∃ W0, (((w.alloc (.cells #[.slice (some ⟨b, o, none⟩) n cap] 22)).alloc (.cells #[.slice none 0 0] 23)).alloc (.cells #[.pointer (some ⟨b, o + i * 10, none⟩)] 67)).alloc (.cells #[.int .i64 i] 3) = W0 := ⟨_, rfl⟩
  have hsz : W0.heap.size = w.heap.size + 4 := by rw [← hW0]; simp
  have hB0 : Below w.heap.size w W0 := by
    rw [← hW0]; exact ((((Below.refl _ w).alloc (Nat.le_refl _) _).alloc (by simp) _).alloc (by simp; omega) _).alloc (by simp; omega) _
  have I0 : NxI w (.slice (some ⟨b, o, none⟩) n cap) b (o + i * 10) f i [] W0 := by
    refine ⟨?_, ⟨_, ?_, Sl.nil _ _ _ _ _⟩, ⟨?_, ?_, ?_, ?_⟩, hB0⟩
    · rw [← hW0]; exact (((Boxed.new w 22 _).alloc _).alloc _).alloc _
    · rw [← hW0]; have := Boxed.new (w.alloc (.cells #[.slice (some ⟨b, o, none⟩) n cap] 22)) 23 (.slice none 0 0); rw [World.size_alloc] at this; exact (this.alloc _).alloc _
    · rw [← hW0]; have := Boxed.new ((w.alloc (.cells #[.slice (some ⟨b, o, none⟩) n cap] 22)).alloc (.cells #[.slice none 0 0] 23)) 67 (.pointer (some ⟨b, o + i * 10, none⟩)); rw [World.size_alloc, World.size_alloc] at this; exact this.alloc _
    · rw [← hW0]; have := Boxed.new (((w.alloc (.cells #[.slice (some ⟨b, o, none⟩) n cap] 22)).alloc (.cells #[.slice none 0 0] 23)).alloc (.cells #[.pointer (some ⟨b, o + i * 10, none⟩)] 67)) 3 (.int .i64 i); rw [World.size_alloc, World.size_alloc, World.size_alloc] at this; exact this
    · intro j hj
      rw [← HC.out j hj]
      exact hB0.cell (p := ⟨b, _, none⟩) hb
    · exact HFA.out.cases.keep hB0
  rw [hW0]
  clear hW0
  have HH := Lib.hid h
  refine' wpIn_rangeFunc_P (F := Fence.wide) (n := 3) rfl (by omega) (gf := 59) (lb := #[.pointer (some ⟨w.heap.size + 2, 0, none⟩), .pointer (some ⟨w.heap.size + 3, 0, none⟩)]) rfl trivial (enters_of Tryd.func59 (by kernel_rfl) rfl)
    (targ_reads Fence.wide (3 - 1) trivial rfl (by omega) (w.heap.size + 2) (w.heap.size + 3) b (o + i * 10) f i (by omega) hi62)
    (fun _ => rfl)
    (fun k W => NxI w (.slice (some ⟨b, o, none⟩) n cap) b (o + i * 10) f i (((targF f.x i).take k).filter (inR l)) W) (fun _ _ _ => False) ?abides (fun _ _ _ _ h _ => h) (fun _ _ h => h.pre) (by simpa using I0)
    _ ?assign ?body ?done ?stop
  case assign =>
    intro l' x W K hK
    gi_wp2
    exact hK
  case abides =>
    intro k A B hk ho
    rw [hsz] at ho
    have hwA := hk.below.size
    have hlo : ∀ r ∈ [w.heap.size + 4, w.heap.size + 4 + 1], w.heap.size ≤ r := by intro r hr; simp only [List.mem_cons, List.not_mem_nil, or_false] at hr; rcases hr with rfl | rfl <;> omega
    obtain ⟨v, h1, h2⟩ := hk.out
    refine ⟨(ho.block _ hk.bl.lt (nin2 (by omega))).trans hk.bl, ⟨v, (ho.block _ h1.lt (nin2 (by omega))).trans h1, h2.only ho ?_⟩, hk.pre.later HFA.out.cases hb hwA ho hlo (nin2 (by omega)) (nin2 (by omega)), hk.below.trans (ho.below hlo hwA)⟩
    intro g hg hm
    have := (h2.lt g hg).1
    simp only [List.mem_cons, List.not_mem_nil, or_false] at hm
    omega
  case body =>
    rintro l' k hk W hI hz
    have hkx : k < (targF f.x i).length := hk
    obtain ⟨x, hx⟩ : ∃ x, x = (targF f.x i)[k] := ⟨_, rfl⟩
    rw [← hx]
    have htk : Hid ((targF f.x i).take (k + 1) = (targF f.x i).take k ++ [x]) := Lib.hid (by rw [List.take_succ_eq_append_getElem hkx, hx])
    have HI := Lib.hid hI
    have cl := hI.bl.cell
    clear hx
    by_cases hr : inR l x = true
    · have hr2 : 0 ≤ x ∧ x < (n : Int) := by unfold inR at hr; rw [HN.out]; simpa using hr
      obtain ⟨hr0, hr1⟩ := hr2
      obtain ⟨v, h1, h2⟩ := hI.out
      obtain ⟨A, hA⟩ : ∃ A, A = ((targF f.x i).take k).filter (inR l) := ⟨_, rfl⟩
      rw [← hA] at h2
      have hAl : A.length + 1 ≤ 10000000000000 := by
        have a1 := List.length_filter_le (inR l) ((targF f.x i).take k)
        have a2 := List.length_take_le k (targF f.x i)
        have a3 := HB2.out
        rw [hA]
        omega
      obtain ⟨sa, co, hv⟩ : ∃ sa co, v = .slice sa A.length co := by
        rcases h2.form with ⟨rfl, q⟩ | ⟨g0, cap0, rfl, _⟩
        · exact ⟨none, 0, by rw [q]; rfl⟩
        · exact ⟨_, _, rfl⟩
      subst hv
      rw [hsz] at hz
      have hwW := hI.below.size
      obtain ⟨g, cap2, W2, hrun, sl2, hgrow, hwh⟩ := sl_push_in (h2.only (bs := []) (Only.alloc [] W (.cells #[.int .i64 x] 3)) (fun g hg hm => by cases hm)) x W.heap.size (Blk.new W 3 _) hAl (by simp; omega)
      obtain ⟨a1, a2, _, _, _⟩ := Boxed.appended (n₀ := w.heap.size + 1) h1 (by decide) (Sl.mono h2 (by omega)) (by omega) (by omega) (Sl.mono sl2 (by omega)) hgrow
      have hgge : w.heap.size + 6 ≤ g := (sl2.lt g rfl).1
      have og : Only ((w.heap.size + 1) :: (Value.slice sa A.length co).ownBlock.toList) W (W2.setCell ⟨w.heap.size + 1, 0, none⟩ (.slice (some ⟨g, 0, none⟩) (A.length + 1) cap2)) :=
        (((Only.alloc _ _ _).trans (grown_only hgrow)).mono (fun b hb => .inl (by simp only [List.mem_cons]; exact .inr hb))).trans (Only.setCell _ _ _ (by simp))
      have hown : ∀ r ∈ (w.heap.size + 1) :: (Value.slice sa A.length co).ownBlock.toList, r = w.heap.size + 1 ∨ w.heap.size + 6 ≤ r := by
        intro r hr
        simp only [List.mem_cons, Option.mem_toList] at hr
        rcases hr with rfl | hr
        · exact .inl rfl
        · exact .inr (h2.lt r hr).1
      have hno : ∀ r, r < w.heap.size + 6 → r ≠ w.heap.size + 1 → r ∉ (w.heap.size + 1) :: (Value.slice sa A.length co).ownBlock.toList := fun r h1 h2 hm => by have := hown r hm; omega
      have fin : Hid ((_ ∧ _) ∧ NxI w (.slice (some ⟨b, o, none⟩) n cap) b (o + i * 10) f i (((targF f.x i).take (k + 1)).filter (inR l)) (W2.setCell ⟨w.heap.size + 1, 0, none⟩ (.slice (some ⟨g, 0, none⟩) (A.length + 1) cap2))) := Lib.hid (by
        refine ⟨⟨og.block (w.heap.size + 4) (by omega) (hno _ (by omega) (by omega)), og.block (w.heap.size + 4 + 1) (by omega) (hno _ (by omega) (by omega))⟩, ?_, ⟨_, a2, ?_⟩, ?_, ?_⟩
        · exact (og.block _ hI.bl.lt (hno _ (by omega) (by omega))).trans hI.bl
        · rw [htk.out, List.filter_append, ← hA, show [x].filter (inR l) = [x] by simp [hr]]
          have := sl2.only (Only.setCell (bs := [w.heap.size + 1]) W2 ⟨w.heap.size + 1, 0, none⟩ (.slice (some ⟨g, 0, none⟩) (A.length + 1) cap2) (by simp)) (fun g' hg' hm => by
            simp [Value.ownBlock] at hg' hm; omega)
          exact this
        · exact hI.pre.later HFA.out.cases hb hwW og (fun r hr => by have := hown r hr; omega) (hno _ (by omega) (by omega)) (hno _ (by omega) (by omega))
        · exact hI.below.trans (og.below (fun r hr => by have := hown r hr; omega) hwW))
      have c1 := h1.cell
      have d1 := a1.cell
      have d2 := a1.frozen
      have HRN := Lib.hid hrun
      have hcu : (1 : Nat) ≤ 3 := by omega
      rw [hsz]
      clear h1 h2 a1 a2 hrun sl2 hgrow hwh og hown hno hr HI hI hA
      gi_wp2_with (gi_at_builtin; refine wpListIn_append_run rfl _ _ 23 23 rfl rfl rfl HRN.out ?_)
      exact fin.out
    · have hr' : inR l x = false := by simpa using hr
      have hI' : NxI w (.slice (some ⟨b, o, none⟩) n cap) b (o + i * 10) f i (((targF f.x i).take (k + 1)).filter (inR l)) W := by
        rw [htk.out, List.filter_append, show [x].filter (inR l) = [] by simp [hr'], List.append_nil]
        exact HI.out
      have HI' := Lib.hid hI'
      by_cases hx0 : 0 ≤ x
      · have hx1 : ¬ x < (n : Int) := by
          intro q
          unfold inR at hr'
          rw [← HN.out] at hr'
          simp [hx0, q] at hr'
        clear hr hr' hI hI'
        gi_wp2
        exact ⟨⟨rfl, rfl⟩, HI'.out⟩
      · clear hr hr' hI hI'
        gi_wp2
        exact ⟨⟨rfl, rfl⟩, HI'.out⟩
  case done =>
    intro W hz hI hD
    rw [List.take_of_length_le (Nat.le_refl _)] at hI
    rw [hsz] at hz hD ⊢
    obtain ⟨A, hA⟩ : ∃ A, A = (targF f.x i).filter (inR l) := ⟨_, rfl⟩
    rw [← hA] at hI
    have hAl : A.length ≤ 9000000000000 := by rw [hA]; have := List.length_filter_le (inR l) (targF f.x i); have := HB2.out; omega
    obtain ⟨v, h1, h2⟩ := hI.out
    have HNX' : Hid (NX = Lib.compact (A.mergeSort fun x y => decide (x ≤ y))) := Lib.hid (by rw [HNX.out, compact_sort, hA])
    have HB := Lib.hid hI.below
    have c1 := h1.cell
    have HS := Lib.hid h2
    have HO := Lib.hid h1
    have HD := Lib.hid hD
    have hwW := hI.below.size
    clear hI h1 h2 hA hD HH h I0
    gi_wp2_with fail
    refine ⟨trivial, ?_⟩
    refine (callsIn_wide.2 (sort33 HS.out (by omega))).mono ?_
    rintro e W1 ⟨rfl, s1, g1⟩
    have O1 := Lib.hid (HO.out.kept g1 (HO.out.not_row (by decide) HS.out))
    have D1 : Hid (W1.heap[w.heap.size + 4]? = some (.deferred (some []))) := Lib.hid ((g1.block _ (by omega) (fun q => by have := (HS.out.lt _ q.symm).1; omega)).trans HD.out)
    have B1 : Hid (Below w.heap.size w W1) := Lib.hid (HB.out.grown g1 hwW (fun r hr => by have := (HS.out.lt r hr).1; omega))
    have hw1 := g1.size
    have S1 := Lib.hid s1
    have c2 := O1.out.cell
    have hl1 : (A.mergeSort fun x y => decide (x ≤ y)).length ≤ 1000000000000000 := by rw [List.length_mergeSort]; omega
    obtain ⟨M, hM⟩ : ∃ M, M = A.mergeSort fun x y => decide (x ≤ y) := ⟨_, rfl⟩
    rw [← hM] at S1 hl1 HNX'
    clear s1 g1 HS HO HB HD c1 hM
    gi_wp2_with fail
    refine ⟨trivial, ?_⟩
    refine (callsIn_wide.2 (comp34 S1.out hl1)).mono ?_
    rintro e W2 ⟨v2, rfl, s2, o2, g2⟩
    have S2 := Lib.hid s2
    have D2 : W2.heap[w.heap.size + 4]? = some (.deferred (some [])) := (g2.block _ (by omega) (fun q => by have := (S1.out.lt _ q.symm).1; omega)).trans D1.out
    have B2 : Hid (Below w.heap.size w W2) := Lib.hid (B1.out.grown g2 (by omega) (fun r hr => by have := (S1.out.lt r hr).1; omega))
    have F2 : Hid (∀ ob, NsR NX w (.returned v2) (W2.putObj (w.heap.size + 4) ob)) := Lib.hid (by
      intro ob
      have hoff : w.heap.size ≤ W2.heap.size := by have := g2.size; omega
      refine ⟨B2.out.trans ((Only.putObj (bs := [w.heap.size + 4]) _ _ _ (by simp)).below (by intro r hr; simp at hr; omega) hoff), v2, rfl, ?_⟩
      rw [HNX'.out]
      exact (s2.only (Only.putObj (bs := [w.heap.size + 4]) _ _ _ (by simp)) (fun g' hg' hm => by have := (s2.lt g' hg').1; simp at hm; omega)).mono (by omega))
    clear s2 o2 g2 S1 B1 D1 O1 S2 B2 c2
    gi_wp2_with fail
    refine ⟨by simp, .inl ⟨_, _, rfl, run_takeDeferred D2, ?_⟩⟩
    exact ⟨v2, results_tmp (fn := Tryd.f16) (t := 4) rfl _ _ _, F2.out _⟩
  case stop =>
    intro c k W _ _ h _
    exact h.elim
set_option maxRecDepth 100000 in
set_option maxHeartbeats 4000000 in
/-- Next out of range. -/
theorem next_out (n : Nat) (sa : Option Addr) (cap : Nat) (i : Int) (w : World) (hi : ¬ (0 ≤ i ∧ i < n)) :
    Calls Tryd.prog 16 #[.slice sa n cap, .int .i64 i] w (NsR [] w) := by
  have B0 := Lib.hid ((Below.refl w.heap.size w).alloc (Nat.le_refl _) (.cells #[.slice sa n cap] 22))
  by_cases h0 : i < 0
  · clear hi
    go_enter Tryd.func16, Tryd.ntmps16
    go_wp2_with fail
    go_ret
    exact ⟨B0.out, _, rfl, Sl.nil _ _ _ _ _⟩
  · have h1 : (n : Int) ≤ i := by omega
    clear hi
    go_enter Tryd.func16, Tryd.ntmps16
    go_wp2_with fail
    go_ret
    exact ⟨B0.out, _, rfl, Sl.nil _ _ _ _ _⟩
theorem targF_len (x : In) (i : Int) : (targF x i).length ≤ x.cases.length + 2 := by
  unfold targF
  split
  · simp
  · split
    · simp
    · split
      · simp
      · split <;> simp
/-- Next. -/
theorem next16 (l : List In) (v : Value) (i : Int) (w : World) (h : InsAt w l v) (hb1 : l.length ≤ 4611686018427387904) (hb2 : ∀ x ∈ l, x.cases.length ≤ 8999999999998) :
    Calls Tryd.prog 16 #[v, .int .i64 i] w (NsR (nextF l i) w) := by
  obtain ⟨_, sa, cap, rfl⟩ := h.form
  by_cases hi : 0 ≤ i ∧ i < l.length
  · obtain ⟨k, rfl⟩ := Int.eq_ofNat_of_zero_le hi.1
    have hk : k < l.length := by omega
    refine next_in l sa cap k w h hk hb1 ?_
    have := hb2 l[k] (List.getElem_mem _)
    have := targF_len l[k] k
    omega
  · have e : nextF l i = [] := by unfold nextF; rw [dif_neg (fun q => hi ⟨q.1, by have := q.2; omega⟩)]
    rw [e]
    exact next_out _ _ _ i w hi
end Go.Proofs.YtekfnonjhcfdmaaDoor
