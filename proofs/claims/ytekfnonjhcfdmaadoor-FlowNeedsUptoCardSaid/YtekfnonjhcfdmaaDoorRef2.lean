/- Plain: the reference's search over a queue; what is still owed. The reference's after. The reference's pass. Plain: the reference's search for the open handlers. -/
import Derived.Test.YtekfnonjhcfdmaaDoorFam1
import Derived.Test.YtekfnonjhcfdmaaDoorWalk1
import Derived.Test.YtekfnonjhcfdmaaDoorRef1
import Derived.Test.YtekfnonjhcfdmaaDoorNest1
namespace Go.Proofs.YtekfnonjhcfdmaaDoor
open Go.RowKit Go.Rt Go.Rw

/-- What an instruction may add to the queue, and one more. -/
def wtI (l : List In) (i : Nat) : Nat := if h : i < l.length then (targF l[i] i).length + 2 else 0
/-- What the instructions that are not marked may still add. -/
def owe (l : List In) (Q : Nat → Bool) : Nat := sumN (fun i => if Q i then 0 else wtI l i) l.length
theorem sumN_swap {f g : Nat → Nat} {i : Nat} (h : ∀ k, k ≠ i → f k = g k) : ∀ n, i < n → sumN f n + g i = sumN g n + f i
  | 0, hi => by omega
  | n + 1, hi => by
    rw [sumN, sumN]
    by_cases e : i = n
    · subst e
      rw [sumN_congr i (fun k hk => h k (by omega))]
      omega
    · have h1 := sumN_swap h n (by omega)
      have h2 := h n (fun q => e q.symm)
      omega
theorem owe_mark {l : List In} {Q : Nat → Bool} {i : Nat} (hi : i < l.length) (hq : Q i = false) : owe l (setB Q i) + wtI l i = owe l Q := by
  have := sumN_swap (f := fun k => if setB Q i k then 0 else wtI l k) (g := fun k => if Q k then 0 else wtI l k) (i := i) (fun k hk => by simp [setB, hk]) l.length hi
  simp only [hq, setB] at this
  unfold owe
  simpa [setB] using this
theorem targ_len (x : In) (i : Int) : (targF x i).length ≤ x.cases.length + 2 := by
  unfold targF
  split
  · simp
  · split
    · simp
    · split
      · simp
      · split <;> simp
theorem next_len (l : List In) (i : Nat) (h : i < l.length) : (nextF l i).length ≤ (targF l[i] i).length := by
  unfold nextF
  rw [dif_pos ⟨by omega, by simpa using h⟩]
  exact Nat.le_trans (asc_len _) (by simpa using List.length_filter_le _ _)
/-- The state of the reference's search: the queue is read up to k. -/
structure QI (l : List In) (fr : List Int) (Q : Nat → Bool) (O : List Int) (k : Nat) : Prop where
  sound : ∀ x ∈ O, ∃ j : Nat, x = j ∧ j < l.length ∧ Rch l fr j
  entry : ∀ i : Nat, (i : Int) ∈ fr → i < l.length → (i : Int) ∈ O
  mark : ∀ i, Q i = true → Rch l fr i
  done : ∀ i (hi : i < O.length), i < k → ∀ j : Nat, O[i] = j → Q j = true
  step : ∀ i (hi : i < l.length), Q i = true → ∀ j : Nat, j < l.length → (j : Int) ∈ targF l[i] i → (j : Int) ∈ O
  hand : ∀ i (hi : i < l.length), Q i = true → ∀ j : Nat, j < l.length → l[i].op = 28 → l[i].to = j → (j : Int) ∈ O
theorem QI.start (l : List In) (fr : List Int) : QI l fr (fun _ => false) (fr.filter (inR l)) 0 where
  sound := fun x hx => by
    obtain ⟨h1, h2⟩ := List.mem_filter.1 hx
    unfold inR at h2
    simp only [Bool.and_eq_true, decide_eq_true_eq] at h2
    obtain ⟨j, rfl⟩ : ∃ j : Nat, x = j := ⟨x.toNat, by omega⟩
    exact ⟨j, rfl, by omega, .entry j h1 (by omega)⟩
  entry := fun i hi hl => List.mem_filter.2 ⟨hi, by unfold inR; simp [hl]⟩
  mark := fun _ h => by cases h
  done := fun _ _ h => by omega
  step := fun _ _ h => by cases h
  hand := fun _ _ h => by cases h
theorem QI.skip {l : List In} {fr : List Int} {Q : Nat → Bool} {O : List Int} {k j : Nat} (h : QI l fr Q O k) (hk : k < O.length) (hj : O[k] = j) (hq : Q j = true) : QI l fr Q O (k + 1) :=
  ⟨h.sound, h.entry, h.mark, fun i hi hik t ht => by
    rcases Nat.lt_succ_iff_lt_or_eq.1 hik with e | e
    · exact h.done i hi e t ht
    · subst e
      rw [hj] at ht
      have : j = t := by omega
      subst this
      exact hq, h.step, h.hand⟩
/-- What a marked instruction adds. -/
def addQ (l : List In) (j : Nat) : List Int := nextF l j ++ (if h : j < l.length then (if handB l[j].op l[j].to l.length then [l[j].to] else []) else [])
theorem addQ_len (l : List In) (j : Nat) (h : j < l.length) : (addQ l j).length + 1 ≤ wtI l j := by
  have := next_len l j h
  unfold addQ wtI
  rw [List.length_append, dif_pos h, dif_pos h]
  split <;> simp <;> omega
theorem QI.pop {l : List In} {fr : List Int} {Q : Nat → Bool} {O : List Int} {k j : Nat} (h : QI l fr Q O k) (hk : k < O.length) (hj : O[k] = j) (hl : j < l.length) : QI l fr (setB Q j) (O ++ addQ l j) (k + 1) := by
  have hr : Rch l fr j := by
    obtain ⟨t, e, _, r⟩ := h.sound _ (List.getElem_mem hk)
    rw [hj] at e
    have : j = t := by omega
    rwa [this]
  have hset : ∀ i, setB Q j i = true → i = j ∨ Q i = true := fun i hi => by
    unfold setB at hi
    split at hi
    · exact .inl ‹_›
    · exact .inr hi
  have hle : ∀ i, Q i = true → setB Q j i = true := fun i hi => by
    unfold setB
    split
    · rfl
    · exact hi
  refine ⟨fun x hx => ?_, fun i h1 h2 => List.mem_append_left _ (h.entry i h1 h2), fun i hi => ?_, fun i hi hik t ht => ?_, fun i hi hq t ht hm => ?_, fun i hi hq t ht h1 h2 => ?_⟩
  · rcases List.mem_append.1 hx with hx | hx
    · exact h.sound x hx
    · unfold addQ at hx
      rw [dif_pos hl] at hx
      rcases List.mem_append.1 hx with hx | hx
      · obtain ⟨⟨q1, q2⟩, q3⟩ := (mem_nextF l j hl x).1 hx
        obtain ⟨t, rfl⟩ : ∃ t : Nat, x = t := ⟨x.toNat, by omega⟩
        exact ⟨t, rfl, by omega, .step j t hl hr (by omega) q3⟩
      · split at hx
        · rename_i hb
          unfold handB at hb
          simp only [Bool.and_eq_true, decide_eq_true_eq] at hb
          rw [List.mem_singleton] at hx
          obtain ⟨t, ht⟩ : ∃ t : Nat, x = t := ⟨x.toNat, by omega⟩
          exact ⟨t, ht, by omega, .hand j t hl hr (by omega) hb.1 (by omega)⟩
        · cases hx
  · rcases hset i hi with rfl | q
    · exact hr
    · exact h.mark i q
  · rcases Nat.lt_succ_iff_lt_or_eq.1 hik with e | e
    · rw [List.getElem_append_left (by omega)] at ht
      exact hle t (h.done i (by omega) e t ht)
    · subst e
      rw [List.getElem_append_left hk, hj] at ht
      have : t = j := by omega
      subst this
      simp [setB]
  · rcases hset i hq with rfl | q
    · refine List.mem_append_right _ (List.mem_append_left _ ((mem_nextF l i hl t).2 ⟨⟨by omega, by omega⟩, hm⟩))
    · exact List.mem_append_left _ (h.step i hi q t ht hm)
  · rcases hset i hq with rfl | q
    · refine List.mem_append_right _ (List.mem_append_right _ ?_)
      rw [dif_pos hl, if_pos, h2]
      · exact List.mem_singleton.2 rfl
      · unfold handB
        rw [h1, h2]
        simp [ht]
    · exact List.mem_append_left _ (h.hand i hi q t ht h1 h2)
/-- All is read: what is marked can be reached, and nothing else. -/
theorem QI.fin {l : List In} {fr : List Int} {Q : Nat → Bool} {O : List Int} {k : Nat} (h : QI l fr Q O k) (hk : O.length ≤ k) (i : Nat) : Q i = true ↔ Rch l fr i := by
  have hm : ∀ j : Nat, (j : Int) ∈ O → Q j = true := fun j hj => by
    obtain ⟨t, ht, e⟩ := List.getElem_of_mem hj
    exact h.done t ht (by omega) j e
  exact ⟨h.mark i, Rch.sub (fun i => Q i = true) (fun i h1 h2 => hm i (h.entry i h1 h2)) (fun i j hi hs hj ht => hm j (h.step i hi hs j hj ht)) (fun i j hi hs hj h1 h2 => hm j (h.hand i hi hs j hj h1 h2)) i⟩
theorem wtI_le (l : List In) (i : Nat) (h : i < l.length) : wtI l i ≤ l[i].cases.length + 4 := by
  have := targ_len l[i] i
  unfold wtI
  rw [dif_pos h]
  omega
theorem sumN_bound {f : Nat → Nat} {M : Nat} : ∀ n, (∀ i, i < n → f i ≤ M) → sumN f n ≤ n * M
  | 0, _ => by simp [sumN]
  | n + 1, h => by
    have h1 := sumN_bound n (fun i hi => h i (by omega))
    have h2 := h n (by omega)
    rw [sumN, Nat.succ_mul]
    omega
end Go.Proofs.YtekfnonjhcfdmaaDoor
namespace Go.Proofs.YtekfnonjhcfdmaaDoor
open Go.RowKit Go.Rt Go.Rw

/-- A list to be read and cut short, above a bound. -/
def SlH (W : World) (B : Nat) (v : Value) (L : List Int) : Prop := SlAt W 1 inC v L ∧ ∃ sa cap, v = .slice sa L.length cap ∧ L.length ≤ cap ∧ cap ≤ maxLen ∧ (sa = none → cap = 0) ∧ ∀ a, sa = some a → B ≤ a.block
theorem SlH.keep {w w' : World} {B : Nat} {v : Value} {L : List Int} (h : SlH w B v L) (b : Below w.heap.size w w') : SlH w' B v L := ⟨h.1.keep b, h.2⟩
theorem SlH.mono {w : World} {B B' : Nat} {v : Value} {L : List Int} (h : SlH w B v L) (hb : B' ≤ B) : SlH w B' v L := by
  obtain ⟨h1, sa, cap, e, q1, q2, q3, q4⟩ := h
  exact ⟨h1, sa, cap, e, q1, q2, q3, fun a ha => Nat.le_trans hb (q4 a ha)⟩
theorem SlH.nil (W : World) (B : Nat) : SlH W B (.slice none 0 0) [] := ⟨.inl ⟨rfl, none, 0, rfl⟩, none, 0, rfl, Nat.le_refl _, Nat.zero_le _, fun _ => rfl, fun _ h => by cases h⟩
theorem SlH.only {w w' : World} {B : Nat} {v : Value} {L : List Int} {bs : List Nat} (h : SlH w B v L) (o : Only bs w w') (hb : ∀ r ∈ bs, r < B) : SlH w' B v L := by
  obtain ⟨h1, sa, cap, e, q1, q2, q3, q4⟩ := h
  refine ⟨?_, sa, cap, e, q1, q2, q3, q4⟩
  rcases h1 with h1 | ⟨b, of, c, e1, h2, h3, h4⟩
  · exact .inl h1
  · have hB : B ≤ b := by
      rw [e] at e1
      simp only [Value.slice.injEq] at e1
      exact q4 ⟨b, of, none⟩ e1.1
    have hbl := o.block b h3 (fun hm => by have := hb b hm; omega)
    refine .inr ⟨b, of, c, e1, h2, Nat.lt_of_lt_of_le h3 o.size, fun i j hi hj => ?_⟩
    rw [← h4 i j hi hj]
    unfold World.cell?
    dsimp only
    rw [hbl]
theorem sl_slh {W : World} {B : Nat} {v : Value} {L : List Int} (h : Sl W B 3 1 inC v L) : SlH W B v L := by
  refine ⟨h.at in_len, ?_⟩
  rcases h.form with ⟨rfl, rfl⟩ | ⟨g, cap, rfl, hb, _, hc, hm, _⟩
  · exact ⟨none, 0, rfl, Nat.le_refl _, Nat.zero_le _, fun _ => rfl, fun _ h => by cases h⟩
  · exact ⟨_, cap, rfl, hc, hm, fun h => (by cases h), fun a ha => by cases ha; exact hb⟩
theorem SlH.cut {W : World} {B n c k : Nat} {s : Option Addr} {L : List Int} (h : SlH W B (.slice s n c) L) (hk : k ≤ L.length) : SlH W B (.slice s k c) (L.take k) := by
  obtain ⟨h1, sa, cap, e, q1, q2, q3, q4⟩ := h
  simp only [Value.slice.injEq] at e
  obtain ⟨rfl, rfl, rfl⟩ := e
  refine ⟨slat_take h1 hk c, s, c, ?_, ?_, q2, q3, q4⟩
  · rw [List.length_take, Nat.min_eq_left hk]
  · rw [List.length_take]
    omega
/-- What after returns. -/
def AfR (B : Nat) (o : Option (List Int)) (w : World) (e : Ending) (w' : World) : Prop := Below w.heap.size w w' ∧ ∃ (v : Value) (b : Bool), e = .returned (.tuple #[v, .bool b]) ∧ ((b = true ∧ ∃ L, o = some L ∧ SlH w' B v L) ∨ (b = false ∧ o = none))
set_option maxRecDepth 100000 in
set_option maxHeartbeats 8000000 in
theorem after50 (f : Im) (B : Nat) (u : Value) (T : List Int) (w : World) (hf : ImAt w f) (h : SlH w B u T) (hB : B ≤ w.heap.size) (hl : T.length ≤ 1000000000) : Calls Tryd.prog 50 #[imV f, u] w (AfR B (aftF f.x T) w) := by
  obtain ⟨_, s1, p1, e1⟩ := hf.src.len
  obtain ⟨_, s2, p2, e2⟩ := hf.cases.len
  obtain ⟨_, s3, p3, e3⟩ := hf.segs.len
  obtain ⟨⟨op, ⟨dk, dn⟩, src, goal, nn, live, name, cas, segs⟩, sv, cv, gv⟩ := f
  dsimp only at e1 e2 e3
  obtain ⟨n1, hn1⟩ : ∃ n, n = src.length := ⟨_, rfl⟩
  obtain ⟨n2, hn2⟩ : ∃ n, n = cas.length := ⟨_, rfl⟩
  obtain ⟨n3, hn3⟩ : ∃ n, n = segs.length := ⟨_, rfl⟩
  rw [← hn1] at e1
  rw [← hn2] at e2
  rw [← hn3] at e3
  subst e1 e2 e3
  clear hn1 hn2 hn3 hf
  unfold imV
  dsimp only
  obtain ⟨sa, cap, eu, hc1, hc2, hc3, _⟩ := h.2
  subst eu
  obtain ⟨N, hN⟩ : ∃ n, n = T.length := ⟨_, rfl⟩
  rw [← hN] at h hl hc1 ⊢
  have H := Lib.hid h
  have HN := Lib.hid hN
  have HBZ := Lib.hid hB
  have hcm : cap ≤ 9223372036854775807 := by unfold maxLen at hc2; omega
  clear h hN hB hc2 hc3
  obtain ⟨R, hR⟩ : ∃ R, R = aftF ⟨op, ⟨dk, dn⟩, src, goal, nn, live, name, cas, segs⟩ T := ⟨_, rfl⟩
  rw [← hR]
  unfold aftF at hR
  dsimp only at hR
  replace hR := Lib.hid hR
  have X := Lib.hid (Blk.new w 42 #[.int .i64 op, .int .i64 dk, .int .i64 dn, .slice s1 n1 p1, .int .i64 goal, .int .i64 nn, .int .i64 live, .string name, .slice s2 n2 p2, .slice s3 n3 p3])
  have B1 := Lib.hid ((Below.refl w.heap.size w).alloc (Nat.le_refl _) (.cells #[.int .i64 op, .int .i64 dk, .int .i64 dn, .slice s1 n1 p1, .int .i64 goal, .int .i64 nn, .int .i64 live, .string name, .slice s2 n2 p2, .slice s3 n3 p3] 42))
  obtain ⟨m, hm⟩ : ∃ q, q = w.heap.size := ⟨_, rfl⟩
  have HM := Lib.hid hm
  rw [← hm] at X B1
  go_enter Tryd.func50, Tryd.ntmps50
  go_upto_region 1 with fail
  rw [← hm]
  generalize w.alloc (.cells #[.int .i64 op, .int .i64 dk, .int .i64 dn, .slice s1 n1 p1, .int .i64 goal, .int .i64 nn, .int .i64 live, .string name, .slice s2 n2 p2, .slice s3 n3 p3] 42) = w1 at X B1 ⊢
  clear hm
  have q0 : w1.cell? ⟨m, 0, none⟩ = some (.int .i64 op) := X.out.cell 0
  have q4 : w1.cell? ⟨m, 4, none⟩ = some (.int .i64 goal) := X.out.cell 4
  have H1 := Lib.hid (H.out.keep (by rw [← HM.out]; exact B1.out))
  by_cases h28 : op = 28
  · subst h28
    have HR : Hid (R = some (T ++ [goal])) := Lib.hid (by rw [hR.out, if_pos rfl])
    obtain ⟨sx, cx, w2, r2, o2, g2⟩ := apps23 (Sl.nil w1 (m + 1) 3 1 inC) H1.out.1 (by rw [← HN.out]; simp only [List.length_nil]; omega) X.out.lt
    have b2 : Below (m + 1) w1 w2 := (grown_only g2).below (fun r hr => by simp [Value.ownBlock] at hr) X.out.lt
    rw [List.nil_append, ← HN.out] at r2 o2
    obtain ⟨sy, cy, w3, r3, o3, b3⟩ := lit23 o2 [goal] (by rw [← HN.out]; simp only [List.length_cons, List.length_nil]; omega) (Nat.le_trans X.out.lt b2.size)
    rw [show (T ++ [goal]).length = T.length + 1 by simp] at r3 o3
    have HR2 := Lib.hid r2
    have HR3 := Lib.hid r3
    have q5 := (b2.cell (p := ⟨m, 4, none⟩) (Nat.lt_succ_self m)).trans q4
    have B3 := Lib.hid (B1.out.trans ((b2.trans b3).mono (Nat.le_succ m)))
    have O3 := Lib.hid (sl_slh (o3.mono (show B ≤ m + 1 by have := HBZ.out; have := HM.out; omega)))
    clear r2 r3 o2 g2 b2 o3 b3
    go_wp2_with (at_builtin; first | refine wpList_append_run rfl _ _ 23 23 rfl rfl rfl HR2.out ?_ | refine wpList_append_run rfl _ _ 23 23 rfl rfl rfl HR3.out ?_)
    exact bodyPost_ret (results_tt (a := 4) (b := 5) rfl _ _ _ _ rfl rfl) rfl ⟨by rw [← HM.out]; exact B3.out, _, true, rfl, .inl ⟨rfl, _, HR.out, O3.out⟩⟩
  · have e28 : (op == 28) = false := by rw [beq_eq_false_iff_ne]; exact h28
    by_cases h29 : op = 29
    · subst h29
      by_cases h0 : N = 0
      · subst h0
        have HR : Hid (R = none) := Lib.hid (by rw [hR.out, if_neg h28, if_pos rfl, if_pos (List.eq_nil_of_length_eq_zero HN.out.symm)])
        clear h28
        simp only [] at *
        go_wp2_with fail
        exact bodyPost_ret (results_tt (a := 4) (b := 5) rfl _ _ _ _ rfl rfl) rfl ⟨by rw [← HM.out]; exact B1.out, _, false, rfl, .inr ⟨rfl, HR.out⟩⟩
      · obtain ⟨k, rfl⟩ : ∃ k, N = k + 1 := ⟨N - 1, by omega⟩
        have HR : Hid (R = some (T.take k)) := Lib.hid (by
          rw [hR.out, if_neg h28, if_pos rfl, if_neg (fun e => by rw [e] at HN; exact h0 HN.out), List.dropLast_eq_take, ← HN.out]
          rfl)
        have O3 := Lib.hid (H1.out.cut (k := k) (by rw [← HN.out]; omega))
        clear h28 h0
        go_wp2_with fail
        exact bodyPost_ret (results_tt (a := 4) (b := 5) rfl _ _ _ _ rfl rfl) rfl ⟨by rw [← HM.out]; exact B1.out, _, true, rfl, .inl ⟨rfl, _, HR.out, O3.out⟩⟩
    · have e29 : (op == 29) = false := by rw [beq_eq_false_iff_ne]; exact h29
      have HR : Hid (R = some T) := Lib.hid (by rw [hR.out, if_neg h28, if_neg h29])
      clear h28 h29
      go_wp2_with fail
      exact bodyPost_ret (results_tt (a := 4) (b := 5) rfl _ _ _ _ rfl rfl) rfl ⟨by rw [← HM.out]; exact B1.out, _, true, rfl, .inl ⟨rfl, _, HR.out, H1.out⟩⟩
end Go.Proofs.YtekfnonjhcfdmaaDoor
namespace Go.Proofs.YtekfnonjhcfdmaaDoor
open Go.RowKit Go.Rt Go.Rw

def boolsV (n : Nat) (Q : Nat → Bool) : Array Value := ((List.range n).map fun i => Value.bool (Q i)).toArray
theorem boolsV_cell {W : World} {m n : Nat} {Q : Nat → Bool} (h : Blk W m 4 (boolsV n Q)) {i : Nat} (hi : i < n) : W.cell? ⟨m, i, none⟩ = some (.bool (Q i)) := by
  rw [h.cell i]
  simp [boolsV, hi]
theorem boolsV_set (Q : Nat → Bool) (n i : Nat) (hi : i < n) : boolsV n (setB Q i) = (boolsV n Q).setIfInBounds i (.bool true) := map_setB Q n i hi
theorem boolsV_congr {n : Nat} {Q Q' : Nat → Bool} (h : ∀ i, i < n → Q i = Q' i) : boolsV n Q = boolsV n Q' := by
  unfold boolsV
  congr 1
  exact List.map_congr_left fun i hi => by rw [h i (List.mem_range.1 hi)]
/-- The reference's search in memory. -/
structure TS (n g1 g2 g3 B : Nat) (Q : Nat → Option (List Int)) (D : Nat → Bool) (W : World) : Prop where
  known : Blk W g2 4 (boolsV n fun i => (Q i).isSome)
  dn : Blk W g3 4 (boolsV n D)
  lists : ∃ Vs : List Value, Vs.length = n ∧ Blk W g1 23 Vs.toArray ∧ ∀ i (h : i < Vs.length), SlH W B Vs[i] ((Q i).getD [])
  lt : g1 < B ∧ g2 < B ∧ g3 < B ∧ g2 ≠ g3 ∧ g1 ≠ g2 ∧ g1 ≠ g3 ∧ B ≤ W.heap.size
theorem TS.keep {n g1 g2 g3 B : Nat} {Q : Nat → Option (List Int)} {D : Nat → Bool} {w w' : World} (h : TS n g1 g2 g3 B Q D w) (b : Below w.heap.size w w') : TS n g1 g2 g3 B Q D w' := by
  obtain ⟨h1, h2, ⟨Vs, h3, h4, h5⟩, h6⟩ := h
  exact ⟨h1.below b h1.lt, h2.below b h2.lt, ⟨Vs, h3, h4.below b h4.lt, fun i hi => (h5 i hi).keep b⟩, ⟨h6.1, h6.2.1, h6.2.2.1, h6.2.2.2.1, h6.2.2.2.2.1, h6.2.2.2.2.2.1, Nat.le_trans h6.2.2.2.2.2.2 b.size⟩⟩
theorem TS.mark {n g1 g2 g3 B : Nat} {Q : Nat → Option (List Int)} {D : Nat → Bool} {w : World} (h : TS n g1 g2 g3 B Q D w) {i : Nat} (hi : i < n) : TS n g1 g2 g3 B Q (setB D i) (w.setCell ⟨g3, i, none⟩ (.bool true)) := by
  obtain ⟨h1, h2, ⟨Vs, h3, h4, h5⟩, h6⟩ := h
  refine ⟨h1.far h6.2.2.2.1 _, ?_, ⟨Vs, h3, h4.far h6.2.2.2.2.2.1 _, fun k hk => (h5 k hk).only (bs := [g3]) (Only.setCell w ⟨g3, i, none⟩ _ (by simp)) (by simp; exact h6.2.2.1)⟩, ⟨h6.1, h6.2.1, h6.2.2.1, h6.2.2.2.1, h6.2.2.2.2.1, h6.2.2.2.2.2.1, ?_⟩⟩
  · rw [boolsV_set D n i hi]
    exact h2.set_ i _
  · rw [World.size_setCell]
    exact h6.2.2.2.2.2.2
theorem isSome_set (Q : Nat → Option (List Int)) (i : Nat) (t : List Int) : (fun k => (setQ Q i t k).isSome) = setB (fun k => (Q k).isSome) i := by
  funext k
  unfold setQ setB
  split <;> rfl
/-- A number's list is put down. -/
theorem TS.note {n g1 g2 g3 B : Nat} {Q : Nat → Option (List Int)} {D : Nat → Bool} {w : World} (h : TS n g1 g2 g3 B Q D w) {i : Nat} (hi : i < n) {v : Value} {L : List Int} (hv : SlH w B v L) : TS n g1 g2 g3 B (setQ Q i L) D ((w.setCell ⟨g2, i, none⟩ (.bool true)).setCell ⟨g1, i, none⟩ v) := by
  obtain ⟨h1, h2, ⟨Vs, h3, h4, h5⟩, h6⟩ := h
  have ho : Only [g2, g1] w ((w.setCell ⟨g2, i, none⟩ (.bool true)).setCell ⟨g1, i, none⟩ v) := (Only.setCell w ⟨g2, i, none⟩ _ (by simp)).trans (Only.setCell _ ⟨g1, i, none⟩ _ (by simp))
  have hlt : ∀ r ∈ [g2, g1], r < B := by simp; exact ⟨h6.2.1, h6.1⟩
  refine ⟨?_, (h2.far (Ne.symm h6.2.2.2.1) _).far (Ne.symm h6.2.2.2.2.2.1) _, ⟨Vs.set i v, by rw [List.length_set]; exact h3, ?_, fun k hk => ?_⟩, ⟨h6.1, h6.2.1, h6.2.2.1, h6.2.2.2.1, h6.2.2.2.2.1, h6.2.2.2.2.2.1, by rw [World.size_setCell, World.size_setCell]; exact h6.2.2.2.2.2.2⟩⟩
  · rw [isSome_set, boolsV_set _ n i hi]
    exact (h1.set_ i _).far (Ne.symm h6.2.2.2.2.1) _
  · have := (h4.far (p := ⟨g2, i, none⟩) h6.2.2.2.2.1 (.bool true)).set_ i v
    rwa [List.setIfInBounds_toArray] at this
  · rw [List.getElem_set]
    unfold setQ
    by_cases e : i = k
    · subst e
      rw [if_pos rfl, if_pos rfl]
      exact hv.only ho hlt
    · rw [if_neg e, if_neg (fun q => e q.symm)]
      exact (h5 k (by rwa [List.length_set] at hk)).only ho hlt
/-- One pass. -/
noncomputable def passG (Q : Nat → Option (List Int)) (j : Nat) (L : List Int) : Bool × (Nat → Option (List Int)) := match Q j with
  | some t => (eqB t L, Q)
  | none => (true, setQ Q j L)
/-- What pass returns. -/
def PaG (n g1 g2 g3 B : Nat) (Q : Nat → Option (List Int)) (D : Nat → Bool) (j : Nat) (L : List Int) (w : World) (e : Ending) (w' : World) : Prop :=
  e = .returned (.bool (passG Q j L).1) ∧ TS n g1 g2 g3 B (passG Q j L).2 D w' ∧ Only [g2, g1] w w'
set_option maxRecDepth 100000 in
set_option maxHeartbeats 8000000 in
theorem pass51 (n g1 g2 g3 B : Nat) (Q : Nat → Option (List Int)) (D : Nat → Bool) (j : Nat) (u : Value) (L : List Int) (w : World) (h : TS n g1 g2 g3 B Q D w) (hj : j < n) (hu : SlH w B u L) (_ : n ≤ 1000000000) :
    Calls Tryd.prog 51 #[.slice (some ⟨g1, 0, none⟩) n n, .slice (some ⟨g2, 0, none⟩) n n, .int .i64 j, u] w (PaG n g1 g2 g3 B Q D j L w) := by
  have HT := Lib.hid h
  have HU := Lib.hid hu
  obtain ⟨Vs, hv1, hv2, hv3⟩ := h.lists
  have hji : (j : Int) < (n : Int) := by omega
  have hjv : j < Vs.length := by omega
  obtain ⟨V, hV⟩ : ∃ q, q = Vs[j] := ⟨_, rfl⟩
  have qv := hv2.cell j
  rw [List.getElem?_toArray, List.getElem?_eq_getElem hjv, ← hV] at qv
  have fv := hv2.frozen j
  have qk := boolsV_cell h.known hj
  have fk := h.known.frozen j
  have SV := hv3 j hjv
  rw [← hV] at SV
  obtain ⟨sV, cV, eV, _⟩ := SV.2
  cases hq : Q j with
  | some t =>
    rw [hq] at qk SV eV
    simp only [Option.getD_some] at eV SV
    subst eV
    have CS := Lib.hid (same_any t L _ u w SV.1 hu.1)
    have HPG : Hid (passG Q j L = (eqB t L, Q)) := Lib.hid (by unfold passG; rw [hq])
    obtain ⟨nt, hnt⟩ : ∃ q, q = t.length := ⟨_, rfl⟩
    rw [← hnt] at qv CS
    obtain ⟨r, hr⟩ : ∃ q, q = eqB t L := ⟨_, rfl⟩
    rw [← hr] at CS HPG
    simp only [Option.isSome_some] at qk
    clear hq hv1 hv2 hv3 SV hnt hr hV hjv h hu
    go_enter Tryd.func51, Tryd.ntmps51
    go_wp2_with fail
    refine CS.out.mono ?_
    rintro e w1 ⟨rfl, b1⟩
    have HT1 := Lib.hid (HT.out.keep b1)
    have HO1 := Lib.hid (Only.of_below (bs := [g2, g1]) b1)
    clear b1 CS
    go_wp2_with fail
    go_ret
    exact ⟨by rw [HPG.out]; rfl, by rw [HPG.out]; exact HT1.out, HO1.out⟩
  | none =>
    rw [hq] at qk
    have HPG : Hid (passG Q j L = (true, setQ Q j L)) := Lib.hid (by unfold passG; rw [hq])
    have HT2 := Lib.hid (HT.out.note hj hu)
    have HO2 : Hid (Only [g2, g1] w ((w.setCell ⟨g2, j, none⟩ (.bool true)).setCell ⟨g1, j, none⟩ u)) := Lib.hid ((Only.setCell w ⟨g2, j, none⟩ _ (by simp)).trans (Only.setCell _ ⟨g1, j, none⟩ _ (by simp)))
    have hv4 := hv2.far (p := ⟨g2, j, none⟩) h.lt.2.2.2.2.1 (.bool true)
    have qv2 := hv4.cell j
    rw [List.getElem?_toArray, List.getElem?_eq_getElem hjv, ← hV] at qv2
    have fv2 := hv4.frozen j
    simp only [Option.isSome_none] at qk
    obtain ⟨su, cu, eu, _⟩ := hu.2
    subst eu
    obtain ⟨nL, hnL⟩ : ∃ q, q = L.length := ⟨_, rfl⟩
    rw [← hnL] at HT2 HO2 HU ⊢
    clear hq hv1 hv2 hv3 hv4 SV hV hjv h hu qv fv hnL
    go_enter Tryd.func51, Tryd.ntmps51
    go_wp2_with fail
    go_ret
    exact ⟨by rw [HPG.out]; rfl, by rw [HPG.out]; exact HT2.out, HO2.out⟩
end Go.Proofs.YtekfnonjhcfdmaaDoor
namespace Go.Proofs.YtekfnonjhcfdmaaDoor

/-- The reference's search; x is being treated. -/
structure TI (l : List In) (fr : List Int) (Q : Nat → Option (List Int)) (D : Nat → Bool) (x : Int) : Prop where
  forced : ∀ i t, Q i = some t → Forced l fr i t
  entry : ∀ i : Nat, (i : Int) ∈ fr → i < l.length → Q i = some []
  dn : ∀ i, D i = true → ∃ t, Q i = some t
  closed : ∀ i t, Q i = some t → D i = true → (i : Int) ≠ x → Don l Q i t
  cnt : ∀ i t, Q i = some t → t.length + lackN D l.length ≤ l.length
theorem lackN_mark {D : Nat → Bool} {n i : Nat} (hi : i < n) (hd : D i = false) : lackN (setB D i) n + 1 = lackN D n := by
  have := sumN_swap (f := fun k => if setB D i k then 0 else 1) (g := fun k => if D k then 0 else 1) (i := i) (fun k hk => by simp [setB, hk]) n hi
  simp only [hd, setB] at this
  unfold lackN
  simpa [setB] using this
theorem lackN_le (D : Nat → Bool) (n : Nat) : lackN D n ≤ n := by
  have := sumN_bound (f := fun k => if D k then 0 else 1) (M := 1) n (fun i _ => by split <;> omega)
  unfold lackN
  omega
theorem TI.start (l : List In) (fr : List Int) (Q : Nat → Option (List Int)) (h1 : ∀ i t, Q i = some t → t = [] ∧ i < l.length ∧ (i : Int) ∈ fr) (h2 : ∀ i : Nat, (i : Int) ∈ fr → i < l.length → Q i = some []) : TI l fr Q (fun _ => false) (-1) :=
  ⟨fun i t h => by obtain ⟨rfl, a, b⟩ := h1 i t h; exact Forced.entry i b a, h2, fun _ h => (by cases h), fun _ _ _ h => (by cases h), fun i t h => by
    obtain ⟨rfl, _⟩ := h1 i t h
    have := lackN_le (fun _ => false) l.length
    simpa using this⟩
theorem TI.mark {l : List In} {fr : List Int} {Q : Nat → Option (List Int)} {D : Nat → Bool} {i : Nat} {t : List Int} (h : TI l fr Q D (-1)) (hi : i < l.length) (hq : Q i = some t) (hd : D i = false) :
    TI l fr Q (setB D i) i ∧ t.length + 1 + lackN (setB D i) l.length ≤ l.length := by
  have hm := lackN_mark hi hd
  have hc := h.cnt i t hq
  refine ⟨⟨h.forced, h.entry, fun k hk => ?_, fun k u hk hd hx => h.closed k u hk ?_ (by omega), fun k u hk => by have := h.cnt k u hk; omega⟩, by omega⟩
  · unfold setB at hk
    split at hk
    · rename_i e
      subst e
      exact ⟨t, hq⟩
    · exact h.dn k hk
  · unfold setB at hd
    split at hd
    · rename_i e
      exact absurd (by rw [e]) hx
    · exact hd
theorem passG_le (Q : Nat → Option (List Int)) (j : Nat) (L : List Int) : LeQ Q (passG Q j L).2 := fun i t h => by
  unfold passG
  cases hq : Q j with
  | some u => exact h
  | none =>
    dsimp only
    unfold setQ
    rw [if_neg (fun e => by subst e; rw [hq] at h; cases h)]
    exact h
theorem TI.no {l : List In} {fr : List Int} {Q : Nat → Option (List Int)} {D : Nat → Bool} {x : Int} {j : Nat} {L : List Int} (h : TI l fr Q D x) (hf : Forced l fr j L) (hp : (passG Q j L).1 = false) : ¬ ∃ T, Fits l fr T := by
  unfold passG at hp
  cases hq : Q j with
  | some u =>
    rw [hq] at hp
    dsimp only at hp
    exact Forced.clash (h.forced j u hq) hf (fun e => by rw [(eqB_iff u L).2 e] at hp; cases hp)
  | none =>
    rw [hq] at hp
    cases hp
theorem TI.yes {l : List In} {fr : List Int} {Q : Nat → Option (List Int)} {D : Nat → Bool} {x : Int} {j : Nat} {L : List Int} (h : TI l fr Q D x) (hf : Forced l fr j L) (hc : L.length + lackN D l.length ≤ l.length) (hp : (passG Q j L).1 = true) :
    TI l fr (passG Q j L).2 D x ∧ (passG Q j L).2 j = some L := by
  have hle := passG_le Q j L
  unfold passG at hp hle ⊢
  cases hq : Q j with
  | some u =>
    rw [hq] at hp
    dsimp only at hp ⊢
    rw [(eqB_iff u L).1 hp] at hq
    exact ⟨h, hq⟩
  | none =>
    rw [hq] at hle
    dsimp only at hle ⊢
    have hset : ∀ i t, setQ Q j L i = some t → (i = j ∧ t = L) ∨ Q i = some t := fun i t hi => by
      unfold setQ at hi
      split at hi
      · rename_i e
        cases hi
        exact .inl ⟨e, rfl⟩
      · exact .inr hi
    refine ⟨⟨fun i t hi => ?_, fun i h1 h2 => hle _ _ (h.entry i h1 h2), fun i hi => ?_, fun i t hi hd hx => ?_, fun i t hi => ?_⟩, by simp [setQ]⟩
    · rcases hset i t hi with ⟨rfl, rfl⟩ | q
      · exact hf
      · exact h.forced i t q
    · obtain ⟨t, e⟩ := h.dn i hi
      exact ⟨t, hle _ _ e⟩
    · rcases hset i t hi with ⟨rfl, rfl⟩ | q
      · obtain ⟨t, e⟩ := h.dn i hd
        rw [hq] at e
        cases e
      · exact (h.closed i t q hd hx).le hle
    · rcases hset i t hi with ⟨rfl, rfl⟩ | q
      · exact hc
      · exact h.cnt i t q
theorem TI.done {l : List In} {fr : List Int} {Q : Nat → Option (List Int)} {D : Nat → Bool} {j : Nat} {t : List Int} (h : TI l fr Q D j) (hq : Q j = some t) (hd : Don l Q j t) : TI l fr Q D (-1) :=
  ⟨h.forced, h.entry, h.dn, fun i u hi hdi _ => by
    by_cases e : i = j
    · subst e
      rw [hq] at hi
      cases hi
      exact hd
    · exact h.closed i u hi hdi (by omega), h.cnt⟩
theorem TI.shut {l : List In} {fr : List Int} {Q : Nat → Option (List Int)} {D : Nat → Bool} (h : TI l fr Q D (-1)) (hd : ∀ i, i < l.length → Q i = none ∨ D i = true) : Shut l fr Q := by
  have hc : ∀ i t, Q i = some t → Don l Q i t := fun i t hi => by
    have hl := (h.forced i t hi).1.lt
    rcases hd i hl with e | e
    · rw [hi] at e
      cases e
    · exact h.closed i t hi e (by omega)
  exact ⟨h.forced, h.entry, fun i j hi t hq hj h1 h2 => (hc i t hq hi).1 j hj h1 h2, fun i hi t hq => (hc i t hq hi).2⟩
end Go.Proofs.YtekfnonjhcfdmaaDoor
