/- Feed of a gatherer, said of its list of open messages. -/
import Derived.Test.YtbddggdbhfmlnaaFeed
namespace Go.Proofs.Ytbddggdbhfmlnaa
open Go.RowKit Go.Rt Go.Rw Go.Mp Go.Lib

section
variable {K V A : Type} [DecidableEq K]
theorem get_at (f : A → K × V) : ∀ (L : List A) (m : Nat) (hm : m < L.length), (L.map (fun b => (f b).1)).Nodup → Mp.get (L.map f) (f L[m]).1 = some (f L[m]).2
  | [], m, hm, _ => by simp at hm
  | b :: r, 0, _, _ => by simp [Mp.get]
  | b :: r, m + 1, hm, hd => by
    simp only [List.map_cons, List.nodup_cons] at hd
    have hml : m < r.length := by simpa using hm
    have hne : (f b).1 ≠ (f r[m]).1 := fun e => hd.1 (by rw [e]; exact List.mem_map_of_mem (f := fun b => (f b).1) (List.getElem_mem hml))
    simp only [List.map_cons, List.getElem_cons_succ]
    rw [show f b = ((f b).1, (f b).2) from rfl, Mp.get, if_neg hne]
    exact get_at f r m hml hd.2
theorem put_at (f : A → K × V) (v : V) : ∀ (L : List A) (m : Nat) (hm : m < L.length), (L.map (fun b => (f b).1)).Nodup → Mp.put (L.map f) (f L[m]).1 v = (L.map f).set m ((f L[m]).1, v)
  | [], m, hm, _ => by simp at hm
  | b :: r, 0, _, _ => by simp [Mp.put]
  | b :: r, m + 1, hm, hd => by
    simp only [List.map_cons, List.nodup_cons] at hd
    have hml : m < r.length := by simpa using hm
    have hne : (f b).1 ≠ (f r[m]).1 := fun e => hd.1 (by rw [e]; exact List.mem_map_of_mem (f := fun b => (f b).1) (List.getElem_mem hml))
    simp only [List.map_cons, List.getElem_cons_succ, List.set_cons_succ]
    rw [show f b = ((f b).1, (f b).2) from rfl, Mp.put, if_neg hne, put_at f v r m hml hd.2]
theorem del_at (f : A → K × V) : ∀ (L : List A) (m : Nat) (hm : m < L.length), (L.map (fun b => (f b).1)).Nodup → Mp.del (L.map f) (f L[m]).1 = (L.map f).eraseIdx m
  | [], m, hm, _ => by simp at hm
  | b :: r, 0, _, _ => by simp [Mp.del]
  | b :: r, m + 1, hm, hd => by
    simp only [List.map_cons, List.nodup_cons] at hd
    have hml : m < r.length := by simpa using hm
    have hne : (f b).1 ≠ (f r[m]).1 := fun e => hd.1 (by rw [e]; exact List.mem_map_of_mem (f := fun b => (f b).1) (List.getElem_mem hml))
    simp only [List.map_cons, List.getElem_cons_succ, List.eraseIdx_cons_succ]
    rw [show f b = ((f b).1, (f b).2) from rfl, Mp.del, if_neg hne, del_at f r m hml hd.2]
theorem get_no (f : A → K × V) (k : K) : ∀ (L : List A), (∀ b ∈ L, (f b).1 ≠ k) → Mp.get (L.map f) k = none
  | [], _ => rfl
  | b :: r, h => by
    rw [List.map_cons, show f b = ((f b).1, (f b).2) from rfl, Mp.get, if_neg (h b (by simp))]
    exact get_no f k r (fun x hx => h x (by simp [hx]))
theorem put_no (f : A → K × V) (k : K) (v : V) (L : List A) (h : ∀ b ∈ L, (f b).1 ≠ k) : Mp.put (L.map f) k v = L.map f ++ [(k, v)] := Mp.put_none _ _ _ (get_no f k L h)
theorem del_no (f : A → K × V) (k : K) (L : List A) (h : ∀ b ∈ L, (f b).1 ≠ k) : Mp.del (L.map f) k = L.map f := Mp.del_none _ _ (get_no f k L h)
end

/-- The open messages, as a list of ID, bytes, next Left. -/
abbrev PL := List (Int × (ByteArray × Int))
/-- What Feed hands back (string, whole, error) and leaves. -/
def feedF (P : PL) (id : Int) (fi : Bool) (left : Int) (data : ByteArray) : ByteArray × Bool × Int × PL :=
  if validB id left data = false then (ByteArray.empty, false, 2, P) else
  match Mp.get P id with
  | none => if fi = false then (ByteArray.empty, false, 6, P) else if 1 < left ∧ 64 ≤ P.length then (ByteArray.empty, false, 5, P) else
      if 1 < left then (ByteArray.empty, false, 0, Mp.put P id (ByteArray.empty ++ data, left - 1)) else (ByteArray.empty ++ data, true, 0, Mp.del P id)
  | some (d, next) => if fi = true then (ByteArray.empty, false, 6, P) else if left ≠ next then (ByteArray.empty, false, 6, P) else if 262144 < d.size + data.size then (ByteArray.empty, false, 3, P) else
      if 1 < left then (ByteArray.empty, false, 0, Mp.put P id (d ++ data, left - 1)) else (d ++ data, true, 0, Mp.del P id)

section
variable {w w' : World} {base G m : Nat} {O : List OE}
theorem Rowy.symm {a b : OE} (h : Rowy a b) : Rowy b a := fun g hb ha => h g ha hb
theorem apart_ne (h : GA w base G m O) {i j : Nat} (hi : i < O.length) (hj : j < O.length) (hij : i ≠ j) : Rowy O[i] O[j] := by
  have := List.pairwise_iff_getElem.1 h.apart
  rcases Nat.lt_or_gt_of_ne hij with q | q
  · exact this i j hi hj q
  · exact (this j i hj hi q).symm
theorem GA.own_lt (h : GA w base G m O) {o : OE} (ho : o ∈ O) {g : Nat} (hg : o.2.1.ownBlock = some g) : base ≤ g ∧ g < w.heap.size := World.ownsRow.lt (h.rows o ho) g hg
theorem GA.hvb (h : GA w base G m O) {o : OE} (ho : o ∈ O) : ∀ g, o.2.1.ownBlock = some g → g ≠ G ∧ g ≠ m := fun _ hg => h.row_ne ho hg
theorem GA.frOf (h : GA w base G m O) {j : Nat} (hj : j < O.length) (ho : Only (m :: O[j].2.1.ownBlock.toList) w w') : Fr base w w' :=
  h.fr ho (fun _ hg => ⟨(h.own_lt (List.getElem_mem hj) hg).1, h.row_cells (List.getElem_mem hj) hg⟩)
/-- A message that was open has got a fragment. -/
theorem GA.set (h : GA w base G m O) {j : Nat} (hj : j < O.length) {v' : Value} {d : ByteArray} {nx : Int} (hf : Fed w base m O[j].2.1 v' d (Mp.put (O.map kv) O[j].1 (v', nx)) w') : GA w' base G m (O.set j (O[j].1, v', d, nx)) := by
  have hfresh : ∀ i (hi : i < O.length), i ≠ j → Rowy (O[j].1, v', d, nx) O[i] := by
    intro i hi hij g hg hb
    rcases hf.wher with q | q
    · exact apart_ne h hj hi (Ne.symm hij) g (q ▸ hg) hb
    · have := (h.own_lt (List.getElem_mem hi) hb).2
      have := q g hg
      omega
  refine h.next hf.only (fun e => (h.row_ne (List.getElem_mem hj) e).1 rfl) ?_ ?_ ?_ ?_
  · have e : Mp.put (O.map kv) O[j].1 (v', nx) = (O.set j (O[j].1, v', d, nx)).map kv := by
      rw [show O[j].1 = (kv O[j]).1 from rfl, put_at kv (v', nx) O j hj h.keys, List.map_set]; rfl
    rw [← e]; exact hf.mp
  · intro o ho
    obtain ⟨i, hi, rfl⟩ := List.getElem_of_mem ho
    rw [List.getElem_set]
    split
    · exact .inr hf.row
    · rename_i hne
      have hi' : i < O.length := by simpa using hi
      exact .inl ⟨List.getElem_mem hi', fun g hg e => apart_ne h hi' hj (Ne.symm hne) g hg e⟩
  · rw [List.pairwise_iff_getElem]
    intro i k hi hk hik
    have hi' : i < O.length := by simpa using hi
    have hk' : k < O.length := by simpa using hk
    rw [List.getElem_set, List.getElem_set]
    split
    · rename_i e1
      split
      · omega
      · exact hfresh k hk' (by omega)
    · split
      · exact (hfresh i hi' (by omega)).symm
      · exact apart_ne h hi' hk' (by omega)
  · have : (O.set j (O[j].1, v', d, nx)).map (·.1) = O.map (·.1) := by
      rw [List.map_set]
      apply List.ext_getElem?
      intro i
      rw [List.getElem?_set]
      split
      · subst_vars; simp [hj]
      · rfl
    rw [this]; exact h.keys
/-- A new message. -/
theorem GA.snoc (h : GA w base G m O) {id : Int} (hno : ∀ o ∈ O, o.1 ≠ id) {v' : Value} {d : ByteArray} {nx : Int} (hf : Fed w base m (.slice none 0 0) v' d (Mp.put (O.map kv) id (v', nx)) w') : GA w' base G m (O ++ [(id, v', d, nx)]) := by
  have hfresh : ∀ o ∈ O, Rowy o (id, v', d, nx) := by
    intro o ho g hg hb
    rcases hf.wher with q | q
    · simp [Value.ownBlock] at q; simp only at hb; rw [show v'.ownBlock = none from q] at hb; cases hb
    · have := (h.own_lt ho hg).2
      have := q g hb
      omega
  refine h.next (vb := none) hf.only (by simp) ?_ ?_ ?_ ?_
  · have e : Mp.put (O.map kv) id (v', nx) = (O ++ [(id, v', d, nx)]).map kv := by rw [put_no kv id (v', nx) O hno, List.map_append]; rfl
    rw [← e]; exact hf.mp
  · intro o ho
    simp only [List.mem_append, List.mem_singleton] at ho
    rcases ho with ho | rfl
    · exact .inl ⟨ho, fun _ _ e => by cases e⟩
    · exact .inr hf.row
  · rw [List.pairwise_append]
    exact ⟨h.apart, by simp, fun a ha b hb => by simp at hb; subst hb; exact hfresh a ha⟩
  · rw [List.map_append, List.nodup_append]
    refine ⟨h.keys, by simp, fun a ha b hb => ?_⟩
    simp at hb
    subst hb
    obtain ⟨o, ho, rfl⟩ := List.mem_map.1 ha
    exact hno o ho
/-- A message that was open is complete. -/
theorem GA.erase (h : GA w base G m O) {j : Nat} (hj : j < O.length) {v' : Value} {d : ByteArray} (hf : Fed w base m O[j].2.1 v' d (Mp.del (O.map kv) O[j].1) w') : GA w' base G m (O.eraseIdx j) := by
  have hsub : (O.eraseIdx j).Sublist O := List.eraseIdx_sublist _ _
  refine h.next hf.only (fun e => (h.row_ne (List.getElem_mem hj) e).1 rfl) ?_ ?_ (h.apart.sublist hsub) (h.keys.sublist (hsub.map _))
  · have e : Mp.del (O.map kv) O[j].1 = (O.eraseIdx j).map kv := by
      rw [show O[j].1 = (kv O[j]).1 from rfl, del_at kv O j hj h.keys, ← ChangeMaps.map_eraseIdx]
    rw [← e]; exact hf.mp
  · intro o ho
    obtain ⟨i, hi, rfl⟩ := List.getElem_of_mem ho
    rw [List.getElem_eraseIdx]
    have hl := hi
    rw [List.length_eraseIdx] at hl
    split at hl
    · split
      · rename_i hlt
        exact .inl ⟨List.getElem_mem _, fun g hg e => apart_ne h (by omega) hj (by omega) g hg e⟩
      · rename_i hlt
        exact .inl ⟨List.getElem_mem _, fun g hg e => apart_ne h (by omega) hj (by omega) g hg e⟩
    · omega
/-- A message of one fragment. -/
theorem GA.alike (h : GA w base G m O) {id : Int} (hno : ∀ o ∈ O, o.1 ≠ id) {v' : Value} {d : ByteArray} (hf : Fed w base m (.slice none 0 0) v' d (Mp.del (O.map kv) id) w') : GA w' base G m O := by
  refine h.next (vb := none) hf.only (by simp) ?_ (fun o ho => .inl ⟨ho, fun _ _ e => by cases e⟩) h.apart h.keys
  rw [← del_no kv id O hno]; exact hf.mp
theorem GA.looks (h : GA w base G m O) (id : Int) : Looks w m id (Mp.get (O.map kv) id).isSome (((Mp.get (O.map kv) id).getD (.slice none 0 0, 0)).1) (((Mp.get (O.map kv) id).getD (.slice none 0 0, 0)).2) := by
  have hl := run_lookup2 (P := Try.prog) (int_emb u2) u59 h.mp (z64 w) id
  unfold Looks
  cases hg : Mp.get (O.map kv) id <;> simp [hg] at hl ⊢ <;> exact hl
theorem row_slice {v : Value} {n : Nat} {xs : List Value} (h : w.ownsRow base 5 1 v n xs) : ∃ sa cap, v = .slice sa n cap := by
  rcases h.2 with ⟨rfl, rfl⟩ | ⟨g, cap, cur, rfl, _⟩
  · exact ⟨_, _, rfl⟩
  · exact ⟨_, _, rfl⟩
theorem nilrow (w : World) (base : Nat) : w.ownsRow base 5 1 (.slice none 0 0) ByteArray.empty.size (strCells ByteArray.empty) := World.ownsRow_nil _ _ _ _
end

/-- What Feed leaves. -/
def Leaves (w : World) (base G m : Nat) (P' : PL) (w' : World) : Prop := (∃ O', GA w' base G m O' ∧ O'.map ab = P') ∧ Fr base w w'

theorem Leaves.of_below {w w' : World} {base G m : Nat} {O : List OE} (h : GA w base G m O) (hb : Below w.heap.size w w') : Leaves w base G m (O.map ab) w' :=
  ⟨⟨O, h.below hb, rfl⟩, Fr.of_below hb h.bz⟩

theorem feed_any {base G m : Nat} {O : List OE} (w : World) (h : GA w base G m O) (hO : O.length ≤ 1000000) (hP : ∀ o ∈ O, o.2.2.1.size ≤ 262144) (id left : Int) (fi : Bool) (data : ByteArray) (hs : data.size ≤ 9223372036854775807) :
    Calls Try.prog 16 #[.pointer (some ⟨G, 0, none⟩), .agg #[.int .i64 id, .bool fi, .int .i64 left, .string data]] w fun e w' =>
      e = .returned (.tuple #[.string (feedF (O.map ab) id fi left data).1, .bool (feedF (O.map ab) id fi left data).2.1, .int .i64 (feedF (O.map ab) id fi left data).2.2.1]) ∧ Leaves w base G m (feedF (O.map ab) id fi left data).2.2.2 w' := by
  cases hv : validB id left data with
  | false =>
    simp only [feedF, hv, if_true]
    exact (feed_bad w h id left fi data hs hv).mono fun e w' ⟨h1, h2⟩ => ⟨h1, Leaves.of_below h h2⟩
  | true =>
    by_cases hex : ∃ j, ∃ hj : j < O.length, O[j].1 = id
    · obtain ⟨j, hj, rfl⟩ := hex
      have hmem := List.getElem_mem hj
      have hga : Mp.get (O.map ab) O[j].1 = some (O[j].2.2.1, O[j].2.2.2) := get_at ab O j hj h.keys
      have hgk : Mp.get (O.map kv) O[j].1 = some (O[j].2.1, O[j].2.2.2) := get_at kv O j hj h.keys
      have hlook : ∀ w', Below w.heap.size w w' → Looks w' m O[j].1 true O[j].2.1 O[j].2.2.2 := by
        intro w' hb
        have := (h.below hb).looks O[j].1
        rw [hgk] at this
        exact this
      have hrow := h.rows _ hmem
      obtain ⟨sa, cap, hsl⟩ := row_slice hrow
      have hds := hP _ hmem
      simp only [feedF, hv, hga, Bool.true_eq_false, if_false]
      cases fi with
      | true =>
        simp only [if_true]
        exact (feed_form1 w h _ left true data hv true _ _ hlook ⟨_, _, _, hsl⟩ rfl).mono fun e w' ⟨h1, h2⟩ => ⟨h1, Leaves.of_below h h2⟩
      | false =>
        simp only [Bool.false_eq_true, if_false]
        by_cases hn : left ≠ O[j].2.2.2
        · rw [if_pos hn]
          exact (feed_form2 w h _ left data hv _ _ hlook ⟨_, _, _, hsl⟩ (by simpa using hn)).mono fun e w' ⟨h1, h2⟩ => ⟨h1, Leaves.of_below h h2⟩
        · rw [if_neg hn]
          have hn' : left = O[j].2.2.2 := Classical.not_not.1 hn
          by_cases hlg : 262144 < O[j].2.2.1.size + data.size
          · rw [if_pos hlg]
            exact (feed_long w h _ left data hv _ _ hlook ⟨_, _, _, hsl⟩ hn' _ ⟨_, _, hsl⟩ hds hlg).mono fun e w' ⟨h1, h2⟩ => ⟨h1, Leaves.of_below h h2⟩
          · rw [if_neg hlg]
            by_cases hl : 1 < left
            · rw [if_pos hl]
              refine (feed_put2 w h _ left data hv _ _ hlook ⟨_, _, _, hsl⟩ _ hrow (h.hvb hmem) h.bz (by omega) hl hn').mono fun e w' ⟨h1, v', h2⟩ => ⟨h1, ⟨_, h.set hj h2, ?_⟩, h.frOf hj h2.only⟩
              have := put_at ab (O[j].2.2.1 ++ data, left - 1) O j hj h.keys
              rw [show (ab O[j]).1 = O[j].1 from rfl] at this
              rw [this, List.map_set]; rfl
            · rw [if_neg hl]
              refine (feed_end2 w h _ left data hv _ _ hlook ⟨_, _, _, hsl⟩ _ hrow (h.hvb hmem) h.bz (by omega) hl hn').mono fun e w' ⟨h1, v', h2⟩ => ⟨h1, ⟨_, h.erase hj h2, ?_⟩, h.frOf hj h2.only⟩
              have := del_at ab O j hj h.keys
              rw [show (ab O[j]).1 = O[j].1 from rfl] at this
              rw [this, ChangeMaps.map_eraseIdx]
    · have hno : ∀ o ∈ O, o.1 ≠ id := by
        intro o ho e
        obtain ⟨j, hj, rfl⟩ := List.getElem_of_mem ho
        exact hex ⟨j, hj, e⟩
      have hga : Mp.get (O.map ab) id = none := get_no ab id O hno
      have hgk : Mp.get (O.map kv) id = none := get_no kv id O hno
      have hlook : ∀ w', Below w.heap.size w w' → Looks w' m id false (.slice none 0 0) 0 := by
        intro w' hb
        have := (h.below hb).looks id
        rw [hgk] at this
        exact this
      have hds : data.size ≤ 4096 := (valid_of hv).2.2.2.2
      have hvb : ∀ g, (Value.slice none 0 0).ownBlock = some g → g ≠ G ∧ g ≠ m := fun g e => by cases e
      simp only [feedF, hv, hga, Bool.true_eq_false, if_false, List.length_map]
      cases fi with
      | false =>
        simp only [if_true]
        exact (feed_form1 w h _ left false data hv false _ _ hlook ⟨_, _, _, rfl⟩ rfl).mono fun e w' ⟨h1, h2⟩ => ⟨h1, Leaves.of_below h h2⟩
      | true =>
        simp only [Bool.true_eq_false, if_false]
        by_cases hfull : 1 < left ∧ 64 ≤ O.length
        · rw [if_pos hfull]
          exact (feed_full w h _ left data hv _ _ hlook ⟨_, _, _, rfl⟩ hO hfull.1 hfull.2).mono fun e w' ⟨h1, h2⟩ => ⟨h1, Leaves.of_below h h2⟩
        · rw [if_neg hfull]
          by_cases hl : 1 < left
          · rw [if_pos hl]
            refine (feed_put1 w h _ left data hv _ _ hlook ⟨_, _, _, rfl⟩ ByteArray.empty (nilrow _ _) hvb h.bz (by simp; omega) hl (by omega)).mono fun e w' ⟨h1, v', h2⟩ => ⟨h1, ⟨_, h.snoc hno h2, ?_⟩, h.fr (vb := none) h2.only (by simp)⟩
            rw [put_no ab id _ O hno, List.map_append]; rfl
          · rw [if_neg hl]
            refine (feed_end1 w h _ left data hv _ _ hlook ⟨_, _, _, rfl⟩ ByteArray.empty (nilrow _ _) hvb h.bz (by simp; omega) hl).mono fun e w' ⟨h1, v', h2⟩ => ⟨h1, ⟨_, h.alike hno h2, ?_⟩, h.fr (vb := none) h2.only (by simp)⟩
            rw [del_no ab id O hno]
end Go.Proofs.Ytbddggdbhfmlnaa
