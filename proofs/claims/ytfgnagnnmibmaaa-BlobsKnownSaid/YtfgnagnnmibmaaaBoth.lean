/- The store and the reference store side by side in memory, each over its list. -/
import Derived.Test.YtfgnagnnmibmaaaPlain
namespace Go.Proofs.Ytfgnagnnmibmaaa
open Go.RowKit Go.Mp

def SL (w : World) (B m1 m2 : Nat) (L : List Blob) (g : Int) : Prop := SA w B m1 m2 (L.map fI) (L.map fE) g (totL L)

theorem mem_at {A : Type} {L : List A} {q : A → Prop} (h : ∀ j (hj : j < L.length), q L[j]) : ∀ b ∈ L, q b := by
  intro b hb
  obtain ⟨j, hj, rfl⟩ := List.getElem_of_mem hb
  exact h j hj

theorem real_put {B m1 m2 : Nat} {L : List Blob} {g : Int} {n : Nat} (w : World) (h : SL w B m1 m2 L g) (hi : Inv L g n) (hn : n ≤ 1000000) (s : ByteArray) (hs : s.size ≤ 9223372036854775807) :
    Calls Try.prog 13 #[.pointer (some ⟨B, 0, none⟩), .string s] w fun e w' => e = .returned (.tuple #[.int .i64 (putF L g s).1, .int .i64 (putF L g s).2.1]) ∧ SL w' B m1 m2 (putF L g s).2.2.1 (putF L g s).2.2.2 ∧ Only [B, m1, m2] w w' := by
  have hg0 := hi.g0
  have hg1 := hi.g1
  have hl := hi.len
  have ht := totL_bd hi
  rcases put_cases L g s with ⟨hlong, e⟩ | ⟨hs, m, hm, hms, hfirst, e⟩ | ⟨hs, hno, e⟩
  · rw [e]
    exact (put_long w h s hlong hs).mono fun e w' ⟨h1, h2⟩ => ⟨h1, h2 ▸ h, h2 ▸ Only.refl _ _⟩
  · rw [e]
    simp only
    have hb := hi.each _ (List.getElem_mem hm)
    have g1 : Mp.get (L.map fI) s = some L[m].1 := by
      have := get_at fI L m hm hi.strs
      rw [show (fI L[m]).1 = s from hms] at this
      exact this
    have g2 := get_at fE L m hm hi.idsN
    have g3 := put_at fE (s, L[m].2.2 + 1) L m hm hi.idsN
    refine (put_old w h s hs L[m].1 g1 L[m].2.2 (L[m].2.1, L[m].2.2) (by rw [show L[m].1 = (fE L[m]).1 from rfl, g2]; rfl) rfl (by omega) (by omega)).mono fun e w' ⟨h1, h2, h3⟩ => ⟨h1, ?_, h3⟩
    have e1 : Mp.put (L.map fE) L[m].1 (s, L[m].2.2 + 1) = (L.set m (L[m].1, L[m].2.1, L[m].2.2 + 1)).map fE := by
      rw [show L[m].1 = (fE L[m]).1 from rfl, g3, List.map_set]
      simp only [fE, hms]
    have e2 : (L.set m (L[m].1, L[m].2.1, L[m].2.2 + 1)).map fI = L.map fI := map_set_same fI L m hm _ rfl
    unfold SL
    rw [e2, totL_set L m hm, ← e1]
    exact h2
  · rw [e]
    simp only
    have g1 := get_no fI s L (mem_at (q := fun b : Blob => b.2.1 ≠ s) hno)
    have hge : ∀ b ∈ L, (fE b).1 ≠ g + 1 := fun b hb => by have := hi.each b hb; show b.1 ≠ g + 1; omega
    have g2 := get_no fE (g + 1) L hge
    refine (put_new w h s hs g1 hg0 (by omega) ht.1 (by omega) g2).mono fun e w' ⟨h1, h2, h3⟩ => ⟨h1, ?_, h3⟩
    rw [put_no fI s (g + 1) L (mem_at (q := fun b : Blob => b.2.1 ≠ s) hno), put_no fE (g + 1) (s, 1) L hge] at h2
    unfold SL
    rw [totL_snoc, List.map_append, List.map_append]
    exact h2

theorem real_ch {B m1 m2 : Nat} {L : List Blob} {g : Int} {n : Nat} (w : World) (h : SL w B m1 m2 L g) (hi : Inv L g n) (hn : n ≤ 1000000) (id d : Int) (hd0 : -1 ≤ d) (hd1 : d ≤ 1) :
    Calls Try.prog 29 #[.pointer (some ⟨B, 0, none⟩), .int .i64 id, .int .i64 d] w fun e w' => e = .returned (.int .i64 (chF L id d).1) ∧ SL w' B m1 m2 (chF L id d).2 g ∧ Only [B, m1, m2] w w' := by
  have hl := hi.len
  have ht := totL_bd hi
  rcases ch_cases L id d with ⟨hno, _, e⟩ | ⟨m, hm, hid, _, ⟨hp, e⟩ | ⟨hp, e⟩⟩
  · rw [e]
    have g1 := get_no fE id L (mem_at (q := fun b : Blob => b.1 ≠ id) hno)
    exact (change_none w h id d g1).mono fun e w' ⟨h1, h2⟩ => ⟨h1, SA.below h h2, ⟨h2.os, h2.tape, h2.output, h2.size, fun k hk _ => h2.block k hk⟩⟩
  · rw [e]
    simp only
    have hb := hi.each _ (List.getElem_mem hm)
    have g2 := get_at fE L m hm hi.idsN
    rw [show (fE L[m]).1 = id from hid] at g2
    have g3 := put_at fE (L[m].2.1, L[m].2.2 + d) L m hm hi.idsN
    rw [show (fE L[m]).1 = id from hid] at g3
    refine (change_more w h id d L[m].2.1 L[m].2.2 g2 (by omega) (by omega) hd0 hd1 hp).mono fun e w' ⟨h1, h2, h3⟩ => ⟨h1, ?_, h3⟩
    have e1 : Mp.put (L.map fE) id (L[m].2.1, L[m].2.2 + d) = (L.set m (L[m].1, L[m].2.1, L[m].2.2 + d)).map fE := by
      rw [g3, List.map_set, ← hid]
      rfl
    have e2 : (L.set m (L[m].1, L[m].2.1, L[m].2.2 + d)).map fI = L.map fI := map_set_same fI L m hm _ rfl
    unfold SL
    rw [e2, totL_set L m hm, ← e1]
    exact h2
  · rw [e]
    simp only
    have hb := hi.each _ (List.getElem_mem hm)
    have g2 := get_at fE L m hm hi.idsN
    rw [show (fE L[m]).1 = id from hid] at g2
    have g3 := del_at fE L m hm hi.idsN
    rw [show (fE L[m]).1 = id from hid] at g3
    have g4 : Mp.del (L.map fI) L[m].2.1 = (L.map fI).eraseIdx m := del_at fI L m hm hi.strs
    refine (change_gone w h id d L[m].2.1 L[m].2.2 g2 (by omega) (by omega) hd0 hd1 hp (by omega) ht.1 (by omega)).mono fun e w' ⟨h1, h2, h3⟩ => ⟨h1, ?_, h3⟩
    rw [g3, g4, ← totL_erase L m hm, ← ChangeMaps.map_eraseIdx, ← ChangeMaps.map_eraseIdx] at h2
    exact h2

theorem real_keep {B m1 m2 : Nat} {L : List Blob} {g : Int} {n : Nat} (w : World) (h : SL w B m1 m2 L g) (hi : Inv L g n) (hn : n ≤ 1000000) (id : Int) :
    Calls Try.prog 14 #[.pointer (some ⟨B, 0, none⟩), .int .i64 id] w fun e w' => e = .returned (.int .i64 (chF L id 1).1) ∧ SL w' B m1 m2 (chF L id 1).2 g ∧ Only [B, m1, m2] w w' :=
  keep_of ((real_ch w h hi hn id 1 (by omega) (by omega)).mono fun _ _ h => ⟨⟨_, h.1⟩, h⟩)
theorem real_drop {B m1 m2 : Nat} {L : List Blob} {g : Int} {n : Nat} (w : World) (h : SL w B m1 m2 L g) (hi : Inv L g n) (hn : n ≤ 1000000) (id : Int) :
    Calls Try.prog 17 #[.pointer (some ⟨B, 0, none⟩), .int .i64 id] w fun e w' => e = .returned (.int .i64 (chF L id (-1)).1) ∧ SL w' B m1 m2 (chF L id (-1)).2 g ∧ Only [B, m1, m2] w w' :=
  drop_of ((real_ch w h hi hn id (-1) (by omega) (by omega)).mono fun _ _ h => ⟨⟨_, h.1⟩, h⟩)

theorem ref_put {base R : Nat} {v : Value} {L : List Blob} {g : Int} {n : Nat} (w : World) (h : RA w base R v L g) (hbase : base ≤ w.heap.size) (hi : Inv L g n) (hn : n ≤ 1000000) (s : ByteArray) (hs : s.size ≤ 9223372036854775807) :
    Calls Try.prog 25 #[.pointer (some ⟨R, 0, none⟩), .string s] w fun e w' => e = .returned (.tuple #[.int .i64 (putF L g s).1, .int .i64 (putF L g s).2.1]) ∧ (∃ v', RA w' base R v' (putF L g s).2.2.1 (putF L g s).2.2.2) ∧ Only (R :: v.ownBlock.toList) w w' := by
  have hg0 := hi.g0
  have hg1 := hi.g1
  have hl := hi.len
  rcases put_cases L g s with ⟨hlong, e⟩ | ⟨hs, m, hm, hms, hfirst, e⟩ | ⟨hs, hno, e⟩
  · rw [e]
    exact (rput_long w s hlong hs).mono fun e w' ⟨h1, h2⟩ => ⟨h1, h2 ▸ ⟨v, h⟩, h2 ▸ Only.refl _ _⟩
  · rw [e]
    have hb := hi.each _ (List.getElem_mem hm)
    exact (rput_old w h s hs m hm hms hfirst L[m].2.2 rfl (by omega) (by omega)).mono fun e w' ⟨h1, h2, h3⟩ => ⟨h1, ⟨_, h2⟩, h3⟩
  · rw [e]
    exact rput_new w h hbase s hs hno (by omega) hg0 (by omega)
theorem ref_keep {base R : Nat} {v : Value} {L : List Blob} {g : Int} {n : Nat} (w : World) (h : RA w base R v L g) (hi : Inv L g n) (hn : n ≤ 1000000) (id : Int) :
    Calls Try.prog 26 #[.pointer (some ⟨R, 0, none⟩), .int .i64 id] w fun e w' => e = .returned (.int .i64 (chF L id 1).1) ∧ (∃ v', RA w' base R v' (chF L id 1).2 g) ∧ Only (R :: v.ownBlock.toList) w w' := by
  rcases ch_cases L id 1 with ⟨hno, hf, e⟩ | ⟨m, hm, hid, hf, ⟨hp, e⟩ | ⟨hp, e⟩⟩
  · rw [e]
    exact (rkeep_none w h id hf).mono fun e w' ⟨h1, h2⟩ => ⟨h1, h2 ▸ ⟨v, h⟩, h2 ▸ Only.refl _ _⟩
  · rw [e]
    have hb := hi.each _ (List.getElem_mem hm)
    exact (rkeep_some w h id m hm hf L[m].2.2 rfl (by omega) (by omega)).mono fun e w' ⟨h1, h2, h3⟩ => ⟨h1, ⟨_, h2⟩, h3⟩
  · have hb := hi.each _ (List.getElem_mem hm)
    omega
theorem ref_drop {base R : Nat} {v : Value} {L : List Blob} {g : Int} {n : Nat} (w : World) (h : RA w base R v L g) (hbase : base ≤ w.heap.size) (hi : Inv L g n) (hn : n ≤ 1000000) (id : Int) :
    Calls Try.prog 27 #[.pointer (some ⟨R, 0, none⟩), .int .i64 id] w fun e w' => e = .returned (.int .i64 (chF L id (-1)).1) ∧ (∃ v', RA w' base R v' (chF L id (-1)).2 g) ∧ Only (R :: v.ownBlock.toList) w w' := by
  have hl := hi.len
  rcases ch_cases L id (-1) with ⟨hno, hf, e⟩ | ⟨m, hm, hid, hf, ⟨hp, e⟩ | ⟨hp, e⟩⟩
  · rw [e]
    exact (rdrop_none w h id hf).mono fun e w' ⟨h1, h2⟩ => ⟨h1, h2 ▸ ⟨v, h⟩, h2 ▸ Only.refl _ _⟩
  · rw [e]
    have hb := hi.each _ (List.getElem_mem hm)
    exact (rdrop_some w h id m hm hf L[m].2.2 rfl (by omega) (by omega)).mono fun e w' ⟨h1, h2, h3⟩ => ⟨h1, ⟨_, h2⟩, h3⟩
  · rw [e]
    have hb := hi.each _ (List.getElem_mem hm)
    exact rdrop_gone w h hbase id m hm hf (by omega) (by omega)

/-- The two stores side by side, both made since block n0. -/
structure Two (n0 : Nat) (w : World) (B m1 m2 base R : Nat) (L1 : List Blob) (g1 : Int) (L2 : List Blob) (g2 : Int) : Prop where
  real : SL w B m1 m2 L1 g1
  ref : ∃ v, RA w base R v L2 g2
  b0 : n0 ≤ B
  b1 : n0 ≤ m1
  b2 : n0 ≤ m2
  r0 : n0 ≤ base
  r1 : base ≤ w.heap.size
  z0 : n0 ≤ w.heap.size

theorem RA.only {w w' : World} {base R : Nat} {v : Value} {L : List Blob} {g : Int} (h : RA w base R v L g) {B m1 m2 : Nat} {ids : List (ByteArray × Int)} {ents : List (Int × (ByteArray × Int))} {g' tot : Int} (hs : SA w B m1 m2 ids ents g' tot) (ho : Only [B, m1, m2] w w') : RA w' base R v L g := by
  obtain ⟨es1, c1, hb1, _⟩ := hs.h1
  obtain ⟨es2, c2, hb2, _⟩ := hs.h2
  refine ⟨(ho.block R h.lt ?_).trans h.blk, ?_, h.le⟩
  · intro hm
    simp only [List.mem_cons, List.not_mem_nil, or_false] at hm
    have hb := h.blk
    rcases hm with rfl | rfl | rfl
    · rw [hs.blk] at hb; simp at hb
    · rw [hb1] at hb; cases hb
    · rw [hb2] at hb; cases hb
  · refine ⟨h.row.1, ?_⟩
    rcases h.row.2 with h2 | ⟨g, cap, cur, h1, h2, h3, h4⟩
    · exact .inl h2
    · refine .inr ⟨g, cap, cur, h1, h2, (ho.block g (Array.getElem?_eq_some_iff.1 h3).1 ?_).trans h3, h4⟩
      intro hm
      simp only [List.mem_cons, List.not_mem_nil, or_false] at hm
      rcases hm with rfl | rfl | rfl
      · rw [hs.blk] at h3; simp at h3
      · rw [hb1] at h3; cases h3
      · rw [hb2] at h3; cases h3
theorem SA.only {w w' : World} {base R : Nat} {v : Value} {L : List Blob} {g : Int} (h : RA w base R v L g) {B m1 m2 : Nat} {ids : List (ByteArray × Int)} {ents : List (Int × (ByteArray × Int))} {g' tot : Int} (hs : SA w B m1 m2 ids ents g' tot) (ho : Only (R :: v.ownBlock.toList) w w') : SA w' B m1 m2 ids ents g' tot := by
  obtain ⟨es1, c1, hb1, _⟩ := hs.h1
  obtain ⟨es2, c2, hb2, _⟩ := hs.h2
  have key : ∀ (k : Nat) (o : Obj), w.heap[k]? = some o → (∀ vs t fr, o = .cells vs t fr → t ≠ 32 ∧ t ≠ 37) → w'.heap[k]? = w.heap[k]? := by
    intro k o hk hno
    refine ho.block k (Array.getElem?_eq_some_iff.1 hk).1 ?_
    intro hm
    simp only [List.mem_cons, Option.mem_toList] at hm
    rcases hm with rfl | hm
    · rw [h.blk] at hk; cases hk; exact absurd rfl (hno _ _ _ rfl).1
    · rcases h.row.2 with ⟨rfl, _⟩ | ⟨g, cap, cur, rfl, _, h3, _⟩
      · simp [Value.ownBlock] at hm
      · simp [Value.ownBlock] at hm
        subst hm
        rw [h3] at hk; cases hk; exact absurd rfl (hno _ _ _ rfl).2
  exact ⟨(key B _ hs.blk (by intro vs t fr e; cases e; decide)).trans hs.blk, hs.h1.of_heap (key m1 _ hb1 (by intro vs t fr e; cases e)), hs.h2.of_heap (key m2 _ hb2 (by intro vs t fr e; cases e)), hs.ne⟩

/-- Nothing below n0 has turned, and no block of cells of another type than the stores' own. -/
structure Fr (n0 : Nat) (w w' : World) : Prop where
  bel : Below n0 w w'
  oth : ∀ (k : Nat) (vs : Array Value) (t : TypeId) (fr : Nat × Nat), w.heap[k]? = some (.cells vs t fr) → t ≠ 57 → t ≠ 32 → t ≠ 37 → w'.heap[k]? = some (.cells vs t fr)
theorem Fr.trans {n0 : Nat} {a b c : World} (h : Fr n0 a b) (k : Fr n0 b c) : Fr n0 a c := ⟨h.bel.trans k.bel, fun i vs t fr hi h1 h2 h3 => k.oth i vs t fr (h.oth i vs t fr hi h1 h2 h3) h1 h2 h3⟩
theorem Fr.of_below {n0 : Nat} {a b : World} (h : Below a.heap.size a b) (hn : n0 ≤ a.heap.size) : Fr n0 a b := ⟨h.mono hn, fun i _ _ _ hi _ _ _ => (h.block i (Array.getElem?_eq_some_iff.1 hi).1).trans hi⟩
theorem Fr.refl (n0 : Nat) (a : World) : Fr n0 a a := ⟨Below.refl _ _, fun _ _ _ _ h _ _ _ => h⟩

section
variable {n0 B m1 m2 base R : Nat} {L1 L2 L1' L2' : List Blob} {g1 g2 g1' g2' : Int} {w w' : World}
theorem Two.left (h : Two n0 w B m1 m2 base R L1 g1 L2 g2) (hs : SL w' B m1 m2 L1' g1') (ho : Only [B, m1, m2] w w') : Two n0 w' B m1 m2 base R L1' g1' L2 g2 ∧ Fr n0 w w' := by
  obtain ⟨v, hv⟩ := h.ref
  have hz := ho.size
  have h0 := h.r1
  have h3 := h.z0
  refine ⟨⟨hs, ⟨v, hv.only h.real ho⟩, h.b0, h.b1, h.b2, h.r0, by omega, by omega⟩, ho.below (by have := h.b0; have := h.b1; have := h.b2; simp; omega) h.z0, ?_⟩
  intro k vs t fr hk n57 _ _
  obtain ⟨es1, c1, hb1, _⟩ := h.real.h1
  obtain ⟨es2, c2, hb2, _⟩ := h.real.h2
  have hb := h.real.blk
  refine (ho.block k (Array.getElem?_eq_some_iff.1 hk).1 ?_).trans hk
  intro hm
  simp only [List.mem_cons, List.not_mem_nil, or_false] at hm
  rcases hm with rfl | rfl | rfl
  · rw [hb] at hk; cases hk; exact n57 rfl
  · rw [hb1] at hk; cases hk
  · rw [hb2] at hk; cases hk
theorem Two.right (h : Two n0 w B m1 m2 base R L1 g1 L2 g2) {v : Value} (hv : RA w base R v L2 g2) (hs : ∃ v', RA w' base R v' L2' g2') (ho : Only (R :: v.ownBlock.toList) w w') : Two n0 w' B m1 m2 base R L1 g1 L2' g2' ∧ Fr n0 w w' := by
  have hz := ho.size
  have h0 := h.r1
  have h3 := h.z0
  refine ⟨⟨SA.only hv h.real ho, hs, h.b0, h.b1, h.b2, h.r0, by omega, by omega⟩, ho.below ?_ h.z0, ?_⟩
  rotate_left
  · intro k vs t fr hk _ n32 n37
    refine (ho.block k (Array.getElem?_eq_some_iff.1 hk).1 ?_).trans hk
    intro hm
    simp only [List.mem_cons, Option.mem_toList] at hm
    rcases hm with rfl | hm
    · rw [hv.blk] at hk; cases hk; exact n32 rfl
    · rcases hv.row.2 with ⟨rfl, _⟩ | ⟨g, cap, cur, rfl, _, h3, _⟩
      · simp [Value.ownBlock] at hm
      · simp [Value.ownBlock] at hm
        subst hm
        rw [h3] at hk; cases hk; exact n37 rfl
  intro b hb
  simp only [List.mem_cons, Option.mem_toList] at hb
  rcases hb with rfl | hb
  · have := hv.le; have := h.r0; omega
  · have := (hv.row.lt b hb).1; have := h.r0; omega
theorem Two.below (h : Two n0 w B m1 m2 base R L1 g1 L2 g2) (hb : Below w.heap.size w w') : Two n0 w' B m1 m2 base R L1 g1 L2 g2 := by
  obtain ⟨v, hv⟩ := h.ref
  have hz := hb.size
  have h0 := h.r1
  have h3 := h.z0
  refine ⟨SA.below h.real hb, ⟨v, ⟨(hb.block R hv.lt).trans hv.blk, hv.row.kept (row := none) ⟨hb.os, hb.tape, hb.output, hb.size, fun k hk _ => hb.block k hk⟩ ?_, hv.le⟩⟩, h.b0, h.b1, h.b2, h.r0, by omega, by omega⟩
  rcases hv.row.2 with ⟨rfl, _⟩ | ⟨g, cap, cur, rfl, _⟩
  · exact .inl rfl
  · exact .inr (by simp [Value.ownBlock])
end

end Go.Proofs.Ytfgnagnnmibmaaa
