/- What the plain parser takes is the encoding of what it returns. -/
import Derived.Test.YtoaimoemaoinhaaGreatDoorLawB
namespace Go.Proofs.YtoaimoemaoinhaaGreatDoor
open Go.RowKit Go.Rt Go.Rw

theorem u8_eq {n : Int} {c : UInt8} (h : n % 256 = (c.toNat : Int)) : u8 n = c := by
  apply UInt8.toNat_inj.1
  have := u8_toNat n
  omega
theorem numP_one {r r1 : List UInt8} {n : Nat} (h : numP r 1 = some (n, r1)) : r = u8 n :: r1 ∧ n < 256 := by
  cases r with
  | nil => simp [numP, takeL] at h
  | cons c r =>
    rw [numP_cons] at h
    cases h
    have := UInt8.toNat_lt c
    exact ⟨by rw [u8_eq (c := c) (by omega)], this⟩
theorem numP_split {r r1 : List UInt8} {k n : Nat} (h : numP r k = some (n, r1)) : ∃ a, a.length = k ∧ r = a ++ r1 ∧ n = beN a := by
  unfold numP at h
  cases hq : takeL r k with
  | none => rw [hq] at h; cases h
  | some q =>
    rw [hq] at h
    cases h
    have := takeL_len (a := q.1) (r1 := q.2) hq
    exact ⟨q.1, this.1, this.2, rfl⟩
theorem numP_two {r r1 : List UInt8} {n : Nat} (h : numP r 2 = some (n, r1)) : r = num2 n ++ r1 ∧ n < 65536 := by
  obtain ⟨a, ha, rfl, hn⟩ := numP_split h
  match a, ha with
  | [c, d], _ =>
    have h1 := UInt8.toNat_lt c
    have h2 := UInt8.toNat_lt d
    have e : n = (0 * 256 + c.toNat) * 256 + d.toNat := hn
    refine ⟨?_, by omega⟩
    unfold num2
    rw [u8_eq (n := (n : Int) / 256) (c := c) (by omega), u8_eq (n := (n : Int)) (c := d) (by omega)]
theorem numP_four {r r1 : List UInt8} {n : Nat} (h : numP r 4 = some (n, r1)) : r = num4 n ++ r1 ∧ n < 4294967296 := by
  obtain ⟨a, ha, rfl, hn⟩ := numP_split h
  match a, ha with
  | [b, c, d, f], _ =>
    have h1 := UInt8.toNat_lt c
    have h2 := UInt8.toNat_lt d
    have h3 := UInt8.toNat_lt b
    have h4 := UInt8.toNat_lt f
    have e : n = (((0 * 256 + b.toNat) * 256 + c.toNat) * 256 + d.toNat) * 256 + f.toNat := hn
    refine ⟨?_, by omega⟩
    unfold num4
    rw [u8_eq (n := (n : Int) / 16777216) (c := b) (by omega), u8_eq (n := (n : Int) / 65536) (c := c) (by omega), u8_eq (n := (n : Int) / 256) (c := d) (by omega), u8_eq (n := (n : Int)) (c := f) (by omega)]
theorem u8_congr {x y : Int} (h : x % 256 = y % 256) : u8 x = u8 y := by unfold u8; rw [h]
theorem num4_congr {x y : Int} (h : x % 4294967296 = y % 4294967296) : num4 x = num4 y := by
  unfold num4
  rw [u8_congr (x := x / 16777216) (y := y / 16777216) (by omega), u8_congr (x := x / 65536) (y := y / 65536) (by omega), u8_congr (x := x / 256) (y := y / 256) (by omega), u8_congr (x := x) (y := y) (by omega)]
theorem bA_data (a : List UInt8) : (bA a).data.toList = a := by simp [bA]
theorem bA_size (a : List UInt8) : (bA a).size = a.length := by show a.toArray.size = _; simp
theorem nameP_split {r r1 : List UInt8} {a : List UInt8} (h : nameP r = some (a, r1)) : r = atomB (bA a) ++ r1 ∧ a.length < 256 := by
  unfold nameP at h
  cases hq : numP r 1 with
  | none => rw [hq] at h; cases h
  | some q =>
    obtain ⟨t, r2⟩ := q
    rw [hq] at h
    dsimp only at h
    split at h
    · rename_i ht
      subst ht
      cases hq2 : numP r2 1 with
      | none => rw [hq2] at h; cases h
      | some q =>
        obtain ⟨n, r3⟩ := q
        rw [hq2] at h
        dsimp only at h
        obtain ⟨e1, _⟩ := numP_one hq
        obtain ⟨e2, hn⟩ := numP_one hq2
        obtain ⟨ha, e3⟩ := takeL_len h
        subst e1 e2 e3
        refine ⟨?_, by omega⟩
        unfold atomB
        rw [bA_size, ha]
        simp [bA, u8]
    · cases h
theorem leB_leN : ∀ b, (b = [] ∨ lastZ b = false) → leB (leN b) = b
  | [], _ => by rw [leN, leB_zero]
  | c :: t, h => by
    have h : lastZ (c :: t) = false := by rcases h with h | h; cases h; exact h
    have hc := UInt8.toNat_lt c
    by_cases ht : t = []
    · subst ht
      unfold lastZ at h
      simp at h
      have h0 : c.toNat ≠ 0 := fun e => h e
      rw [leN, leN, leB_pos (by omega), show (c.toNat + 256 * 0) / 256 = 0 by omega, leB_zero, u8_eq (c := c) (by omega)]
    · rw [lastZ_cons _ _ ht] at h
      have ih := leB_leN t (.inr h)
      have h0 : leN t ≠ 0 := by intro e; rw [e, leB_zero] at ih; exact ht ih.symm
      rw [leN, leB_pos (by omega), show (c.toNat + 256 * leN t) / 256 = leN t by omega, ih, u8_eq (c := c) (by omega)]
theorem largeP_split {r r1 : List UInt8} {n : Int} (h : largeP r = some (n, r1)) : 110 :: r = intB n ++ r1 ∧ (-9223372036854775808 ≤ n ∧ n ≤ 9223372036854775807) := by
  unfold largeP at h
  cases hq : numP r 1 with
  | none => rw [hq] at h; cases h
  | some q =>
    obtain ⟨k, r2⟩ := q
    rw [hq] at h
    dsimp only at h
    cases hq2 : numP r2 1 with
    | none => rw [hq2] at h; cases h
    | some q =>
      obtain ⟨sg, r3⟩ := q
      rw [hq2] at h
      dsimp only at h
      split at h
      · rename_i hk
        cases hq3 : takeL r3 k with
        | none => rw [hq3] at h; cases h
        | some q =>
          obtain ⟨b, r4⟩ := q
          rw [hq3] at h
          dsimp only at h
          obtain ⟨e1, _⟩ := numP_one hq
          obtain ⟨e2, _⟩ := numP_one hq2
          obtain ⟨hb, e3⟩ := takeL_len hq3
          cases hz : lastZ b with
          | true => rw [hz] at h; cases h
          | false =>
            rw [hz, if_neg (by decide)] at h
            have hl := leB_leN b (.inr hz)
            subst e1 e2 e3 hb
            split at h
            · rename_i h1
              split at h
              · cases h
                refine ⟨?_, by omega⟩
                unfold intB
                rw [if_neg (by omega), if_neg (by omega), Int.natAbs_neg, Int.natAbs_natCast, hl, h1]
                have : signB (-(leN b : Int)) = 1 := by unfold signB; rw [if_pos (by omega)]
                rw [this]
                rfl
              · cases h
            · rename_i h1
              split at h
              · cases h
                refine ⟨?_, by omega⟩
                unfold intB
                rw [if_neg (by omega), if_neg (by omega), Int.natAbs_natCast, hl, show sg = 0 by omega]
                have : signB (leN b : Int) = 0 := by unfold signB; rw [if_neg (by omega)]
                rw [this]
                rfl
              · cases h
      · cases h
/-- A flat term that is taken. -/
def Snd (T : Nat → List UInt8 → Pr Tm) (k : Nat) : Prop := ∀ p r t p1 r1, T p r = some (t, p1, r1) → codeT t ++ r1 = r ∧ p1 + k = p + cnt t ∧ (r.length ≤ 200000 → fitT t)
theorem itemsP_split {T : Nat → List UInt8 → Pr Tm} (hT : Snd T 0) : ∀ n p r ts p1 r1, itemsP T n p r = some (ts, p1, r1) → ts.length = n ∧ codeL ts ++ r1 = r ∧ p1 = p + cntL ts ∧ (r.length ≤ 200000 → fitL ts)
  | 0, p, r, ts, p1, r1, h => by
    cases h
    exact ⟨rfl, rfl, rfl, fun _ => trivial⟩
  | n + 1, p, r, ts, p1, r1, h => by
    rw [itemsP] at h
    cases hq : T p r with
    | none => rw [hq] at h; cases h
    | some q =>
      obtain ⟨t, p2, r2⟩ := q
      rw [hq] at h
      dsimp only at h
      cases hq2 : itemsP T n p2 r2 with
      | none => rw [hq2] at h; cases h
      | some q =>
        obtain ⟨us, p3, r3⟩ := q
        rw [hq2] at h
        cases h
        obtain ⟨e1, c1, f1⟩ := hT _ _ _ _ _ hq
        obtain ⟨hl, e2, c2, f2⟩ := itemsP_split hT n _ _ _ _ _ hq2
        refine ⟨by rw [List.length_cons, hl], by rw [codeL, List.append_assoc, e2, e1], by rw [cntL]; omega, fun h => ?_⟩
        rw [fitL]
        refine ⟨f1 h, f2 ?_⟩
        rw [← e1, List.length_append] at h
        omega
theorem itemsQ_split {T : Nat → List UInt8 → Pr Tm} (hT : Snd T 0) {n p : Nat} {r : List UInt8} {ts : List Tm} {p1 : Nat} {r1 : List UInt8} (h : itemsQ T n p r = some (ts, p1, r1)) : ts.length = n ∧ codeL ts ++ r1 = r ∧ p1 = p + cntL ts ∧ (r.length ≤ 200000 → fitL ts) := by
  unfold itemsQ at h
  split at h
  · exact itemsP_split hT _ _ _ _ _ _ h
  · cases h
theorem fitF_mk {k n g : Int} {nm fn : ByteArray} {ar : Int} {bs : ByteArray} {bt : Int} (h1 : nm.size ≤ 200000) (h2 : fn.size ≤ 200000) (h3 : bs.size ≤ 200000) (hk : -9223372036854775808 ≤ k ∧ k ≤ 9223372036854775807) (hn : -9223372036854775808 ≤ n ∧ n ≤ 9223372036854775807) (hg : -9223372036854775808 ≤ g ∧ g ≤ 9223372036854775807) (ha : -9223372036854775808 ≤ ar ∧ ar ≤ 9223372036854775807) (hb : -9223372036854775808 ≤ bt ∧ bt ≤ 9223372036854775807) : fitF ⟨k, n, g, nm, fn, ar, bs, bt⟩ := ⟨⟨h1, h2, h3⟩, hk, hn, hg, ha, hb⟩
theorem noB_size : noB.size = 0 := rfl
theorem int_snd (n : Int) (p : Nat) (r r1 : List UInt8) (h : intB n ++ r1 = r) (hn : -9223372036854775808 ≤ n ∧ n ≤ 9223372036854775807) : codeT (intT n) ++ r1 = r ∧ p + 1 = p + cnt (intT n) ∧ (r.length ≤ 200000 → fitT (intT n)) := by
  refine ⟨?_, rfl, fun _ => ?_⟩
  · rw [← h]
    show (headB ⟨1, n, 0, noB, noB, 0, noB, 0⟩ 0 ++ codeL []) ++ r1 = _
    rw [codeL, List.append_nil]
    rfl
  · unfold intT
    rw [fitT]
    exact ⟨fitF_mk (by decide) (by decide) (by decide) (by omega) hn (by omega) (by omega) (by omega), trivial⟩
theorem flat_snd {f : Fl} {b r r1 : List UInt8} (p : Nat) (h : headB f 0 = b) (e : b ++ r1 = r) (hf : r.length ≤ 200000 → fitF f) : codeT (.mk f []) ++ r1 = r ∧ p + 1 = p + cnt (.mk f []) ∧ (r.length ≤ 200000 → fitT (.mk f [])) := by
  refine ⟨?_, by rw [cnt, cntL], fun q => ?_⟩
  · rw [codeT, codeL, List.append_nil, List.length_nil, h, e]
  · rw [fitT]; exact ⟨hf q, trivial⟩
theorem deep_snd {f : Fl} {l : List Tm} {b r r1 r2 : List UInt8} {p p1 : Nat} (h : headB f l.length = b) (e : b ++ r2 = r) (e2 : codeL l ++ r1 = r2) (hp : p1 = p + cntL l) (hf : r.length ≤ 200000 → fitF f) (hl : r2.length ≤ 200000 → fitL l) : codeT (.mk f l) ++ r1 = r ∧ p1 + 1 = p + cnt (.mk f l) ∧ (r.length ≤ 200000 → fitT (.mk f l)) := by
  refine ⟨?_, by rw [cnt]; omega, fun q => ?_⟩
  · rw [codeT, h, List.append_assoc, e2, e]
  · rw [fitT]; exact ⟨hf q, hl (by rw [← e, List.length_append] at q; omega)⟩
set_option maxHeartbeats 1000000 in
theorem tag_snd {T : Nat → List UInt8 → Pr Tm} (hT : Snd T 0) {p tag : Nat} {r : List UInt8} {t : Tm} {p1 : Nat} {r1 : List UInt8} (h : tagP T p tag r = some (t, p1, r1)) : codeT t ++ r1 = u8 tag :: r ∧ p1 + 1 = p + cnt t ∧ ((u8 tag :: r).length ≤ 200000 → fitT t) := by
  unfold tagP at h
  split at h
  · rename_i e; subst e
    unfold p97 at h
    split at h
    · cases h
    · rename_i n r2 hq
      cases h
      obtain ⟨rfl, hn⟩ := numP_one hq
      exact int_snd _ _ _ _ (by unfold intB; rw [if_pos (by omega)]; rfl) (by omega)
  split at h
  · rename_i e; subst e
    unfold p98 at h
    split at h
    · cases h
    · rename_i n r2 hq
      split at h
      · rename_i hc
        cases h
        obtain ⟨rfl, hn⟩ := numP_four hq
        have hr : -2147483648 ≤ toI32 n ∧ toI32 n < 2147483648 := by unfold toI32; split <;> omega
        have hm : toI32 n % 4294967296 = (n : Int) % 4294967296 := by unfold toI32; split <;> omega
        exact int_snd _ _ _ _ (by unfold intB; rw [if_neg (by omega), if_pos (by omega), num4_congr hm]; rfl) (by omega)
      · cases h
  split at h
  · rename_i e; subst e
    unfold p110 at h
    split at h
    · cases h
    · rename_i n r2 hq
      cases h
      obtain ⟨e, hn⟩ := largeP_split hq
      exact int_snd _ _ _ _ e.symm hn
  split at h
  · rename_i e; subst e
    unfold p119 at h
    split at h
    · cases h
    · rename_i n r2 hq
      split at h
      · cases h
      · rename_i a r3 hq2
        cases h
        obtain ⟨rfl, hn⟩ := numP_one hq
        obtain ⟨ha, rfl⟩ := takeL_len hq2
        have hs := bA_size a
        exact flat_snd _ (b := atomB (bA a)) rfl (by unfold atomB; rw [hs, ha]; simp [bA]; rfl) (fun _ => fitF_mk (by omega) (by decide) (by decide) (by omega) (by omega) (by omega) (by omega) (by omega))
  split at h
  · rename_i e; subst e
    unfold p104 at h
    split at h
    · cases h
    · rename_i n r2 hq
      split at h
      · cases h
      · rename_i ts p2 r3 hq2
        cases h
        obtain ⟨rfl, hn⟩ := numP_one hq
        obtain ⟨hl, e2, hp, hf⟩ := itemsQ_split hT hq2
        exact deep_snd (b := [104, u8 n]) (by rw [hl]; rfl) rfl e2 hp (fun _ => fitF_mk (by decide) (by decide) (by decide) (by omega) (by omega) (by omega) (by omega) (by omega)) hf
  split at h
  · rename_i e; subst e
    cases h
    exact flat_snd _ (b := [106]) rfl rfl (fun _ => fitF_mk (by decide) (by decide) (by decide) (by omega) (by omega) (by omega) (by omega) (by omega))
  split at h
  · rename_i e; subst e
    unfold p108 at h
    split at h
    · cases h
    · rename_i n r2 hq
      split at h
      · cases h
      · rename_i ts p2 r3 hq2
        cases h
        obtain ⟨rfl, hn⟩ := numP_four hq
        obtain ⟨hl, e2, hp, hf⟩ := itemsQ_split hT hq2
        exact deep_snd (b := 108 :: num4 n) (by rw [hl]; show 108 :: num4 _ = _; rw [show (((n + 1 : Nat) : Int) - 1) = n by omega]) rfl e2 hp (fun _ => fitF_mk (by decide) (by decide) (by decide) (by omega) (by omega) (by omega) (by omega) (by omega)) hf
  split at h
  · rename_i e; subst e
    unfold p109 at h
    split at h
    · cases h
    · rename_i n r2 hq
      split at h
      · cases h
      · rename_i a r3 hq2
        cases h
        obtain ⟨rfl, hn⟩ := numP_four hq
        obtain ⟨ha, rfl⟩ := takeL_len hq2
        have hs := bA_size a
        refine flat_snd _ (b := 109 :: (num4 n ++ a)) ?_ (by rw [List.cons_append, List.append_assoc]; rfl) (fun q => ?_)
        · have : 8 * (a.length : Int) % 8 = 0 := by omega
          simp [headB, hs, ha, bA_data]
        · simp at q
          exact fitF_mk (by decide) (by decide) (by omega) (by omega) (by omega) (by omega) (by omega) (by omega)
  split at h
  · rename_i e; subst e
    unfold p77 at h
    split at h
    · cases h
    · rename_i n r2 hq
      split at h
      · cases h
      · rename_i k r3 hq2
        split at h
        · rename_i hc
          split at h
          · cases h
          · rename_i a r4 hq3
            cases h
            obtain ⟨rfl, hn⟩ := numP_four hq
            obtain ⟨rfl, hk⟩ := numP_one hq2
            obtain ⟨ha, rfl⟩ := takeL_len hq3
            have hs := bA_size a
            refine flat_snd _ (b := 77 :: (num4 n ++ (u8 k :: a))) ?_ (by rw [List.cons_append, List.append_assoc, List.cons_append]; rfl) (fun q => ?_)
            · have h1 : ¬ k = 0 := by omega
              have h2 : (8 * ((n : Int) - 1) + k) % 8 = k := by omega
              simp [headB, h1, h2, hs, ha, bA_data]
            · simp at q
              exact fitF_mk (by decide) (by decide) (by omega) (by omega) (by omega) (by omega) (by omega) (by omega)
        · cases h
  split at h
  · rename_i e; subst e
    unfold p88 at h
    split at h
    · cases h
    · rename_i a r2 hq
      split at h
      · cases h
      · rename_i n r3 hq2
        split at h
        · cases h
        · rename_i z r4 hq3
          split at h
          · rename_i hz
            split at h
            · cases h
            · rename_i g r5 hq4
              cases h
              subst hz
              obtain ⟨rfl, ha⟩ := nameP_split hq
              obtain ⟨rfl, hn⟩ := numP_four hq2
              obtain ⟨rfl, _⟩ := numP_four hq3
              obtain ⟨rfl, hg⟩ := numP_four hq4
              have hs := bA_size a
              exact flat_snd _ (b := 88 :: (atomB (bA a) ++ (num4 n ++ (num4 0 ++ num4 g)))) rfl (by simp; rfl) (fun _ => fitF_mk (by omega) (by decide) (by decide) (by omega) (by omega) (by omega) (by omega) (by omega))
          · cases h
  split at h
  · rename_i e; subst e
    unfold p90 at h
    split at h
    · cases h
    · rename_i z r2 hq
      split at h
      · rename_i hz
        split at h
        · cases h
        · rename_i a r3 hq2
          split at h
          · cases h
          · rename_i g r4 hq3
            split at h
            · cases h
            · rename_i n r5 hq4
              cases h
              subst hz
              obtain ⟨rfl, _⟩ := numP_two hq
              obtain ⟨rfl, ha⟩ := nameP_split hq2
              obtain ⟨rfl, hg⟩ := numP_four hq3
              obtain ⟨rfl, hn⟩ := numP_four hq4
              have hs := bA_size a
              exact flat_snd _ (b := 90 :: 0 :: 1 :: (atomB (bA a) ++ (num4 g ++ num4 n))) rfl (by simp; exact ⟨rfl, rfl⟩) (fun _ => fitF_mk (by omega) (by decide) (by decide) (by omega) (by omega) (by omega) (by omega) (by omega))
      · cases h
  unfold funP at h
  split at h
  · rename_i e; subst e
    unfold p113 at h
    split at h
    · cases h
    · rename_i a r2 hq
      split at h
      · cases h
      · rename_i f r3 hq2
        split at h
        · cases h
        · rename_i z r4 hq3
          split at h
          · rename_i hz
            split at h
            · cases h
            · rename_i k r5 hq4
              cases h
              subst hz
              obtain ⟨rfl, ha⟩ := nameP_split hq
              obtain ⟨rfl, hf⟩ := nameP_split hq2
              obtain ⟨rfl, _⟩ := numP_one hq3
              obtain ⟨rfl, hk⟩ := numP_one hq4
              have hs := bA_size a
              have hs2 := bA_size f
              exact flat_snd _ (b := 113 :: (atomB (bA a) ++ (atomB (bA f) ++ [97, u8 k]))) (by simp [headB]; unfold intB; rw [if_pos (by omega)]) (by simp; exact ⟨rfl, rfl⟩) (fun _ => fitF_mk (by omega) (by omega) (by decide) (by omega) (by omega) (by omega) (by omega) (by omega))
          · cases h
  split at h
  · rename_i e; subst e
    unfold p112 at h
    split at h
    · cases h
    · rename_i k r2 hq
      split at h
      · cases h
      · rename_i n r3 hq2
        split at h
        · cases h
        · rename_i c r4 hq3
          split at h
          · cases h
          · rename_i a r5 hq4
            split at h
            · cases h
            · rename_i g r6 hq5
              split at h
              · cases h
              · rename_i ts p2 r7 hq6
                cases h
                obtain ⟨rfl, hk⟩ := numP_one hq
                obtain ⟨rfl, hn⟩ := numP_two hq2
                obtain ⟨rfl, hc⟩ := numP_one hq3
                obtain ⟨rfl, ha⟩ := nameP_split hq4
                obtain ⟨rfl, hg⟩ := numP_four hq5
                obtain ⟨hl, e2, hp, hf⟩ := itemsQ_split hT hq6
                have hs := bA_size a
                exact deep_snd (b := 112 :: u8 k :: (num2 n ++ (u8 c :: (atomB (bA a) ++ num4 g)))) (by rw [hl]; rfl) (by simp; rfl) e2 hp (fun _ => fitF_mk (by omega) (by decide) (by decide) (by omega) (by omega) (by omega) (by omega) (by omega)) hf
  · cases h
theorem body_snd {T : Nat → List UInt8 → Pr Tm} (hT : Snd T 0) : Snd (bodyP T) 1 := by
  intro p r t p1 r1 h
  unfold bodyP at h
  split at h
  · cases h
  · rename_i tag r2 hq
    obtain ⟨rfl, _⟩ := numP_one hq
    exact tag_snd hT h
/-- What is taken is the encoding of the result. -/
theorem term_snd : ∀ d, Snd (termP d) 0
  | 0 => fun p r t p1 r1 h => by cases h
  | d + 1 => fun p r t p1 r1 h => by
    rw [termP] at h
    split at h
    · obtain ⟨h1, h2, h3⟩ := body_snd (term_snd d) _ _ _ _ _ h
      exact ⟨h1, by omega, h3⟩
    · cases h
end Go.Proofs.YtoaimoemaoinhaaGreatDoor
