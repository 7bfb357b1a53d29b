/- Decode and Encode of signals are inverse to each other; what the reference's Decode answers. Plain: no program in sight. -/
import Derived.Test.YtoaimoemaoinhaaGreatDoorDec
namespace Go.Proofs.YtoaimoemaoinhaaGreatDoor
open Go.RowKit Go.Rt Go.Rw

/-- The bytes of some fields. -/
def encT (u : Int) (s : Sg) : List Nat → List UInt8
 | [] => []
 | i :: r => (if hasU u i then codeT (fldT s i) else []) ++ encT u s r
theorem encP_T (u : Int) (s : Sg) : encP u s 7 = UInt8.ofNat (s.k % 256).toNat :: encT u s [0, 1, 2, 3, 4, 5, 6] := by
 simp [encP, encT]
/-- A signal after some of another one's fields were set. -/
def onS (u : Int) (s : Sg) : List Nat → Sg → Sg
 | [], s0 => s0
 | i :: r, s0 => onS u s r (if hasU u i then setF s0 (fldT s i) i else s0)
theorem bytesB_list (l : List UInt8) : (bytesB l).data.toList = l := by simp [bytesB]
theorem bytesB_size (l : List UInt8) : (bytesB l).size = l.length := by rw [size_list, bytesB_list]
theorem bytesB_extract (a b : List UInt8) : (bytesB (a ++ b)).extract a.length (bytesB (a ++ b)).size = bytesB b := by
 apply bytes_list
 rw [ByteArray.data_extract, Array.toList_extract, bytesB_list, bytesB_list, bytesB_size]
 simp [List.extract]
theorem decL_on {u : Int} {s : Sg} (hf : FitE s) : ∀ (l : List Nat) (s0 : Sg), (∀ i ∈ l, hasU u i = true → okFld s i = true) → decL u l s0 (bytesB (encT u s l)) = some (onS u s l s0, bytesB [])
 | [], s0, _ => rfl
 | i :: r, s0, h => by
  have ih := decL_on (u := u) hf r
  cases hu : hasU u i with
  | false =>
   have e1 : encT u s (i :: r) = encT u s r := by rw [encT, hu]; rfl
   have e2 : onS u s (i :: r) s0 = onS u s r s0 := by rw [onS, hu]; rfl
   rw [e1, e2, decL_no r s0 _ hu]
   exact ih s0 (fun j hj => h j (List.mem_cons_of_mem _ hj))
  | true =>
   have hok := h i List.mem_cons_self hu
   have hv := okFld_valid hok
   have hk : fldK i = 0 ∨ (fldT s i).f.k = fldK i := by
    unfold okFld at hok
    simp only [Bool.and_eq_true, Bool.or_eq_true, decide_eq_true_eq] at hok
    exact hok.2.1
   have e1 : encT u s (i :: r) = codeT (fldT s i) ++ encT u s r := by rw [encT, hu]; rfl
   have e2 : onS u s (i :: r) s0 = onS u s r (setF s0 (fldT s i) i) := by rw [onS, hu]; rfl
   rw [e1, e2]
   have ht := takeF_code hv (hf.fld i).1 (s := bytesB (codeT (fldT s i) ++ encT u s r)) (m := encT u s r) (bytesB_list _)
   rw [decL_yes r s0 _ hu (by
    rw [ht]
    rintro (h | ⟨h1, h2⟩)
    ·
     exact h rfl
    ·
     rcases hk with h | h
     ·
      exact h1 h
     ·
      exact h2 h), ht]
   show decL u r (setF s0 (fldT s i) i) ((bytesB (codeT (fldT s i) ++ encT u s r)).extract (codeT (fldT s i)).length _) = _
   rw [bytesB_extract]
   exact ih _ (fun j hj => h j (List.mem_cons_of_mem _ hj))
theorem set0 (c : Bool) (s0 : Sg) (t : Tm) : (if c then setF s0 t 0 else s0) = { s0 with fr := if c then t else s0.fr } := by cases c <;> rfl
theorem set1 (c : Bool) (s0 : Sg) (t : Tm) : (if c then setF s0 t 1 else s0) = { s0 with tt := if c then t else s0.tt } := by cases c <;> rfl
theorem set2 (c : Bool) (s0 : Sg) (t : Tm) : (if c then setF s0 t 2 else s0) = { s0 with node := if c then t.f.nm else s0.node } := by cases c <;> rfl
theorem set3 (c : Bool) (s0 : Sg) (t : Tm) : (if c then setF s0 t 3 else s0) = { s0 with name := if c then t.f.nm else s0.name } := by cases c <;> rfl
theorem set4 (c : Bool) (s0 : Sg) (t : Tm) : (if c then setF s0 t 4 else s0) = { s0 with ref := if c then t else s0.ref } := by cases c <;> rfl
theorem set5 (c : Bool) (s0 : Sg) (t : Tm) : (if c then setF s0 t 5 else s0) = { s0 with num := if c then t.f.n else s0.num } := by cases c <;> rfl
theorem set6 (c : Bool) (s0 : Sg) (t : Tm) : (if c then setF s0 t 6 else s0) = { s0 with val := if c then t else s0.val } := by cases c <;> rfl
theorem on_only (u : Int) (s : Sg) : onS u s [0, 1, 2, 3, 4, 5, 6] { zeroSg with k := s.k } = { onlyS u s 7 with k := s.k } := by
 simp only [onS, set0, set1, set2, set3, set4, set5, set6]
 simp [onlyS, zeroSg, fldT, atmT, nmbT, Tm.f]
theorem same_only {s t : Sg} (h : sameS s t = true) : { s with k := t.k } = t := by
 unfold sameS at h
 simp only [Bool.and_eq_true, decide_eq_true_eq, eqT_iff] at h
 obtain ⟨h1, h2, h3, h4, h5, h6, h7⟩ := h
 obtain ⟨k, a, b, c, d, e, f, g⟩ := t
 dsimp only at *
 rw [h1, h2, h3, h4, h5, h6, h7]
theorem uses_range {k : Int} (h : usesF k ≠ 0) : 1 ≤ k ∧ k ≤ 13 := by
 refine Decidable.byContradiction fun hk => h ?_
 unfold usesF
 repeat rw [if_neg (by omega)]
theorem validS_iff {s : Sg} (h : validS s = true) : usesF s.k ≠ 0 ∧ allFld (usesF s.k) s 7 = true ∧ sameS (onlyS (usesF s.k) s 7) s = true := by
 unfold validS at h
 simp only [Bool.and_eq_true, decide_eq_true_eq] at h
 exact h
theorem encB_valid {s : Sg} (h : validS s = true) : encB s = bytesB (UInt8.ofNat (s.k % 256).toNat :: encT (usesF s.k) s [0, 1, 2, 3, 4, 5, 6]) := by
 unfold encB
 rw [if_pos h, encP_T]
/-- What is encoded is decoded again. -/
theorem dec_enc {s : Sg} (hv : validS s = true) (hf : FitE s) : decS (encB s) = some s := by
 obtain ⟨h1, h2, h3⟩ := validS_iff hv
 obtain ⟨r1, r2⟩ := uses_range h1
 rw [encB_valid hv]
 unfold decS
 have hz : (bytesB (UInt8.ofNat (s.k % 256).toNat :: encT (usesF s.k) s [0, 1, 2, 3, 4, 5, 6])).size ≠ 0 := by rw [bytesB_size]; simp
 rw [if_neg hz]
 have hk : ((((bytesB (UInt8.ofNat (s.k % 256).toNat :: encT (usesF s.k) s [0, 1, 2, 3, 4, 5, 6])).data[0]?.getD 0).toNat : Nat) : Int) = s.k := by
  show (((UInt8.ofNat (s.k % 256).toNat).toNat : Nat) : Int) = s.k
  rw [UInt8.toNat_ofNat']
  omega
 rw [hk]
 have hx := bytesB_extract [UInt8.ofNat (s.k % 256).toNat] (encT (usesF s.k) s [0, 1, 2, 3, 4, 5, 6])
 simp only [List.singleton_append, List.length_singleton] at hx
 dsimp only
 rw [hx]
 have hall : ∀ i ∈ [0, 1, 2, 3, 4, 5, 6], hasU (usesF s.k) i = true → okFld s i = true := by
  intro i hi hu
  refine allFld_get h2 ?_ hu
  simp only [List.mem_cons, List.not_mem_nil, or_false] at hi
  omega
 have hd := decL_on hf _ { zeroSg with k := s.k } hall
 rw [on_only, same_only h3] at hd
 dsimp only at hd
 rw [hd]
 dsimp only
 rw [if_pos ⟨rfl, hv⟩]
theorem atom_shape {t : Tm} (h : validB t = true) (hk : t.f.k = 2) : t = atmT t.f.nm := by
 obtain ⟨f, l⟩ := t
 have h1 := (validB_iff h).1
 rw [formed, Bool.and_eq_true] at h1
 have h2 := shape h1.1
 change f.k = 2 at hk
 cases h2 <;> first | rfl | (simp at hk)
theorem int_shape {t : Tm} (h : validB t = true) (hk : t.f.k = 1) : t = nmbT t.f.n := by
 obtain ⟨f, l⟩ := t
 have h1 := (validB_iff h).1
 rw [formed, Bool.and_eq_true] at h1
 have h2 := shape h1.1
 change f.k = 1 at hk
 cases h2 <;> first | rfl | (simp at hk)
theorem fld_set {t : Tm} (s : Sg) {i : Nat} (hi : i < 7) (hv : validB t = true) (hk : fldK i = 0 ∨ t.f.k = fldK i) : fldT (setF s t i) i = t := by
 rcases (show i = 0 ∨ i = 1 ∨ i = 2 ∨ i = 3 ∨ i = 4 ∨ i = 5 ∨ i = 6 by omega) with rfl | rfl | rfl | rfl | rfl | rfl | rfl
 ·
  rfl
 ·
  rfl
 ·
  exact (atom_shape hv (hk.resolve_left (by decide))).symm
 ·
  exact (atom_shape hv (hk.resolve_left (by decide))).symm
 ·
  rfl
 ·
  exact (int_shape hv (hk.resolve_left (by decide))).symm
 ·
  rfl
theorem fld_set_ne {t : Tm} (s : Sg) {i j : Nat} (hi : i < 7) (hj : j < 7) (h : j ≠ i) : fldT (setF s t i) j = fldT s j := by
 rcases (show i = 0 ∨ i = 1 ∨ i = 2 ∨ i = 3 ∨ i = 4 ∨ i = 5 ∨ i = 6 by omega) with rfl | rfl | rfl | rfl | rfl | rfl | rfl <;>
 rcases (show j = 0 ∨ j = 1 ∨ j = 2 ∨ j = 3 ∨ j = 4 ∨ j = 5 ∨ j = 6 by omega) with rfl | rfl | rfl | rfl | rfl | rfl | rfl <;>
 first | rfl | exact absurd rfl h
theorem setF_comm {t v : Tm} (s : Sg) {i j : Nat} (hi : i < 7) (hj : j < 7) (h : j ≠ i) : setF (setF s t i) v j = setF (setF s v j) t i := by
 rcases (show i = 0 ∨ i = 1 ∨ i = 2 ∨ i = 3 ∨ i = 4 ∨ i = 5 ∨ i = 6 by omega) with rfl | rfl | rfl | rfl | rfl | rfl | rfl <;>
 rcases (show j = 0 ∨ j = 1 ∨ j = 2 ∨ j = 3 ∨ j = 4 ∨ j = 5 ∨ j = 6 by omega) with rfl | rfl | rfl | rfl | rfl | rfl | rfl <;>
 first | rfl | exact absurd rfl h
theorem ok_take {t : Tm} (hv : validB t = true) (hf : fitT t) : okT t := by
 obtain ⟨h1, h2⟩ := validB_iff hv
 have := cnt_size t h1
 exact ⟨hf, by omega⟩
theorem FitE.set {s : Sg} (h : FitE s) {t : Tm} (ht : okT t) (i : Nat) : FitE (setF s t i) := by
 obtain ⟨f, l⟩ := t
 have hf := ht.1
 rw [fitT] at hf
 have hn : f.nm.size ≤ 200000 := hf.1.1.1
 have hm : -9223372036854775808 ≤ f.n ∧ f.n ≤ 9223372036854775807 := by
  obtain ⟨⟨_, _, hm, _⟩, _⟩ := hf
  exact hm
 obtain ⟨h1, h2, h3, h4, h5, h6, h7⟩ := h
 unfold setF
 split
 ·
  exact ⟨ht, h2, h3, h4, h5, h6, h7⟩
 ·
  exact ⟨h1, ht, h3, h4, h5, h6, h7⟩
 ·
  exact ⟨h1, h2, h3, h4, hn, h6, h7⟩
 ·
  exact ⟨h1, h2, h3, h4, h5, hn, h7⟩
 ·
  exact ⟨h1, h2, ht, h4, h5, h6, h7⟩
 ·
  exact ⟨h1, h2, h3, h4, h5, h6, hm⟩
 ·
  exact ⟨h1, h2, h3, ht, h5, h6, h7⟩
theorem setF_k (s : Sg) (t : Tm) (i : Nat) : (setF s t i).k = s.k := by unfold setF; split <;> rfl
/-- What the rounds have read. -/
theorem decL_inv {u : Int} : ∀ (l : List Nat) (s0 : Sg) (b : ByteArray) (s : Sg) (r : ByteArray), decL u l s0 b = some (s, r) → b.size ≤ 200000 → FitE s0 → l.Nodup → (∀ i ∈ l, i < 7) →
  b.data.toList = encT u s l ++ r.data.toList ∧ FitE s ∧ s.k = s0.k ∧ ∀ j, j < 7 → j ∉ l → fldT s j = fldT s0 j
 | [], s0, b, s, r, h, _, hf, _, _ => by
  obtain ⟨rfl, rfl⟩ : s0 = s ∧ b = r := by
   have := Option.some.inj h
   exact ⟨congrArg Prod.fst this, congrArg Prod.snd this⟩
  exact ⟨rfl, hf, rfl, fun _ _ _ => rfl⟩
 | i :: l, s0, b, s, r, h, hb, hf, hn, hl => by
  obtain ⟨hni, hnl⟩ := List.nodup_cons.1 hn
  have hi := hl i List.mem_cons_self
  have hl2 : ∀ j ∈ l, j < 7 := fun j hj => hl j (List.mem_cons_of_mem _ hj)
  cases hu : hasU u i with
  | false =>
   rw [decL_no l s0 b hu] at h
   obtain ⟨h1, h2, h3, h4⟩ := decL_inv l s0 b s r h hb hf hnl hl2
   refine ⟨?_, h2, h3, fun j hj hjl => h4 j hj (fun q => hjl (List.mem_cons_of_mem _ q))⟩
   rw [h1, encT, hu]
   rfl
  | true =>
   by_cases hbad : (takeF b).2.2 ≠ 0 ∨ (fldK i ≠ 0 ∧ (takeF b).1.f.k ≠ fldK i)
   ·
    rw [decL_bad l s0 b hu hbad] at h
    cases h
   ·
    have he : (takeF b).2.2 = 0 := Decidable.byContradiction fun q => hbad (.inl q)
    have hk : fldK i = 0 ∨ (takeF b).1.f.k = fldK i := by
     by_cases q : fldK i = 0
     ·
      exact .inl q
     ·
      exact .inr (Decidable.byContradiction fun q2 => hbad (.inr ⟨q, q2⟩))
    rw [decL_yes l s0 b hu hbad] at h
    obtain ⟨hv, hft, ⟨m, hm⟩, hlen⟩ := takeF_snd hb he
    have hex : (b.extract (takeF b).2.1 b.size).data.toList = m := by
     rw [ByteArray.data_extract, Array.toList_extract, hm, hlen, size_list, hm]
     simp [List.extract]
    have hsz : (b.extract (takeF b).2.1 b.size).size ≤ 200000 := by
     rw [size_list, hex]
     have := size_list b
     rw [hm, List.length_append] at this
     omega
    obtain ⟨h1, h2, h3, h4⟩ := decL_inv l _ _ s r h hsz (hf.set (ok_take hv hft) i) hnl hl2
    refine ⟨?_, h2, by rw [h3, setF_k], fun j hj hjl => ?_⟩
    ·
     rw [hm, encT, hu, if_pos rfl, h4 i hi hni, fld_set s0 hi hv hk, List.append_assoc, ← h1, hex]
    ·
     rw [h4 j hj (fun q => hjl (List.mem_cons_of_mem _ q)), fld_set_ne s0 hi hj (fun q => hjl (by rw [q]; exact List.mem_cons_self))]
theorem zero_fit (k : Int) : FitE { zeroSg with k := k } := by
 have hz : okT zerT := by
  refine ⟨?_, by unfold zerT; simp [cnt, cntL]⟩
  unfold zerT
  rw [fitT]
  refine ⟨⟨⟨by decide, by decide, by decide⟩, ?_, ?_, ?_, ?_, ?_⟩, trivial⟩
  all_goals
   unfold zeroFl
   dsimp only
   omega
 exact ⟨hz, hz, hz, hz, by show (0 : Nat) ≤ 200000; omega, by show (0 : Nat) ≤ 200000; omega, by unfold zeroSg; dsimp only; omega⟩
theorem decS_some {b : ByteArray} {s : Sg} (h : decS b = some s) : b.size ≠ 0 ∧ decL (usesF ((b.data[0]?.getD 0).toNat : Int)) [0, 1, 2, 3, 4, 5, 6] { zeroSg with k := ((b.data[0]?.getD 0).toNat : Int) } (b.extract 1 b.size) = some (s, ⟨#[]⟩) ∧ validS s = true := by
 unfold decS at h
 by_cases h0 : b.size = 0
 ·
  rw [if_pos h0] at h
  cases h
 ·
  rw [if_neg h0] at h
  dsimp only at h
  cases hq : decL (usesF ((b.data[0]?.getD 0).toNat : Int)) [0, 1, 2, 3, 4, 5, 6] { zeroSg with k := ((b.data[0]?.getD 0).toNat : Int) } (b.extract 1 b.size) with
  | none => rw [hq] at h; cases h
  | some q =>
   obtain ⟨s1, r⟩ := q
   rw [hq] at h
   dsimp only at h
   by_cases g : r.size = 0 ∧ validS s1 = true
   ·
    rw [if_pos g] at h
    obtain rfl := Option.some.inj h
    obtain rfl : r = ⟨#[]⟩ := ByteArray.ext (Array.eq_empty_of_size_eq_zero g.1)
    exact ⟨h0, rfl, g.2⟩
   ·
    rw [if_neg g] at h
    cases h
theorem head_tail {b : ByteArray} (h : b.size ≠ 0) : b.data.toList = b.data[0]?.getD 0 :: (b.extract 1 b.size).data.toList := by
 rw [ByteArray.data_extract, Array.toList_extract, size_list]
 cases hq : b.data.toList with
 | nil => exact absurd (by rw [size_list, hq]; rfl) h
 | cons a r =>
  have : b.data[0]? = some a := by rw [← Array.getElem?_toList, hq]; rfl
  rw [this]
  simp [List.extract]
/-- What is decoded is encoded as it was. -/
theorem enc_dec {b : ByteArray} {s : Sg} (hb : b.size ≤ 200000) (h : decS b = some s) : encB s = b ∧ validS s = true ∧ FitE s := by
 obtain ⟨h0, hd, hv⟩ := decS_some h
 have hx : (b.extract 1 b.size).size ≤ 200000 := by simp; omega
 obtain ⟨h1, h2, h3, h4⟩ := decL_inv _ _ _ _ _ hd hx (zero_fit _) (by decide) (by decide)
 refine ⟨?_, hv, h2⟩
 rw [encB_valid hv]
 apply bytes_list
 rw [bytesB_list, head_tail h0, h1]
 change s.k = ((b.data[0]?.getD 0).toNat : Int) at h3
 have e : UInt8.ofNat (s.k % 256).toNat = b.data[0]?.getD 0 := by
  rw [h3]
  apply UInt8.toNat_inj.1
  rw [UInt8.toNat_ofNat']
  have := (b.data[0]?.getD 0).toNat_lt
  omega
 rw [e, ← h3]
 simp
/-- The next term of the reference's reader (what is left, whether it is bad). -/
def rdT (has : Bool) (q : ByteArray × Bool) : Tm × (ByteArray × Bool) :=
 if has = false ∨ q.2 = true then (zerT, q)
 else if (takeF q.1).2.2 ≠ 0 then (zerT, (q.1, true))
 else ((takeF q.1).1, (q.1.extract (takeF q.1).2.1 q.1.size, false))
def rdL (u : Int) : List Nat → Sg → ByteArray × Bool → Sg × (ByteArray × Bool)
 | [], s, q => (s, q)
 | i :: r, s, q => rdL u r (setF s (rdT (hasU u i) q).1 i) (rdT (hasU u i) q).2
theorem rdL_decL {u : Int} : ∀ (l : List Nat) (s0 : Sg) (b : ByteArray) (s : Sg) (r : ByteArray), decL u l s0 b = some (s, r) → l.Nodup → (∀ i ∈ l, i < 7) → (∀ i ∈ l, setF s0 zerT i = s0) → rdL u l s0 (b, false) = (s, (r, false))
 | [], s0, b, s, r, h, _, _, _ => by
  have := Option.some.inj h
  rw [Prod.mk.injEq] at this
  rw [rdL, this.1, this.2]
 | i :: l, s0, b, s, r, h, hn, hl, hz => by
  obtain ⟨hni, hnl⟩ := List.nodup_cons.1 hn
  have hi := hl i List.mem_cons_self
  have hl2 : ∀ j ∈ l, j < 7 := fun j hj => hl j (List.mem_cons_of_mem _ hj)
  rw [rdL]
  cases hu : hasU u i with
  | false =>
   rw [decL_no l s0 b hu] at h
   have e : rdT false (b, false) = (zerT, (b, false)) := rfl
   rw [e]
   dsimp only
   rw [hz i List.mem_cons_self]
   exact rdL_decL l s0 b s r h hnl hl2 (fun j hj => hz j (List.mem_cons_of_mem _ hj))
  | true =>
   by_cases hbad : (takeF b).2.2 ≠ 0 ∨ (fldK i ≠ 0 ∧ (takeF b).1.f.k ≠ fldK i)
   ·
    rw [decL_bad l s0 b hu hbad] at h
    cases h
   ·
    have he : (takeF b).2.2 = 0 := Decidable.byContradiction fun q => hbad (.inl q)
    rw [decL_yes l s0 b hu hbad] at h
    have e : rdT true (b, false) = ((takeF b).1, (b.extract (takeF b).2.1 b.size, false)) := by
     unfold rdT
     rw [if_neg (by rintro (q | q) <;> cases q), if_neg (fun q => q he)]
    rw [e]
    dsimp only
    refine rdL_decL l _ _ s r h hnl hl2 (fun j hj => ?_)
    rw [setF_comm s0 hi (hl2 j hj) (fun q => hni (q ▸ hj)), hz j (List.mem_cons_of_mem _ hj)]
/-- What the reference's Decode answers. -/
def rdecS (b : ByteArray) : Option Sg :=
 if b.size = 0 then none else
 let k : Int := (b.data[0]?.getD 0).toNat
 let q := rdL (usesF k) [0, 1, 2, 3, 4, 5, 6] { zeroSg with k := k } (b.extract 1 b.size, false)
 if usesF k = 0 ∨ q.2.2 = true ∨ q.2.1.size ≠ 0 then none else
 if encE q.1 ≠ 0 ∨ encB q.1 ≠ b then none else some q.1
theorem rdL_fit {u : Int} : ∀ (l : List Nat) (s0 : Sg) (q : ByteArray × Bool), q.1.size ≤ 200000 → FitE s0 → FitE (rdL u l s0 q).1 ∧ (rdL u l s0 q).1.k = s0.k
 | [], s0, q, _, hf => ⟨hf, rfl⟩
 | i :: l, s0, q, hb, hf => by
  rw [rdL]
  have hz : okT zerT := (zero_fit 0).fr
  by_cases h1 : hasU u i = false ∨ q.2 = true
  ·
   have e : rdT (hasU u i) q = (zerT, q) := by unfold rdT; rw [if_pos h1]
   rw [e]
   have := rdL_fit (u := u) l (setF s0 zerT i) q hb (hf.set hz i)
   rw [setF_k] at this
   exact this
  ·
   by_cases h2 : (takeF q.1).2.2 ≠ 0
   ·
    have e : rdT (hasU u i) q = (zerT, (q.1, true)) := by unfold rdT; rw [if_neg h1, if_pos h2]
    rw [e]
    have := rdL_fit (u := u) l (setF s0 zerT i) (q.1, true) hb (hf.set hz i)
    rw [setF_k] at this
    exact this
   ·
    have e : rdT (hasU u i) q = ((takeF q.1).1, (q.1.extract (takeF q.1).2.1 q.1.size, false)) := by unfold rdT; rw [if_neg h1, if_neg h2]
    rw [e]
    have he : (takeF q.1).2.2 = 0 := Decidable.byContradiction h2
    obtain ⟨hv, hft, _, _⟩ := takeF_snd hb he
    have := rdL_fit (u := u) l (setF s0 (takeF q.1).1 i) (q.1.extract (takeF q.1).2.1 q.1.size, false) (by simp; omega) (hf.set (ok_take hv hft) i)
    rw [setF_k] at this
    exact this
/-- Both Decodes answer the same. -/
theorem rdecS_eq {b : ByteArray} (hb : b.size ≤ 200000) : rdecS b = decS b := by
 have hx : (b.extract 1 b.size).size ≤ 200000 := by simp; omega
 cases hd : decS b with
 | some s =>
  obtain ⟨h0, hl, hv⟩ := decS_some hd
  obtain ⟨e1, _, _⟩ := enc_dec hb hd
  have hr := rdL_decL _ _ _ _ _ hl (by decide) (by decide) (by
   intro i hi
   simp only [List.mem_cons, List.not_mem_nil, or_false] at hi
   rcases hi with rfl | rfl | rfl | rfl | rfl | rfl | rfl <;> rfl)
  have hk := (rdL_fit (u := usesF ((b.data[0]?.getD 0).toNat : Int)) [0, 1, 2, 3, 4, 5, 6] { zeroSg with k := ((b.data[0]?.getD 0).toNat : Int) } (b.extract 1 b.size, false) hx (zero_fit _)).2
  rw [hr] at hk
  change s.k = ((b.data[0]?.getD 0).toNat : Int) at hk
  unfold rdecS
  rw [if_neg h0]
  dsimp only
  rw [hr]
  dsimp only
  rw [if_neg (by
   rintro (h | h | h)
   ·
    rw [← hk] at h
    exact (validS_iff hv).1 h
   ·
    cases h
   ·
    exact h rfl), if_neg (by
   rintro (h | h)
   ·
    exact h (by unfold encE; rw [if_pos hv])
   ·
    exact h e1)]
 | none =>
  cases hr : rdecS b with
  | none => rfl
  | some s =>
   exfalso
   unfold rdecS at hr
   split at hr
   ·
    cases hr
   ·
    dsimp only at hr
    split at hr
    ·
     cases hr
    ·
     split at hr
     ·
      cases hr
     ·
      rename_i h1 h2 h3
      obtain ⟨f1, _⟩ := rdL_fit (u := usesF ((b.data[0]?.getD 0).toNat : Int)) [0, 1, 2, 3, 4, 5, 6] { zeroSg with k := ((b.data[0]?.getD 0).toNat : Int) } (b.extract 1 b.size, false) hx (zero_fit _)
      have hs := Option.some.inj hr
      rw [hs] at h3 f1
      have he : encE s = 0 := Decidable.byContradiction fun q => h3 (.inl q)
      have hbb : encB s = b := Decidable.byContradiction fun q => h3 (.inr q)
      have hv : validS s = true := by
       cases hq : validS s with
       | true => rfl
       | false => unfold encE at he; rw [hq] at he; cases he
      have := dec_enc hv f1
      rw [hbb, hd] at this
      cases this
end Go.Proofs.YtoaimoemaoinhaaGreatDoor
