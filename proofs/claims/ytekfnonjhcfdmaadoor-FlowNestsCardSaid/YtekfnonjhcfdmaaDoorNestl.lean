/- FlowNests: along every step the open handlers are those before it, one more, one less. -/
import Derived.Test.YtekfnonjhcfdmaaDoorAwake
import Derived.Test.YtekfnonjhcfdmaaDoorTries
import Derived.Test.YtekfnonjhcfdmaaDoorClosed
import Derived.Test.YtekfnonjhcfdmaaDoorRound
namespace Go.Proofs.YtekfnonjhcfdmaaDoor
open Go.RowKit Go.Shelf Go.Rt Go.Rw

/-- What Tries answers, taken apart. -/
theorem triesF_ok {l : List In} {fr : List Int} {R : List (List Int)} (h : triesF l fr = (R, 0)) : ∃ T, Fits l fr T ∧ R.length = l.length ∧ ∀ i, i < l.length → (Rch l fr i → R.getD i [] = T i) ∧ (¬ Rch l fr i → R.getD i [] = []) := by
 unfold triesF at h
 split at h
 ·
  have := (Prod.mk.inj h).2
  cases this
 ·
  split at h
  ·
   rename_i hT
   have := (Prod.mk.inj h).1
   subst this
   refine ⟨hT.choose, hT.choose_spec, by simp, fun i hi => ?_⟩
   constructor
   ·
    intro hr
    simp [hi, hr]
   ·
    intro hr
    simp [hi, hr]
  ·
   have := (Prod.mk.inj h).2
   cases this
theorem triesF_err {l : List In} {fr : List Int} {R : List (List Int)} {er : Int} (h : triesF l fr = (R, er)) (he : er ≠ 0) : R = [] := by
 unfold triesF at h
 split at h
 ·
  exact (Prod.mk.inj h).1.symm
 ·
  split at h
  ·
   exact absurd (Prod.mk.inj h).2.symm he
  ·
   exact (Prod.mk.inj h).1.symm
theorem i64_beq (a b : Int) (h : a ≠ b) : (a == b) = false := by rw [beq_eq_false_iff_ne]; exact h
/-- No more handlers are open than there are instructions. -/
theorem Fits.len {l : List In} {fr : List Int} {T : Nat → List Int} (hF : Fits l fr T) {i : Nat} (hr : Rch l fr i) : (T i).length ≤ l.length := by
 have hall : ∀ i, Rch l fr i → ∀ m, m ≤ (T i).length → ∃ j, Rch l fr j ∧ (T j).length = m := by
  intro i hr
  induction hr with
  | entry i h1 h2 =>
   intro m hm
   have := hF.entry i h1 h2
   rw [this] at hm
   exact ⟨i, .entry i h1 h2, by rw [this]; simp at hm ⊢; omega⟩
  | step i j hi hr hj ht ih =>
   intro m hm
   obtain ⟨o, ho, hq⟩ := hF.step i hi hr
   have e := hq j hj ht
   by_cases hle : m ≤ (T i).length
   ·
    exact ih m hle
   ·
    refine ⟨j, .step i j hi hr hj ht, ?_⟩
    rw [e] at hm ⊢
    unfold aftF at ho
    split at ho
    ·
     cases ho
     simp at hm ⊢
     omega
    ·
     split at ho
     ·
      split at ho
      ·
       cases ho
      ·
       cases ho
       simp at hm
       omega
     ·
      cases ho
      omega
  | hand i j hi hr hj h1 h2 ih =>
   intro m hm
   have e := hF.hand i j hi hr hj h1 h2
   rw [e] at hm
   exact ih m hm
 have hA := hall i hr
 have hc : ∀ m, ∃ j, m ≤ (T i).length → (Rch l fr j ∧ (T j).length = m) := fun m => by
  by_cases hm : m ≤ (T i).length
  ·
   obtain ⟨j, hj⟩ := hA m hm
   exact ⟨j, fun _ => hj⟩
  ·
   exact ⟨0, fun h => absurd h hm⟩
 have := pigeon l.length (T i).length (fun m => (hc m).choose) (fun m hm => ((hc m).choose_spec hm).1.lt) (fun a b ha hb hab => by
  have h1 := ((hc a).choose_spec ha).2
  have h2 := ((hc b).choose_spec hb).2
  try dsimp only at hab
  rw [hab] at h1
  exact h1.symm.trans h2)
 omega
/-- An entry of a list that is read. -/
theorem slat_at {W : World} {s : Option Addr} {n c : Nat} {L : List Int} (h : SlAt W 1 inC (.slice s n c) L) (hn : n = L.length) {q : Nat} (hq : q < n) : ∃ g p, s = some ⟨g, p, none⟩ ∧ W.cell? ⟨g, p + q, none⟩ = some (.int .i64 (L.getD q 0)) := by
 obtain ⟨g, p, rfl, _, hc⟩ := h.get (by omega)
 refine ⟨g, p, rfl, ?_⟩
 have := hc q 0 (by omega) (by omega)
 simp only [inC, List.getElem?_cons_zero, Nat.mul_one, Nat.add_zero] at this
 rw [this, List.getD_eq_getElem?_getD, List.getElem?_eq_getElem (by omega)]
 rfl
/-- Entry by entry, whatever is new. -/
theorem ls_ent {w : World} {R : List (List Int)} {ta : Option Addr} {n tc : Nat} (h : LsAt w R (.slice ta n tc)) (hn : n = R.length) {m : Nat} (hm : m = w.heap.size) {j : Nat} (hj : j < n) : ∃ tb to_, ta = some ⟨tb, to_, none⟩ ∧ ∃ s c, ∀ W, Below m w W → W.cell? ⟨tb, to_ + j, none⟩ = some (.slice s (R.getD j []).length c) ∧ SlAt W 1 inC (.slice s (R.getD j []).length c) (R.getD j []) := by
 obtain ⟨tb, to_, tc2, he, hc⟩ := h.ents (by omega)
 simp only [Value.slice.injEq] at he
 obtain ⟨rfl, _, rfl⟩ := he
 obtain ⟨u, h1, h2⟩ := hc j (by omega)
 have hg : R[j]'(by omega) = R.getD j [] := by rw [List.getD_eq_getElem?_getD, List.getElem?_eq_getElem (by omega)]; rfl
 rw [hg] at h2
 obtain ⟨_, s, c, rfl⟩ := h2.len
 refine ⟨tb, to_, rfl, s, c, fun W hW => ⟨?_, h2.keep (by rw [← hm]; exact hW)⟩⟩
 rw [← h1]
 exact hW.cell (p := ⟨tb, to_ + j, none⟩) (by have := World.block_lt_of_cell? _ _ h1; rw [hm]; exact this)
set_option maxRecDepth 100000 in
set_option maxHeartbeats 16000000 in
theorem nests9 (l : List In) (fr : List Int) (v fv : Value) (w : World) (h : InsAt w l v) (hf : SlAt w 1 inC fv fr) (hb1 : l.length ≤ 2000000000000) (hb2 : ∀ x ∈ l, x.cases.length ≤ 8999999999998)
  (hT : TabAt 0 Lib.deBruijn64tab w) (hz : 0 < w.heap.size) : Calls Tryd.prog 9 #[v, fv] w (Yes w) := by
 obtain ⟨_, sa, cap, rfl⟩ := h.form
 obtain ⟨hf0, sf, cf, rfl⟩ := hf.len
 have CL := Lib.hid (large_any l (.slice sa l.length cap) (.slice sf fr.length cf) fr.length sf cf w h rfl hf0)
 have CA := Lib.hid (fun (W : World) (hW : Below w.heap.size w W) => awake11 W (tab_below hT hW hz) (Nat.lt_of_lt_of_le hz hW.size))
 obtain ⟨n, hn⟩ : ∃ q, q = l.length := ⟨_, rfl⟩
 obtain ⟨nf, hnf⟩ : ∃ q, q = fr.length := ⟨_, rfl⟩
 have C26 := Lib.hid (fun (W : World) (hW : Below w.heap.size w W) => tries26 l fr (.slice sa l.length cap) (.slice sf fr.length cf) W (h.keep hW) (hf.keep hW) (by omega) hb2)
 have C27 := Lib.hid (fun (W : World) (hW : Below w.heap.size w W) => reach27 l fr (.slice sa l.length cap) (.slice sf fr.length cf) W (h.keep hW) (hf.keep hW) (by omega))
 have C16 := Lib.hid (fun (W : World) (i : Int) (hW : Below w.heap.size w W) => next16 l (.slice sa l.length cap) i W (h.keep hW) (by omega) hb2)
 rw [← hn] at h hb1 CL C26 C27 C16 ⊢
 rw [← hnf] at CL C26 C27 ⊢
 have HN := Lib.hid hn
 have HH := Lib.hid h
 clear h hf hb2 hT hz hn hnf hf0
 go_enter Tryd.func9, Tryd.ntmps9
 go_wp2_with fail
 refine CL.out.mono ?_
 rintro e w1 ⟨b1, b, rfl, _⟩
 have B1 := Lib.hid b1
 clear b1 CL
 cases b with
 | true =>
  go_wp2_with fail
  refine (CA.out w1 B1.out).mono ?_
  rintro e w2 ⟨rfl, b2⟩
  have B2 := Lib.hid (B1.out.trans (b2.mono B1.out.size))
  clear b2
  go_wp2_with fail
  go_ret
  exact ⟨rfl, B2.out⟩
 | false =>
  go_wp2_with fail
  refine (C26.out w1 B1.out).mono ?_
  rintro e w2 ⟨b2, tv, R, er, rfl, hls, htr⟩
  have B2 := Lib.hid (B1.out.trans (b2.mono B1.out.size))
  obtain ⟨_, ta, tc, rfl⟩ := hls.form
  by_cases her : er = 0
  ·
   subst her
   obtain ⟨T, hF, hlen, hRT⟩ := triesF_ok htr
   have hRn : R.length = n := by rw [hlen, HN.out]
   rw [hRn] at hls ⊢
   have HFT := Lib.hid hF
   have HRT := Lib.hid hRT
   have HLS := Lib.hid hls
   have HRN := Lib.hid hRn
   clear b2 hls htr hF hlen hRT hRn B1 C26
   go_wp2_with fail
   refine (C27.out w2 B2.out).mono ?_
   rintro e w3 ⟨b3, g1, Q1, rfl, k1, _, r1⟩
   rw [← HN.out] at k1 ⊢
   have B3 := Lib.hid (B2.out.trans (b3.mono B2.out.size))
   obtain ⟨m3, hm3⟩ : ∃ q, q = w3.heap.size := ⟨_, rfl⟩
   have HM3 := Lib.hid hm3
   have LS3 := Lib.hid (HLS.out.keep b3)
   have hl1 := k1.lt
   have HK1 : Hid (∀ W, Below m3 w3 W → ∀ i, i < n → W.cell? ⟨g1, i, none⟩ = some (.bool (Q1 i))) := Lib.hid (fun W hW i hi => bools_cell (k1.below hW (by omega)) hi)
   have R1 := Lib.hid r1
   have HB3 : Hid (∀ W, Below m3 w3 W → Below w.heap.size w W) := Lib.hid (fun W hW => B3.out.trans (hW.mono (by rw [hm3]; exact B3.out.size)))
   have HEN : Hid (∀ j, j < n → ∃ tb to_, ta = some ⟨tb, to_, none⟩ ∧ ∃ s c, ∀ W, Below m3 w3 W → W.cell? ⟨tb, to_ + j, none⟩ = some (.slice s (R.getD j []).length c) ∧ SlAt W 1 inC (.slice s (R.getD j []).length c) (R.getD j [])) := Lib.hid (fun j hj => ls_ent LS3.out HRN.out.symm hm3 hj)
   have BB := Lib.hid (Below.refl m3 w3)
   clear b3 k1 r1 hl1 HLS LS3 hm3 B2 B3 C27
   go_wp2_with fail
   go_loopw [8] (fun z W => ∃ (i : Nat), i ≤ n ∧ z = .int .i64 (i : Int) ∧ Hid (Below m3 w3 W)) (fun z _ => n - (intOf z).toNat)
   case atStart => exact ⟨0, Nat.zero_le _, rfl, BB⟩
   case round =>
    obtain ⟨i, hi, rfl, HW⟩ := hrel
    clear BB
    by_cases hlt : i < n
    ·
     have hlti : (i : Int) < (n : Int) := by omega
     have hil : i < l.length := by rw [← HN.out]; exact hlt
     have ck1 := HK1.out wr HW.out i hlt
     obtain ⟨tb, to_, rfl, si, ci, hent⟩ := HEN.out i hlt
     obtain ⟨r, hr⟩ : ∃ r : Nat → List Int, r = fun j => R.getD j [] := ⟨_, rfl⟩
     have HR := Lib.hid hr
     have HEJ : Hid (∀ j, j < n → ∃ s c, ∀ W, Below m3 w3 W → W.cell? ⟨tb, to_ + j, none⟩ = some (.slice s (r j).length c) ∧ SlAt W 1 inC (.slice s (r j).length c) (r j)) := Lib.hid (fun j hj => by
      obtain ⟨tb2, to2, e, s, c, h⟩ := HEN.out j hj
      simp only [Option.some.injEq, Addr.mk.injEq, and_true] at e
      obtain ⟨rfl, rfl⟩ := e
      rw [hr]
      exact ⟨s, c, h⟩)
     have hent2 : ∀ W, Below m3 w3 W → W.cell? ⟨tb, to_ + i, none⟩ = some (.slice si (r i).length ci) ∧ SlAt W 1 inC (.slice si (r i).length ci) (r i) := by rw [hr]; exact hent
     have HRI : Hid (∀ j, j < l.length → (Rch l fr j → r j = T j) ∧ (¬ Rch l fr j → r j = [])) := Lib.hid (by rw [hr]; exact HRT.out)
     clear hent hr
     obtain ⟨n0, hn0⟩ : ∃ q, q = (r i).length := ⟨_, rfl⟩
     rw [← hn0] at hent2
     have HN0 := Lib.hid hn0
     have HEI := Lib.hid hent2
     have cti := (HEI.out wr HW.out).1
     have hn0b : n0 ≤ 9223372036854775807 := by rw [hn0]; exact (HEI.out wr HW.out).2.len.1
     obtain ⟨q1, hq1⟩ : ∃ q, q = Q1 i := ⟨_, rfl⟩
     rw [← hq1] at ck1
     have HQ1 := Lib.hid hq1
     clear hq1 hent2 hn0
     cases q1 with
     | false =>
      have h0 : n0 = 0 := by
       have hnr : ¬ Rch l fr i := fun hr => by have := (R1.out i).2 hr; rw [← HQ1.out] at this; cases this
       rw [HN0.out, (HRI.out i hil).2 hnr]
       rfl
      subst h0
      go_wp2_with fail
      go_roundw
      case rel => exact ⟨i + 1, by omega, by go_num, HW⟩
      case measure => simp [intOf]; omega
     | true =>
      have hrch : Rch l fr i := (R1.out i).1 HQ1.out.symm
      obtain ⟨b, o, rfl, hb, hc⟩ := HH.out.get (by omega)
      obtain ⟨f, hff, hfa, hcell⟩ := hc i hil
      have HCI : Hid (∀ W, Below m3 w3 W → ∀ j, j < 10 → W.cell? ⟨b, o + i * 10 + j, none⟩ = (imC f)[j]?) := Lib.hid (fun W hW j hj => by rw [← hcell j hj]; exact (HB3.out W hW).cell (p := ⟨b, _, none⟩) hb)
      have hst := HFT.out.step i hil hrch
      rw [← hff, ← (HRI.out i hil).1 hrch] at hst
      obtain ⟨oL, haf, hoj⟩ := hst
      have HOJ : Hid (∀ j : Nat, j < n → (j : Int) ∈ targF f.x i → r j = oL) := Lib.hid (fun j hj ht => by
       have hjl : j < l.length := by rw [← HN.out]; exact hj
       have ht2 : (j : Int) ∈ targF l[i] i := by rw [← hff]; exact ht
       rw [(HRI.out j hjl).1 (Rch.step i j hil hrch hjl ht2)]
       exact hoj j hjl ht)
      have HHD : Hid (f.x.op = 28 → ∀ j : Nat, j < n → f.x.to = j → (r j).length = n0) := Lib.hid (fun h28 j hj hto => by
       have hjl : j < l.length := by rw [← HN.out]; exact hj
       rw [hff] at h28 hto
       rw [HN0.out, (HRI.out j hjl).1 (Rch.hand i j hil hrch hjl h28 hto), (HRI.out i hil).1 hrch, HFT.out.hand i j hil hrch hjl h28 hto])
      have HNL : Hid (n0 ≤ n) := Lib.hid (by rw [HN0.out, (HRI.out i hil).1 hrch, HN.out]; exact HFT.out.len hrch)
      have CN := Lib.hid (C16.out wr i (HB3.out wr HW.out))
      have HMN : Hid (∀ x, x ∈ nextF l i → ∃ j : Nat, x = j ∧ j < n ∧ (j : Int) ∈ targF f.x i) := Lib.hid (fun x hx => by
       rw [mem_nextF l i hil] at hx
       obtain ⟨⟨h1, h2⟩, h3⟩ := hx
       exact ⟨x.toNat, by omega, by rw [HN.out]; omega, by rw [hff]; rw [Int.toNat_of_nonneg h1]; exact h3⟩)
      obtain ⟨e0, e1, e2, e3, e4, e5, e6, e7, e8, e9⟩ := cells10 (HCI.out wr HW.out)
      have haf2 := haf
      unfold aftF at haf
      clear hc hff hfa hcell hoj hrch HFT HRI
      by_cases h28 : f.x.op = 28
      ·
       rw [if_pos h28] at haf
       have hoL : oL = r i ++ [f.x.to] := (Option.some.inj haf).symm
       obtain ⟨N, hN⟩ : ∃ q, q = n0 + 1 := ⟨_, rfl⟩
       have HNN1 := Lib.hid hN
       have HLN : Hid (oL.length = N) := Lib.hid (by rw [hoL, hN, HN0.out]; simp)
       have HPR : Hid (∀ q, q < N → q < n0 → oL.getD q 0 = (r i).getD q 0) := Lib.hid (fun q _ hq => by
        rw [hoL, List.getD_eq_getElem?_getD, List.getD_eq_getElem?_getD, List.getElem?_append_left (by rw [← HN0.out]; exact hq)])
       have HLA : Hid (oL.getD n0 0 = f.x.to) := Lib.hid (by
        rw [hoL, List.getD_eq_getElem?_getD, List.getElem?_append_right (by rw [← HN0.out]; exact Nat.le_refl _), ← HN0.out]
        simp)
       rw [h28] at e0
       clear haf haf2 hoL hN
       as_aux_lemma =>
        have hnb : n0 ≤ 2000000000000 := by have := HNL.out; omega
        have hNb : N ≤ 2000000000001 := by have := HNN1.out; omega
        have hw2 : wrap64 ((N : Int) - 1) = (n0 : Int) := by have := HNN1.out; unfold wrap64; omega
        have hw3 : IntKind.i64.wrap ((N : Int) - 1) = (n0 : Int) := by rw [IntKind.wrap_i64]; have := HNN1.out; omega
        have hn0N : (n0 : Int) < (N : Int) := by have := HNN1.out; omega
        go_wp2_with fail
        rw [show ((n0 : Int) + 1) = (N : Int) from by have := HNN1.out; omega]
        refine CN.out.mono ?_
        rintro e w8 ⟨b8, v8, rfl, s8⟩
        obtain ⟨s8a, c8a, rfl⟩ := sl_form2 s8
        obtain ⟨nn, hnn⟩ : ∃ q, q = (nextF l i).length := ⟨_, rfl⟩
        have hnnb : nn ≤ 9223372036854775807 := by rw [hnn]; exact (s8.at in_len).len.1
        rw [← hnn] at s8 ⊢
        have HNN := Lib.hid hnn
        have HW8 := Lib.hid (HW.out.trans (b8.mono (by have := HW.out.size; have := HM3.out; omega)))
        have S8 := Lib.hid s8
        obtain ⟨z8, hz8⟩ : ∃ q, q = w8.heap.size := ⟨_, rfl⟩
        have HZ8 := Lib.hid hz8
        have BB8 := Lib.hid (Below.refl z8 w8)
        clear b8 s8 hnn CN HW hz8 ck1 cti e0 e1 e2 e3 e4 e5 e6 e7 e8 e9
        go_wp2_with fail
        go_loopw [11] (fun z W => ∃ (k : Nat), k ≤ nn ∧ z = .int .i64 (k : Int) ∧ Hid (Below z8 w8 W)) (fun z _ => nn - (intOf z).toNat)
        case atStart => exact ⟨0, Nat.zero_le _, rfl, BB8⟩
        case round =>
         obtain ⟨k, hk, rfl, HX⟩ := hrel
         clear BB8
         have HX3 : Hid (Below m3 w3 wr) := Lib.hid (HW8.out.trans (HX.out.mono (by have := HW8.out.size; have := HZ8.out; have := HM3.out; omega)))
         by_cases hkn : k < nn
         ·
          as_aux_lemma =>
           have hkni : (k : Int) < (nn : Int) := by omega
           obtain ⟨g8, rfl⟩ : ∃ g, s8a = some ⟨g, 0, none⟩ := by
            rcases S8.out.form with ⟨e, _⟩ | ⟨g, cap, e, _⟩
            ·
             simp only [Value.slice.injEq] at e
             omega
            ·
             simp only [Value.slice.injEq] at e
             exact ⟨g, e.1⟩
           have hkl : k < (nextF l i).length := by rw [← HNN.out]; exact hkn
           have S8W := S8.out.below HX.out (fun g hg => by rw [HZ8.out]; exact (S8.out.lt g hg).2)
           have ck := S8W.cell in_len k 0 hkl (by omega)
           obtain ⟨x, hx⟩ : ∃ x, x = (nextF l i)[k] := ⟨_, rfl⟩
           rw [← hx] at ck
           simp only [inC, List.getElem?_cons_zero, Nat.add_zero, Nat.mul_one] at ck
           obtain ⟨j, rfl, hjn, hjt⟩ := HMN.out x (by rw [hx]; exact List.getElem_mem _)
           have hjni : (j : Int) < (n : Int) := by omega
           obtain ⟨sj, cj, hentj⟩ := HEJ.out j hjn
           rw [HOJ.out j hjn hjt, HLN.out] at hentj
           obtain ⟨gj, pj, hsj, clast⟩ := slat_at (hentj wr HX3.out).2 HLN.out.symm (q := n0) (by have := HNN1.out; omega)
           subst hsj
           rw [HLA.out] at clast
           have HENJ := Lib.hid hentj
           have ctj := (hentj wr HX3.out).1
           have hd0 : decide ((N : Int) < 0) = false := decide_eq_false (by omega)
           clear hx S8W hjt hentj
           go_upto_region 26 with fail
           refine wp_region_held_drew (S := (fun w' => Below m3 w3 w')) (by kernel_rfl) (HX3.out.drew) (fun hS => ?_)
           have HXd : Hid (Below m3 w3 wr.drew) := Lib.hid HX3.out.drew
           have HXz : Hid (Below z8 w8 wr.drew) := Lib.hid HX.out.drew
           clear HX3 HX
           generalize wr.drew = w0 at *
           refine tk (i := 0) (v := ?_) rfl (by rfl) ?_ (by assumption) ?_
           rotate_left
           ·
            intro w hSw
            go_simp
            with_reducible rfl
           change wpAnyH _ _ _ _ _ _ _ (Act.put _ (some 98) _) _
           simp only [Act.put, List.setIfInBounds_toArray, List.set_cons_zero, List.set_cons_succ]
           refine tk (i := 1) (v := ?_) rfl (by rfl) ?_ (by assumption) ?_
           rotate_left
           ·
            intro w hSw
            go_simp
            with_reducible rfl
           change wpAnyH _ _ _ _ _ _ _ (Act.put _ (some 99) _) _
           simp only [Act.put, List.setIfInBounds_toArray, List.set_cons_zero, List.set_cons_succ]
           refine tk (i := 2) (v := ?_) rfl (by rfl) ?_ (by assumption) ?_
           rotate_left
           ·
            intro w hSw
            go_simp
            with_reducible rfl
           change wpAnyH _ _ _ _ _ _ _ (Act.put _ (some 100) _) _
           simp only [Act.put, List.setIfInBounds_toArray, List.set_cons_zero, List.set_cons_succ]
           refine tk (i := 3) (v := ?_) rfl (by rfl) ?_ (by assumption) ?_
           rotate_left
           ·
            intro w hSw
            go_simp
            with_reducible rfl
           change wpAnyH _ _ _ _ _ _ _ (Act.put _ (some 101) _) _
           simp only [Act.put, List.setIfInBounds_toArray, List.set_cons_zero, List.set_cons_succ]
           refine tk (i := 4) (v := ?_) rfl (by rfl) ?_ (by assumption) ?_
           rotate_left
           ·
            intro w hSw
            go_simp
            with_reducible rfl
           change wpAnyH _ _ _ _ _ _ _ (Act.put _ (some 102) _) _
           simp only [Act.put, List.setIfInBounds_toArray, List.set_cons_zero, List.set_cons_succ]
           refine tk (i := 5) (v := ?_) rfl (by rfl) ?_ (by assumption) ?_
           rotate_left
           ·
            intro w hSw
            go_simp
            with_reducible rfl
           change wpAnyH _ _ _ _ _ _ _ (Act.put _ (some 103) _) _
           simp only [Act.put, List.setIfInBounds_toArray, List.set_cons_zero, List.set_cons_succ]
           refine tk (i := 6) (v := ?_) rfl (by rfl) ?_ (by assumption) ?_
           rotate_left
           ·
            intro w hSw
            go_simp
            with_reducible rfl
           change wpAnyH _ _ _ _ _ _ _ (Act.put _ (some 104) _) _
           simp only [Act.put, List.setIfInBounds_toArray, List.set_cons_zero, List.set_cons_succ]
           refine tk (i := 7) (v := ?_) rfl (by rfl) ?_ (by assumption) ?_
           rotate_left
           ·
            intro w hSw
            go_simp
            with_reducible rfl
           change wpAnyH _ _ _ _ _ _ _ (Act.put _ (some 105) _) _
           simp only [Act.put, List.setIfInBounds_toArray, List.set_cons_zero, List.set_cons_succ]
           refine tk (i := 8) (v := ?_) rfl (by rfl) ?_ (by assumption) ?_
           rotate_left
           ·
            intro w hSw
            go_simp
            with_reducible rfl
           change wpAnyH _ _ _ _ _ _ _ (Act.put _ (some 106) _) _
           simp only [Act.put, List.setIfInBounds_toArray, List.set_cons_zero, List.set_cons_succ]
           refine tk (i := 9) (v := ?_) rfl (by rfl) ?_ (by assumption) ?_
           rotate_left
           ·
            intro w hSw
            go_simp
            with_reducible rfl
           change wpAnyH _ _ _ _ _ _ _ (Act.put _ (some 107) _) _
           simp only [Act.put, List.setIfInBounds_toArray, List.set_cons_zero, List.set_cons_succ]
           refine tk (i := 10) (v := ?_) rfl (by rfl) ?_ (by assumption) ?_
           rotate_left
           ·
            intro w hSw
            go_simp
            with_reducible rfl
           change wpAnyH _ _ _ _ _ _ _ (Act.put _ (some 108) _) _
           simp only [Act.put, List.setIfInBounds_toArray, List.set_cons_zero, List.set_cons_succ]
           refine tk (i := 11) (v := ?_) rfl (by rfl) ?_ (by assumption) ?_
           rotate_left
           ·
            intro w hSw
            go_simp
            with_reducible rfl
           change wpAnyH _ _ _ _ _ _ _ (Act.put _ (some 109) _) _
           simp only [Act.put, List.setIfInBounds_toArray, List.set_cons_zero, List.set_cons_succ]
           refine tk (i := 12) (v := ?_) rfl (by rfl) ?_ (by assumption) ?_
           rotate_left
           ·
            intro w hSw
            go_simp
            with_reducible rfl
           change wpAnyH _ _ _ _ _ _ _ (Act.put _ (some 110) _) _
           simp only [Act.put, List.setIfInBounds_toArray, List.set_cons_zero, List.set_cons_succ]
           refine tk (i := 13) (v := ?_) rfl (by rfl) ?_ (by assumption) ?_
           rotate_left
           ·
            intro w hSw
            obtain ⟨e0, e1, e2, e3, e4, e5, e6, e7, e8, e9⟩ := cells10 (HCI.out _ hSw)
            rw [h28] at e0
            go_simp
            with_reducible rfl
           change wpAnyH _ _ _ _ _ _ _ (Act.put _ (some 111) _) _
           simp only [Act.put, List.setIfInBounds_toArray, List.set_cons_zero, List.set_cons_succ]
           refine tk (i := 14) (v := ?_) rfl (by rfl) ?_ (by assumption) ?_
           rotate_left
           ·
            intro w hSw
            go_simp
            with_reducible rfl
           change wpAnyH _ _ _ _ _ _ _ (Act.put _ (some 112) _) _
           simp only [Act.put, List.setIfInBounds_toArray, List.set_cons_zero, List.set_cons_succ]
           refine tk (i := 15) (v := ?_) rfl (by rfl) ?_ (by assumption) ?_
           rotate_left
           ·
            intro w hSw
            go_simp
            with_reducible rfl
           change wpAnyH _ _ _ _ _ _ _ (Act.put _ (some 113) _) _
           simp only [Act.put, List.setIfInBounds_toArray, List.set_cons_zero, List.set_cons_succ]
           refine tk (i := 16) (v := ?_) rfl (by rfl) ?_ (by assumption) ?_
           rotate_left
           ·
            intro w hSw
            go_simp
            with_reducible rfl
           change wpAnyH _ _ _ _ _ _ _ (Act.put _ (some 114) _) _
           simp only [Act.put, List.setIfInBounds_toArray, List.set_cons_zero, List.set_cons_succ]
           refine tk (i := 17) (v := ?_) rfl (by rfl) ?_ (by assumption) ?_
           rotate_left
           ·
            intro w hSw
            go_simp
            with_reducible rfl
           change wpAnyH _ _ _ _ _ _ _ (Act.put _ (some 115) _) _
           simp only [Act.put, List.setIfInBounds_toArray, List.set_cons_zero, List.set_cons_succ]
           refine tk (i := 18) (v := ?_) rfl (by rfl) ?_ (by assumption) ?_
           rotate_left
           ·
            intro w hSw
            go_simp
            with_reducible rfl
           change wpAnyH _ _ _ _ _ _ _ (Act.put _ (some 116) _) _
           simp only [Act.put, List.setIfInBounds_toArray, List.set_cons_zero, List.set_cons_succ]
           refine tk (i := 19) (v := ?_) rfl (by rfl) ?_ (by assumption) ?_
           rotate_left
           ·
            intro w hSw
            go_simp
            with_reducible rfl
           change wpAnyH _ _ _ _ _ _ _ (Act.put _ (some 117) _) _
           simp only [Act.put, List.setIfInBounds_toArray, List.set_cons_zero, List.set_cons_succ]
           refine tk (i := 20) (v := ?_) rfl (by rfl) ?_ (by assumption) ?_
           rotate_left
           ·
            intro w hSw
            obtain ⟨g3, p3, hq, cl⟩ := slat_at (HENJ.out _ hSw).2 HLN.out.symm (q := n0) (by have := HNN1.out; omega)
            simp only [Option.some.injEq, Addr.mk.injEq, and_true] at hq
            obtain ⟨rfl, rfl⟩ := hq
            rw [HLA.out] at cl
            go_simp
            with_reducible rfl
           change wpAnyH _ _ _ _ _ _ _ (Act.put _ (some 118) _) _
           simp only [Act.put, List.setIfInBounds_toArray, List.set_cons_zero, List.set_cons_succ]
           refine tk (i := 21) (v := ?_) rfl (by rfl) ?_ (by assumption) ?_
           rotate_left
           ·
            intro w hSw
            go_simp
            with_reducible rfl
           change wpAnyH _ _ _ _ _ _ _ (Act.put _ (some 119) _) _
           simp only [Act.put, List.setIfInBounds_toArray, List.set_cons_zero, List.set_cons_succ]
           refine tk (i := 22) (v := ?_) rfl (by rfl) ?_ (by assumption) ?_
           rotate_left
           ·
            intro w hSw
            go_simp
            with_reducible rfl
           change wpAnyH _ _ _ _ _ _ _ (Act.put _ (some 120) _) _
           simp only [Act.put, List.setIfInBounds_toArray, List.set_cons_zero, List.set_cons_succ]
           refine tk (i := 23) (v := ?_) rfl (by rfl) ?_ (by assumption) ?_
           rotate_left
           ·
            intro w hSw
            go_simp
            with_reducible rfl
           change wpAnyH _ _ _ _ _ _ _ (Act.put _ (some 121) _) _
           simp only [Act.put, List.setIfInBounds_toArray, List.set_cons_zero, List.set_cons_succ]
           refine tk (i := 24) (v := ?_) rfl (by rfl) ?_ (by assumption) ?_
           rotate_left
           ·
            intro w hSw
            go_simp
            with_reducible rfl
           change wpAnyH _ _ _ _ _ _ _ (Act.put _ (some 122) _) _
           simp only [Act.put, List.setIfInBounds_toArray, List.set_cons_zero, List.set_cons_succ]
           refine tk (i := 25) (v := ?_) rfl (by rfl) ?_ (by assumption) ?_
           rotate_left
           ·
            intro w hSw
            obtain ⟨e0, e1, e2, e3, e4, e5, e6, e7, e8, e9⟩ := cells10 (HCI.out _ hSw)
            rw [h28] at e0
            go_simp
            with_reducible rfl
           change wpAnyH _ _ _ _ _ _ _ (Act.put _ (some 123) _) _
           simp only [Act.put, List.setIfInBounds_toArray, List.set_cons_zero, List.set_cons_succ]
           refine tk (i := 26) (v := ?_) rfl (by rfl) ?_ (by assumption) ?_
           rotate_left
           ·
            intro w hSw
            go_simp
            with_reducible rfl
           change wpAnyH _ _ _ _ _ _ _ (Act.put _ (some 124) _) _
           simp only [Act.put, List.setIfInBounds_toArray, List.set_cons_zero, List.set_cons_succ]
           refine tk (i := 27) (v := ?_) rfl (by rfl) ?_ (by assumption) ?_
           rotate_left
           ·
            intro w hSw
            go_simp
            with_reducible rfl
           change wpAnyH _ _ _ _ _ _ _ (Act.put _ (some 125) _) _
           simp only [Act.put, List.setIfInBounds_toArray, List.set_cons_zero, List.set_cons_succ]
           refine tk (i := 28) (v := ?_) rfl (by rfl) ?_ (by assumption) ?_
           rotate_left
           ·
            intro w hSw
            go_simp
            with_reducible rfl
           change wpAnyH _ _ _ _ _ _ _ (Act.put _ (some 126) _) _
           simp only [Act.put, List.setIfInBounds_toArray, List.set_cons_zero, List.set_cons_succ]
           refine wpAnyH_done (by kernel_rfl) ?_ _
           clear ck ctj hS
           go_wp2_with fail
           go_loopw [13] (fun z W => ∃ (q : Nat), q ≤ N ∧ z = .int .i64 (q : Int) ∧ Hid (Below z8 w8 W)) (fun z _ => N - (intOf z).toNat)
           case atStart => exact ⟨0, Nat.zero_le _, rfl, HXz⟩
           case round =>
            obtain ⟨q, hq, rfl, HY⟩ := hrel
            clear HXz HXd
            have HY3 : Hid (Below m3 w3 wr) := Lib.hid (HW8.out.trans (HY.out.mono (by have := HW8.out.size; have := HZ8.out; have := HM3.out; omega)))
            have cti := (HEI.out wr HY3.out).1
            by_cases hqX : q < N
            ·
             have hqXi : (q : Int) < (N : Int) := by omega
             by_cases hqn : q < n0
             ·
              have hqni : (q : Int) < (n0 : Int) := by omega
              obtain ⟨gi, pi, hsi, cq⟩ := slat_at (HEI.out wr HY3.out).2 HN0.out hqn
              subst hsi
              obtain ⟨gj2, pj2, hsj2, cq2⟩ := slat_at (HENJ.out wr HY3.out).2 HLN.out.symm hqX
              simp only [Option.some.injEq, Addr.mk.injEq, and_true] at hsj2
              obtain ⟨rfl, rfl⟩ := hsj2
              obtain ⟨x, hx⟩ : ∃ x, x = (r i).getD q 0 := ⟨_, rfl⟩
              have HXV : Hid ((r i).getD q 0 = x) := Lib.hid hx.symm
              have HX := Lib.hid HY.out
              have HX3 := Lib.hid HY3.out
              clear hx HY HY3
              go_upto_region 31 with fail
              refine wp_region_held_drew (S := (fun w' => Below m3 w3 w')) (by kernel_rfl) (HX3.out.drew) (fun hS => ?_)
              have HXd : Hid (Below m3 w3 wr.drew) := Lib.hid HX3.out.drew
              have HXz : Hid (Below z8 w8 wr.drew) := Lib.hid HX.out.drew
              clear HX3 HX
              generalize wr.drew = w0 at *
              refine tk (i := 0) (v := ?_) rfl (by rfl) ?_ (by assumption) ?_
              rotate_left
              ·
               intro w hSw
               go_simp
               with_reducible rfl
              change wpAnyH _ _ _ _ _ _ _ (Act.put _ (some 141) _) _
              simp only [Act.put, List.setIfInBounds_toArray, List.set_cons_zero, List.set_cons_succ]
              refine tk (i := 1) (v := ?_) rfl (by rfl) ?_ (by assumption) ?_
              rotate_left
              ·
               intro w hSw
               go_simp
               with_reducible rfl
              change wpAnyH _ _ _ _ _ _ _ (Act.put _ (some 142) _) _
              simp only [Act.put, List.setIfInBounds_toArray, List.set_cons_zero, List.set_cons_succ]
              refine tk (i := 2) (v := ?_) rfl (by rfl) ?_ (by assumption) ?_
              rotate_left
              ·
               intro w hSw
               go_simp
               with_reducible rfl
              change wpAnyH _ _ _ _ _ _ _ (Act.put _ (some 143) _) _
              simp only [Act.put, List.setIfInBounds_toArray, List.set_cons_zero, List.set_cons_succ]
              refine tk (i := 3) (v := ?_) rfl (by rfl) ?_ (by assumption) ?_
              rotate_left
              ·
               intro w hSw
               obtain ⟨g3, p3, hq, cl⟩ := slat_at (HENJ.out _ hSw).2 HLN.out.symm hqX
               simp only [Option.some.injEq, Addr.mk.injEq, and_true] at hq
               obtain ⟨rfl, rfl⟩ := hq
               rw [HPR.out q hqX hqn, HXV.out] at cl
               go_simp
               with_reducible rfl
              change wpAnyH _ _ _ _ _ _ _ (Act.put _ (some 144) _) _
              simp only [Act.put, List.setIfInBounds_toArray, List.set_cons_zero, List.set_cons_succ]
              refine tk (i := 4) (v := ?_) rfl (by rfl) ?_ (by assumption) ?_
              rotate_left
              ·
               intro w hSw
               go_simp
               with_reducible rfl
              change wpAnyH _ _ _ _ _ _ _ (Act.put _ (some 145) _) _
              simp only [Act.put, List.setIfInBounds_toArray, List.set_cons_zero, List.set_cons_succ]
              refine tk (i := 5) (v := ?_) rfl (by rfl) ?_ (by assumption) ?_
              rotate_left
              ·
               intro w hSw
               go_simp
               with_reducible rfl
              change wpAnyH _ _ _ _ _ _ _ (Act.put _ (some 146) _) _
              simp only [Act.put, List.setIfInBounds_toArray, List.set_cons_zero, List.set_cons_succ]
              refine tk (i := 6) (v := ?_) rfl (by rfl) ?_ (by assumption) ?_
              rotate_left
              ·
               intro w hSw
               go_simp
               with_reducible rfl
              change wpAnyH _ _ _ _ _ _ _ (Act.put _ (some 147) _) _
              simp only [Act.put, List.setIfInBounds_toArray, List.set_cons_zero, List.set_cons_succ]
              refine tk (i := 7) (v := ?_) rfl (by rfl) ?_ (by assumption) ?_
              rotate_left
              ·
               intro w hSw
               have cl := (HEI.out _ hSw).1
               go_simp
               with_reducible rfl
              change wpAnyH _ _ _ _ _ _ _ (Act.put _ (some 148) _) _
              simp only [Act.put, List.setIfInBounds_toArray, List.set_cons_zero, List.set_cons_succ]
              refine tk (i := 8) (v := ?_) rfl (by rfl) ?_ (by assumption) ?_
              rotate_left
              ·
               intro w hSw
               go_simp
               with_reducible rfl
              change wpAnyH _ _ _ _ _ _ _ (Act.put _ (some 149) _) _
              simp only [Act.put, List.setIfInBounds_toArray, List.set_cons_zero, List.set_cons_succ]
              refine tk (i := 9) (v := ?_) rfl (by rfl) ?_ (by assumption) ?_
              rotate_left
              ·
               intro w hSw
               go_simp
               with_reducible rfl
              change wpAnyH _ _ _ _ _ _ _ (Act.put _ (some 150) _) _
              simp only [Act.put, List.setIfInBounds_toArray, List.set_cons_zero, List.set_cons_succ]
              refine tk (i := 10) (v := ?_) rfl (by rfl) ?_ (by assumption) ?_
              rotate_left
              ·
               intro w hSw
               obtain ⟨g3, p3, hq, cl⟩ := slat_at (HEI.out _ hSw).2 HN0.out hqn
               simp only [Option.some.injEq, Addr.mk.injEq, and_true] at hq
               obtain ⟨rfl, rfl⟩ := hq
               rw [HXV.out] at cl
               go_simp
               with_reducible rfl
              change wpAnyH _ _ _ _ _ _ _ (Act.put _ (some 151) _) _
              simp only [Act.put, List.setIfInBounds_toArray, List.set_cons_zero, List.set_cons_succ]
              refine tk (i := 11) (v := ?_) rfl (by rfl) ?_ (by assumption) ?_
              rotate_left
              ·
               intro w hSw
               go_simp
               with_reducible rfl
              change wpAnyH _ _ _ _ _ _ _ (Act.put _ (some 152) _) _
              simp only [Act.put, List.setIfInBounds_toArray, List.set_cons_zero, List.set_cons_succ]
              refine wpAnyH_done (by kernel_rfl) ?_ _
              clear cq cq2 cti hS
              go_wp2_with fail
              go_roundw
              case rel => exact ⟨q + 1, by omega, by go_num, HXz⟩
              case measure => simp [intOf]; omega
             ·
              have hqni : ¬ (q : Int) < (n0 : Int) := by omega
              clear hqn
              go_wp2_with fail
              go_roundw
              case rel => exact ⟨k + 1, by omega, by go_num, HY⟩
              case measure => simp [intOf]; omega
            ·
             have hqXi : ¬ (q : Int) < (N : Int) := by omega
             clear hqX
             go_wp2_with fail
             go_roundw
             case rel => exact ⟨k + 1, by omega, by go_num, HY⟩
             case measure => simp [intOf]; omega
         ·
          as_aux_lemma =>
           have hkni : ¬ (k : Int) < (nn : Int) := by omega
           clear hkn
           have cti := (HEI.out wr HX3.out).1
           obtain ⟨e0, e1, e2, e3, e4, e5, e6, e7, e8, e9⟩ := cells10 (HCI.out wr HX3.out)
           rw [h28] at e0
           obtain ⟨dst, hdst⟩ : ∃ q, q = f.x.to := ⟨_, rfl⟩
           have HGT := Lib.hid hdst
           clear hdst
           by_cases hg0 : 0 ≤ dst
           ·
            have d0 : decide (0 ≤ dst) = true := by simpa using hg0
            by_cases hgn : dst < (n : Int)
            ·
             obtain ⟨j, rfl⟩ : ∃ j : Nat, dst = j := ⟨dst.toNat, by omega⟩
             have hjn : j < n := by omega
             obtain ⟨sj, cj, hentj⟩ := HEJ.out j hjn
             rw [HHD.out h28 j hjn HGT.out.symm] at hentj
             have HENT := Lib.hid hentj
             clear hentj
             go_upto_region 33 with fail
             refine wp_region_held_drew (S := (fun w' => Below m3 w3 w')) (by kernel_rfl) (HX3.out.drew) (fun hS => ?_)
             have HXd : Hid (Below m3 w3 wr.drew) := Lib.hid HX3.out.drew
             have HXz : Hid (Below z8 w8 wr.drew) := Lib.hid HX.out.drew
             clear HX3 HX
             generalize wr.drew = w0 at *
             refine tk (i := 0) (v := ?_) rfl (by rfl) ?_ (by assumption) ?_
             rotate_left
             ·
              intro w hSw
              go_simp
              with_reducible rfl
             change wpAnyH _ _ _ _ _ _ _ (Act.put _ (some 153) _) _
             simp only [Act.put, List.setIfInBounds_toArray, List.set_cons_zero, List.set_cons_succ]
             refine tk (i := 1) (v := ?_) rfl (by rfl) ?_ (by assumption) ?_
             rotate_left
             ·
              intro w hSw
              go_simp
              with_reducible rfl
             change wpAnyH _ _ _ _ _ _ _ (Act.put _ (some 154) _) _
             simp only [Act.put, List.setIfInBounds_toArray, List.set_cons_zero, List.set_cons_succ]
             refine tk (i := 2) (v := ?_) rfl (by rfl) ?_ (by assumption) ?_
             rotate_left
             ·
              intro w hSw
              go_simp
              with_reducible rfl
             change wpAnyH _ _ _ _ _ _ _ (Act.put _ (some 155) _) _
             simp only [Act.put, List.setIfInBounds_toArray, List.set_cons_zero, List.set_cons_succ]
             refine tk (i := 3) (v := ?_) rfl (by rfl) ?_ (by assumption) ?_
             rotate_left
             ·
              intro w hSw
              go_simp
              with_reducible rfl
             change wpAnyH _ _ _ _ _ _ _ (Act.put _ (some 156) _) _
             simp only [Act.put, List.setIfInBounds_toArray, List.set_cons_zero, List.set_cons_succ]
             refine tk (i := 4) (v := ?_) rfl (by rfl) ?_ (by assumption) ?_
             rotate_left
             ·
              intro w hSw
              obtain ⟨e0, e1, e2, e3, e4, e5, e6, e7, e8, e9⟩ := cells10 (HCI.out _ hSw)
              rw [h28] at e0
              rw [← HGT.out] at e4
              go_simp
              with_reducible rfl
             change wpAnyH _ _ _ _ _ _ _ (Act.put _ (some 157) _) _
             simp only [Act.put, List.setIfInBounds_toArray, List.set_cons_zero, List.set_cons_succ]
             refine tk (i := 5) (v := ?_) rfl (by rfl) ?_ (by assumption) ?_
             rotate_left
             ·
              intro w hSw
              go_simp
              with_reducible rfl
             change wpAnyH _ _ _ _ _ _ _ (Act.put _ (some 158) _) _
             simp only [Act.put, List.setIfInBounds_toArray, List.set_cons_zero, List.set_cons_succ]
             refine tk (i := 6) (v := ?_) rfl (by rfl) ?_ (by assumption) ?_
             rotate_left
             ·
              intro w hSw
              go_simp
              with_reducible rfl
             change wpAnyH _ _ _ _ _ _ _ (Act.put _ (some 159) _) _
             simp only [Act.put, List.setIfInBounds_toArray, List.set_cons_zero, List.set_cons_succ]
             refine tk (i := 7) (v := ?_) rfl (by rfl) ?_ (by assumption) ?_
             rotate_left
             ·
              intro w hSw
              go_simp
              with_reducible rfl
             change wpAnyH _ _ _ _ _ _ _ (Act.put _ (some 160) _) _
             simp only [Act.put, List.setIfInBounds_toArray, List.set_cons_zero, List.set_cons_succ]
             refine tk (i := 8) (v := ?_) rfl (by rfl) ?_ (by assumption) ?_
             rotate_left
             ·
              intro w hSw
              go_simp
              with_reducible rfl
             change wpAnyH _ _ _ _ _ _ _ (Act.put _ (some 161) _) _
             simp only [Act.put, List.setIfInBounds_toArray, List.set_cons_zero, List.set_cons_succ]
             refine tk (i := 9) (v := ?_) rfl (by rfl) ?_ (by assumption) ?_
             rotate_left
             ·
              intro w hSw
              go_simp
              with_reducible rfl
             change wpAnyH _ _ _ _ _ _ _ (Act.put _ (some 162) _) _
             simp only [Act.put, List.setIfInBounds_toArray, List.set_cons_zero, List.set_cons_succ]
             refine tk (i := 10) (v := ?_) rfl (by rfl) ?_ (by assumption) ?_
             rotate_left
             ·
              intro w hSw
              go_simp
              with_reducible rfl
             change wpAnyH _ _ _ _ _ _ _ (Act.put _ (some 163) _) _
             simp only [Act.put, List.setIfInBounds_toArray, List.set_cons_zero, List.set_cons_succ]
             refine tk (i := 11) (v := ?_) rfl (by rfl) ?_ (by assumption) ?_
             rotate_left
             ·
              intro w hSw
              obtain ⟨e0, e1, e2, e3, e4, e5, e6, e7, e8, e9⟩ := cells10 (HCI.out _ hSw)
              rw [h28] at e0
              rw [← HGT.out] at e4
              go_simp
              with_reducible rfl
             change wpAnyH _ _ _ _ _ _ _ (Act.put _ (some 164) _) _
             simp only [Act.put, List.setIfInBounds_toArray, List.set_cons_zero, List.set_cons_succ]
             refine tk (i := 12) (v := ?_) rfl (by rfl) ?_ (by assumption) ?_
             rotate_left
             ·
              intro w hSw
              go_simp
              with_reducible rfl
             change wpAnyH _ _ _ _ _ _ _ (Act.put _ (some 165) _) _
             simp only [Act.put, List.setIfInBounds_toArray, List.set_cons_zero, List.set_cons_succ]
             refine tk (i := 13) (v := ?_) rfl (by rfl) ?_ (by assumption) ?_
             rotate_left
             ·
              intro w hSw
              go_simp
              with_reducible rfl
             change wpAnyH _ _ _ _ _ _ _ (Act.put _ (some 166) _) _
             simp only [Act.put, List.setIfInBounds_toArray, List.set_cons_zero, List.set_cons_succ]
             refine tk (i := 14) (v := ?_) rfl (by rfl) ?_ (by assumption) ?_
             rotate_left
             ·
              intro w hSw
              go_simp
              with_reducible rfl
             change wpAnyH _ _ _ _ _ _ _ (Act.put _ (some 167) _) _
             simp only [Act.put, List.setIfInBounds_toArray, List.set_cons_zero, List.set_cons_succ]
             refine tk (i := 15) (v := ?_) rfl (by rfl) ?_ (by assumption) ?_
             rotate_left
             ·
              intro w hSw
              go_simp
              with_reducible rfl
             change wpAnyH _ _ _ _ _ _ _ (Act.put _ (some 168) _) _
             simp only [Act.put, List.setIfInBounds_toArray, List.set_cons_zero, List.set_cons_succ]
             refine tk (i := 16) (v := ?_) rfl (by rfl) ?_ (by assumption) ?_
             rotate_left
             ·
              intro w hSw
              go_simp
              with_reducible rfl
             change wpAnyH _ _ _ _ _ _ _ (Act.put _ (some 169) _) _
             simp only [Act.put, List.setIfInBounds_toArray, List.set_cons_zero, List.set_cons_succ]
             refine tk (i := 17) (v := ?_) rfl (by rfl) ?_ (by assumption) ?_
             rotate_left
             ·
              intro w hSw
              go_simp
              with_reducible rfl
             change wpAnyH _ _ _ _ _ _ _ (Act.put _ (some 170) _) _
             simp only [Act.put, List.setIfInBounds_toArray, List.set_cons_zero, List.set_cons_succ]
             refine tk (i := 18) (v := ?_) rfl (by rfl) ?_ (by assumption) ?_
             rotate_left
             ·
              intro w hSw
              go_simp
              with_reducible rfl
             change wpAnyH _ _ _ _ _ _ _ (Act.put _ (some 171) _) _
             simp only [Act.put, List.setIfInBounds_toArray, List.set_cons_zero, List.set_cons_succ]
             refine tk (i := 19) (v := ?_) rfl (by rfl) ?_ (by assumption) ?_
             rotate_left
             ·
              intro w hSw
              obtain ⟨e0, e1, e2, e3, e4, e5, e6, e7, e8, e9⟩ := cells10 (HCI.out _ hSw)
              rw [h28] at e0
              rw [← HGT.out] at e4
              go_simp
              with_reducible rfl
             change wpAnyH _ _ _ _ _ _ _ (Act.put _ (some 172) _) _
             simp only [Act.put, List.setIfInBounds_toArray, List.set_cons_zero, List.set_cons_succ]
             refine tk (i := 20) (v := ?_) rfl (by rfl) ?_ (by assumption) ?_
             rotate_left
             ·
              intro w hSw
              go_simp
              with_reducible rfl
             change wpAnyH _ _ _ _ _ _ _ (Act.put _ (some 173) _) _
             simp only [Act.put, List.setIfInBounds_toArray, List.set_cons_zero, List.set_cons_succ]
             refine tk (i := 21) (v := ?_) rfl (by rfl) ?_ (by assumption) ?_
             rotate_left
             ·
              intro w hSw
              go_simp
              with_reducible rfl
             change wpAnyH _ _ _ _ _ _ _ (Act.put _ (some 174) _) _
             simp only [Act.put, List.setIfInBounds_toArray, List.set_cons_zero, List.set_cons_succ]
             refine tk (i := 22) (v := ?_) rfl (by rfl) ?_ (by assumption) ?_
             rotate_left
             ·
              intro w hSw
              go_simp
              with_reducible rfl
             change wpAnyH _ _ _ _ _ _ _ (Act.put _ (some 175) _) _
             simp only [Act.put, List.setIfInBounds_toArray, List.set_cons_zero, List.set_cons_succ]
             refine tk (i := 23) (v := ?_) rfl (by rfl) ?_ (by assumption) ?_
             rotate_left
             ·
              intro w hSw
              go_simp
              with_reducible rfl
             change wpAnyH _ _ _ _ _ _ _ (Act.put _ (some 176) _) _
             simp only [Act.put, List.setIfInBounds_toArray, List.set_cons_zero, List.set_cons_succ]
             refine tk (i := 24) (v := ?_) rfl (by rfl) ?_ (by assumption) ?_
             rotate_left
             ·
              intro w hSw
              go_simp
              with_reducible rfl
             change wpAnyH _ _ _ _ _ _ _ (Act.put _ (some 177) _) _
             simp only [Act.put, List.setIfInBounds_toArray, List.set_cons_zero, List.set_cons_succ]
             refine tk (i := 25) (v := ?_) rfl (by rfl) ?_ (by assumption) ?_
             rotate_left
             ·
              intro w hSw
              go_simp
              with_reducible rfl
             change wpAnyH _ _ _ _ _ _ _ (Act.put _ (some 178) _) _
             simp only [Act.put, List.setIfInBounds_toArray, List.set_cons_zero, List.set_cons_succ]
             refine tk (i := 26) (v := ?_) rfl (by rfl) ?_ (by assumption) ?_
             rotate_left
             ·
              intro w hSw
              go_simp
              with_reducible rfl
             change wpAnyH _ _ _ _ _ _ _ (Act.put _ (some 179) _) _
             simp only [Act.put, List.setIfInBounds_toArray, List.set_cons_zero, List.set_cons_succ]
             refine tk (i := 27) (v := ?_) rfl (by rfl) ?_ (by assumption) ?_
             rotate_left
             ·
              intro w hSw
              go_simp
              with_reducible rfl
             change wpAnyH _ _ _ _ _ _ _ (Act.put _ (some 180) _) _
             simp only [Act.put, List.setIfInBounds_toArray, List.set_cons_zero, List.set_cons_succ]
             refine tk (i := 28) (v := ?_) rfl (by rfl) ?_ (by assumption) ?_
             rotate_left
             ·
              intro w hSw
              go_simp
              with_reducible rfl
             change wpAnyH _ _ _ _ _ _ _ (Act.put _ (some 181) _) _
             simp only [Act.put, List.setIfInBounds_toArray, List.set_cons_zero, List.set_cons_succ]
             refine tk (i := 29) (v := ?_) rfl (by rfl) ?_ (by assumption) ?_
             rotate_left
             ·
              intro w hSw
              go_simp
              with_reducible rfl
             change wpAnyH _ _ _ _ _ _ _ (Act.put _ (some 182) _) _
             simp only [Act.put, List.setIfInBounds_toArray, List.set_cons_zero, List.set_cons_succ]
             refine tk (i := 30) (v := ?_) rfl (by rfl) ?_ (by assumption) ?_
             rotate_left
             ·
              intro w hSw
              obtain ⟨e0, e1, e2, e3, e4, e5, e6, e7, e8, e9⟩ := cells10 (HCI.out _ hSw)
              rw [h28] at e0
              rw [← HGT.out] at e4
              go_simp
              with_reducible rfl
             change wpAnyH _ _ _ _ _ _ _ (Act.put _ (some 183) _) _
             simp only [Act.put, List.setIfInBounds_toArray, List.set_cons_zero, List.set_cons_succ]
             refine tk (i := 31) (v := ?_) rfl (by rfl) ?_ (by assumption) ?_
             rotate_left
             ·
              intro w hSw
              go_simp
              with_reducible rfl
             change wpAnyH _ _ _ _ _ _ _ (Act.put _ (some 184) _) _
             simp only [Act.put, List.setIfInBounds_toArray, List.set_cons_zero, List.set_cons_succ]
             refine tk (i := 32) (v := ?_) rfl (by rfl) ?_ (by assumption) ?_
             rotate_left
             ·
              intro w hSw
              have cl := (HENT.out _ hSw).1
              go_simp
              with_reducible rfl
             change wpAnyH _ _ _ _ _ _ _ (Act.put _ (some 185) _) _
             simp only [Act.put, List.setIfInBounds_toArray, List.set_cons_zero, List.set_cons_succ]
             refine tk (i := 33) (v := ?_) rfl (by rfl) ?_ (by assumption) ?_
             rotate_left
             ·
              intro w hSw
              go_simp
              with_reducible rfl
             change wpAnyH _ _ _ _ _ _ _ (Act.put _ (some 186) _) _
             simp only [Act.put, List.setIfInBounds_toArray, List.set_cons_zero, List.set_cons_succ]
             refine tk (i := 34) (v := ?_) rfl (by rfl) ?_ (by assumption) ?_
             rotate_left
             ·
              intro w hSw
              go_simp
              with_reducible rfl
             change wpAnyH _ _ _ _ _ _ _ (Act.put _ (some 187) _) _
             simp only [Act.put, List.setIfInBounds_toArray, List.set_cons_zero, List.set_cons_succ]
             refine tk (i := 35) (v := ?_) rfl (by rfl) ?_ (by assumption) ?_
             rotate_left
             ·
              intro w hSw
              go_simp
              with_reducible rfl
             change wpAnyH _ _ _ _ _ _ _ (Act.put _ (some 188) _) _
             simp only [Act.put, List.setIfInBounds_toArray, List.set_cons_zero, List.set_cons_succ]
             refine tk (i := 36) (v := ?_) rfl (by rfl) ?_ (by assumption) ?_
             rotate_left
             ·
              intro w hSw
              go_simp
              with_reducible rfl
             change wpAnyH _ _ _ _ _ _ _ (Act.put _ (some 189) _) _
             simp only [Act.put, List.setIfInBounds_toArray, List.set_cons_zero, List.set_cons_succ]
             refine tk (i := 37) (v := ?_) rfl (by rfl) ?_ (by assumption) ?_
             rotate_left
             ·
              intro w hSw
              have cl := (HEI.out _ hSw).1
              go_simp
              with_reducible rfl
             change wpAnyH _ _ _ _ _ _ _ (Act.put _ (some 190) _) _
             simp only [Act.put, List.setIfInBounds_toArray, List.set_cons_zero, List.set_cons_succ]
             refine tk (i := 38) (v := ?_) rfl (by rfl) ?_ (by assumption) ?_
             rotate_left
             ·
              intro w hSw
              go_simp
              with_reducible rfl
             change wpAnyH _ _ _ _ _ _ _ (Act.put _ (some 191) _) _
             simp only [Act.put, List.setIfInBounds_toArray, List.set_cons_zero, List.set_cons_succ]
             refine tk (i := 39) (v := ?_) rfl (by rfl) ?_ (by assumption) ?_
             rotate_left
             ·
              intro w hSw
              go_simp
              with_reducible rfl
             change wpAnyH _ _ _ _ _ _ _ (Act.put _ (some 192) _) _
             simp only [Act.put, List.setIfInBounds_toArray, List.set_cons_zero, List.set_cons_succ]
             refine tk (i := 40) (v := ?_) rfl (by rfl) ?_ (by assumption) ?_
             rotate_left
             ·
              intro w hSw
              go_simp
              with_reducible rfl
             change wpAnyH _ _ _ _ _ _ _ (Act.put _ (some 193) _) _
             simp only [Act.put, List.setIfInBounds_toArray, List.set_cons_zero, List.set_cons_succ]
             refine wpAnyH_done (by kernel_rfl) ?_ _
             go_wp2_with fail
             go_roundw
             case rel => exact ⟨i + 1, by omega, by go_num, HXd⟩
             case measure => simp [intOf]; omega
            ·
             have d1 : decide (dst < (n : Int)) = false := by simpa using hgn
             go_upto_region 33 with fail
             refine wp_region_held_drew (S := (fun w' => Below m3 w3 w')) (by kernel_rfl) (HX3.out.drew) (fun hS => ?_)
             have HXd : Hid (Below m3 w3 wr.drew) := Lib.hid HX3.out.drew
             have HXz : Hid (Below z8 w8 wr.drew) := Lib.hid HX.out.drew
             clear HX3 HX
             generalize wr.drew = w0 at *
             refine tk (i := 0) (v := ?_) rfl (by rfl) ?_ (by assumption) ?_
             rotate_left
             ·
              intro w hSw
              go_simp
              with_reducible rfl
             change wpAnyH _ _ _ _ _ _ _ (Act.put _ (some 153) _) _
             simp only [Act.put, List.setIfInBounds_toArray, List.set_cons_zero, List.set_cons_succ]
             refine tk (i := 1) (v := ?_) rfl (by rfl) ?_ (by assumption) ?_
             rotate_left
             ·
              intro w hSw
              go_simp
              with_reducible rfl
             change wpAnyH _ _ _ _ _ _ _ (Act.put _ (some 154) _) _
             simp only [Act.put, List.setIfInBounds_toArray, List.set_cons_zero, List.set_cons_succ]
             refine tk (i := 2) (v := ?_) rfl (by rfl) ?_ (by assumption) ?_
             rotate_left
             ·
              intro w hSw
              go_simp
              with_reducible rfl
             change wpAnyH _ _ _ _ _ _ _ (Act.put _ (some 155) _) _
             simp only [Act.put, List.setIfInBounds_toArray, List.set_cons_zero, List.set_cons_succ]
             refine tk (i := 3) (v := ?_) rfl (by rfl) ?_ (by assumption) ?_
             rotate_left
             ·
              intro w hSw
              go_simp
              with_reducible rfl
             change wpAnyH _ _ _ _ _ _ _ (Act.put _ (some 156) _) _
             simp only [Act.put, List.setIfInBounds_toArray, List.set_cons_zero, List.set_cons_succ]
             refine tk (i := 4) (v := ?_) rfl (by rfl) ?_ (by assumption) ?_
             rotate_left
             ·
              intro w hSw
              obtain ⟨e0, e1, e2, e3, e4, e5, e6, e7, e8, e9⟩ := cells10 (HCI.out _ hSw)
              rw [h28] at e0
              rw [← HGT.out] at e4
              go_simp
              with_reducible rfl
             change wpAnyH _ _ _ _ _ _ _ (Act.put _ (some 157) _) _
             simp only [Act.put, List.setIfInBounds_toArray, List.set_cons_zero, List.set_cons_succ]
             refine tk (i := 5) (v := ?_) rfl (by rfl) ?_ (by assumption) ?_
             rotate_left
             ·
              intro w hSw
              go_simp
              with_reducible rfl
             change wpAnyH _ _ _ _ _ _ _ (Act.put _ (some 158) _) _
             simp only [Act.put, List.setIfInBounds_toArray, List.set_cons_zero, List.set_cons_succ]
             refine tk (i := 6) (v := ?_) rfl (by rfl) ?_ (by assumption) ?_
             rotate_left
             ·
              intro w hSw
              go_simp
              with_reducible rfl
             change wpAnyH _ _ _ _ _ _ _ (Act.put _ (some 159) _) _
             simp only [Act.put, List.setIfInBounds_toArray, List.set_cons_zero, List.set_cons_succ]
             refine tk (i := 7) (v := ?_) rfl (by rfl) ?_ (by assumption) ?_
             rotate_left
             ·
              intro w hSw
              go_simp
              with_reducible rfl
             change wpAnyH _ _ _ _ _ _ _ (Act.put _ (some 160) _) _
             simp only [Act.put, List.setIfInBounds_toArray, List.set_cons_zero, List.set_cons_succ]
             refine tk (i := 8) (v := ?_) rfl (by rfl) ?_ (by assumption) ?_
             rotate_left
             ·
              intro w hSw
              go_simp
              with_reducible rfl
             change wpAnyH _ _ _ _ _ _ _ (Act.put _ (some 161) _) _
             simp only [Act.put, List.setIfInBounds_toArray, List.set_cons_zero, List.set_cons_succ]
             refine tk (i := 9) (v := ?_) rfl (by rfl) ?_ (by assumption) ?_
             rotate_left
             ·
              intro w hSw
              go_simp
              with_reducible rfl
             change wpAnyH _ _ _ _ _ _ _ (Act.put _ (some 162) _) _
             simp only [Act.put, List.setIfInBounds_toArray, List.set_cons_zero, List.set_cons_succ]
             refine tk (i := 10) (v := ?_) rfl (by rfl) ?_ (by assumption) ?_
             rotate_left
             ·
              intro w hSw
              go_simp
              with_reducible rfl
             change wpAnyH _ _ _ _ _ _ _ (Act.put _ (some 163) _) _
             simp only [Act.put, List.setIfInBounds_toArray, List.set_cons_zero, List.set_cons_succ]
             refine tk (i := 11) (v := ?_) rfl (by rfl) ?_ (by assumption) ?_
             rotate_left
             ·
              intro w hSw
              obtain ⟨e0, e1, e2, e3, e4, e5, e6, e7, e8, e9⟩ := cells10 (HCI.out _ hSw)
              rw [h28] at e0
              rw [← HGT.out] at e4
              go_simp
              with_reducible rfl
             change wpAnyH _ _ _ _ _ _ _ (Act.put _ (some 164) _) _
             simp only [Act.put, List.setIfInBounds_toArray, List.set_cons_zero, List.set_cons_succ]
             refine tk (i := 12) (v := ?_) rfl (by rfl) ?_ (by assumption) ?_
             rotate_left
             ·
              intro w hSw
              go_simp
              with_reducible rfl
             change wpAnyH _ _ _ _ _ _ _ (Act.put _ (some 165) _) _
             simp only [Act.put, List.setIfInBounds_toArray, List.set_cons_zero, List.set_cons_succ]
             refine tk (i := 13) (v := ?_) rfl (by rfl) ?_ (by assumption) ?_
             rotate_left
             ·
              intro w hSw
              go_simp
              with_reducible rfl
             change wpAnyH _ _ _ _ _ _ _ (Act.put _ (some 166) _) _
             simp only [Act.put, List.setIfInBounds_toArray, List.set_cons_zero, List.set_cons_succ]
             refine tk (i := 14) (v := ?_) rfl (by rfl) ?_ (by assumption) ?_
             rotate_left
             ·
              intro w hSw
              go_simp
              with_reducible rfl
             change wpAnyH _ _ _ _ _ _ _ (Act.put _ (some 167) _) _
             simp only [Act.put, List.setIfInBounds_toArray, List.set_cons_zero, List.set_cons_succ]
             refine tk (i := 15) (v := ?_) rfl (by rfl) ?_ (by assumption) ?_
             rotate_left
             ·
              intro w hSw
              go_simp
              with_reducible rfl
             change wpAnyH _ _ _ _ _ _ _ (Act.put _ (some 168) _) _
             simp only [Act.put, List.setIfInBounds_toArray, List.set_cons_zero, List.set_cons_succ]
             refine tk (i := 16) (v := ?_) rfl (by rfl) ?_ (by assumption) ?_
             rotate_left
             ·
              intro w hSw
              go_simp
              with_reducible rfl
             change wpAnyH _ _ _ _ _ _ _ (Act.put _ (some 169) _) _
             simp only [Act.put, List.setIfInBounds_toArray, List.set_cons_zero, List.set_cons_succ]
             refine tk (i := 17) (v := ?_) rfl (by rfl) ?_ (by assumption) ?_
             rotate_left
             ·
              intro w hSw
              go_simp
              with_reducible rfl
             change wpAnyH _ _ _ _ _ _ _ (Act.put _ (some 170) _) _
             simp only [Act.put, List.setIfInBounds_toArray, List.set_cons_zero, List.set_cons_succ]
             refine tk (i := 18) (v := ?_) rfl (by rfl) ?_ (by assumption) ?_
             rotate_left
             ·
              intro w hSw
              go_simp
              with_reducible rfl
             change wpAnyH _ _ _ _ _ _ _ (Act.put _ (some 171) _) _
             simp only [Act.put, List.setIfInBounds_toArray, List.set_cons_zero, List.set_cons_succ]
             refine tk (i := 19) (v := ?_) rfl (by rfl) ?_ (by assumption) ?_
             rotate_left
             ·
              intro w hSw
              obtain ⟨e0, e1, e2, e3, e4, e5, e6, e7, e8, e9⟩ := cells10 (HCI.out _ hSw)
              rw [h28] at e0
              rw [← HGT.out] at e4
              go_simp
              with_reducible rfl
             change wpAnyH _ _ _ _ _ _ _ (Act.put _ (some 172) _) _
             simp only [Act.put, List.setIfInBounds_toArray, List.set_cons_zero, List.set_cons_succ]
             refine tk (i := 20) (v := ?_) rfl (by rfl) ?_ (by assumption) ?_
             rotate_left
             ·
              intro w hSw
              go_simp
              with_reducible rfl
             change wpAnyH _ _ _ _ _ _ _ (Act.put _ (some 173) _) _
             simp only [Act.put, List.setIfInBounds_toArray, List.set_cons_zero, List.set_cons_succ]
             refine tk (i := 21) (v := ?_) rfl (by rfl) ?_ (by assumption) ?_
             rotate_left
             ·
              intro w hSw
              go_simp
              with_reducible rfl
             change wpAnyH _ _ _ _ _ _ _ (Act.put _ (some 174) _) _
             simp only [Act.put, List.setIfInBounds_toArray, List.set_cons_zero, List.set_cons_succ]
             refine tk (i := 22) (v := ?_) rfl (by rfl) ?_ (by assumption) ?_
             rotate_left
             ·
              intro w hSw
              go_simp
              with_reducible rfl
             change wpAnyH _ _ _ _ _ _ _ (Act.put _ (some 175) _) _
             simp only [Act.put, List.setIfInBounds_toArray, List.set_cons_zero, List.set_cons_succ]
             refine tk (i := 23) (v := ?_) rfl (by rfl) ?_ (by assumption) ?_
             rotate_left
             ·
              intro w hSw
              go_simp
              with_reducible rfl
             change wpAnyH _ _ _ _ _ _ _ (Act.put _ (some 176) _) _
             simp only [Act.put, List.setIfInBounds_toArray, List.set_cons_zero, List.set_cons_succ]
             refine tk (i := 24) (v := ?_) rfl (by rfl) ?_ (by assumption) ?_
             rotate_left
             ·
              intro w hSw
              go_simp
              with_reducible rfl
             change wpAnyH _ _ _ _ _ _ _ (Act.put _ (some 177) _) _
             simp only [Act.put, List.setIfInBounds_toArray, List.set_cons_zero, List.set_cons_succ]
             refine tks (i := 25) rfl (by rfl) (by assumption) ?_
             change wpAnyH _ _ _ _ _ _ _ (Act.put _ (some 178) _) _
             simp only [Act.put, List.setIfInBounds_toArray, List.set_cons_zero, List.set_cons_succ]
             refine tks (i := 26) rfl (by rfl) (by assumption) ?_
             change wpAnyH _ _ _ _ _ _ _ (Act.put _ (some 179) _) _
             simp only [Act.put, List.setIfInBounds_toArray, List.set_cons_zero, List.set_cons_succ]
             refine tks (i := 27) rfl (by rfl) (by assumption) ?_
             change wpAnyH _ _ _ _ _ _ _ (Act.put _ (some 180) _) _
             simp only [Act.put, List.setIfInBounds_toArray, List.set_cons_zero, List.set_cons_succ]
             refine tks (i := 28) rfl (by rfl) (by assumption) ?_
             change wpAnyH _ _ _ _ _ _ _ (Act.put _ (some 181) _) _
             simp only [Act.put, List.setIfInBounds_toArray, List.set_cons_zero, List.set_cons_succ]
             refine tks (i := 29) rfl (by rfl) (by assumption) ?_
             change wpAnyH _ _ _ _ _ _ _ (Act.put _ (some 182) _) _
             simp only [Act.put, List.setIfInBounds_toArray, List.set_cons_zero, List.set_cons_succ]
             refine tks (i := 30) rfl (by rfl) (by assumption) ?_
             change wpAnyH _ _ _ _ _ _ _ (Act.put _ (some 183) _) _
             simp only [Act.put, List.setIfInBounds_toArray, List.set_cons_zero, List.set_cons_succ]
             refine tks (i := 31) rfl (by rfl) (by assumption) ?_
             change wpAnyH _ _ _ _ _ _ _ (Act.put _ (some 184) _) _
             simp only [Act.put, List.setIfInBounds_toArray, List.set_cons_zero, List.set_cons_succ]
             refine tks (i := 32) rfl (by rfl) (by assumption) ?_
             change wpAnyH _ _ _ _ _ _ _ (Act.put _ (some 185) _) _
             simp only [Act.put, List.setIfInBounds_toArray, List.set_cons_zero, List.set_cons_succ]
             refine tks (i := 33) rfl (by rfl) (by assumption) ?_
             change wpAnyH _ _ _ _ _ _ _ (Act.put _ (some 186) _) _
             simp only [Act.put, List.setIfInBounds_toArray, List.set_cons_zero, List.set_cons_succ]
             refine tks (i := 34) rfl (by rfl) (by assumption) ?_
             change wpAnyH _ _ _ _ _ _ _ (Act.put _ (some 187) _) _
             simp only [Act.put, List.setIfInBounds_toArray, List.set_cons_zero, List.set_cons_succ]
             refine tks (i := 35) rfl (by rfl) (by assumption) ?_
             change wpAnyH _ _ _ _ _ _ _ (Act.put _ (some 188) _) _
             simp only [Act.put, List.setIfInBounds_toArray, List.set_cons_zero, List.set_cons_succ]
             refine tks (i := 36) rfl (by rfl) (by assumption) ?_
             change wpAnyH _ _ _ _ _ _ _ (Act.put _ (some 189) _) _
             simp only [Act.put, List.setIfInBounds_toArray, List.set_cons_zero, List.set_cons_succ]
             refine tks (i := 37) rfl (by rfl) (by assumption) ?_
             change wpAnyH _ _ _ _ _ _ _ (Act.put _ (some 190) _) _
             simp only [Act.put, List.setIfInBounds_toArray, List.set_cons_zero, List.set_cons_succ]
             refine tks (i := 38) rfl (by rfl) (by assumption) ?_
             change wpAnyH _ _ _ _ _ _ _ (Act.put _ (some 191) _) _
             simp only [Act.put, List.setIfInBounds_toArray, List.set_cons_zero, List.set_cons_succ]
             refine tks (i := 39) rfl (by rfl) (by assumption) ?_
             change wpAnyH _ _ _ _ _ _ _ (Act.put _ (some 192) _) _
             simp only [Act.put, List.setIfInBounds_toArray, List.set_cons_zero, List.set_cons_succ]
             refine tk (i := 40) (v := ?_) rfl (by rfl) ?_ (by assumption) ?_
             rotate_left
             ·
              intro w hSw
              go_simp
              with_reducible rfl
             change wpAnyH _ _ _ _ _ _ _ (Act.put _ (some 193) _) _
             simp only [Act.put, List.setIfInBounds_toArray, List.set_cons_zero, List.set_cons_succ]
             refine wpAnyH_done (by kernel_rfl) ?_ _
             go_wp2_with fail
             go_roundw
             case rel => exact ⟨i + 1, by omega, by go_num, HXd⟩
             case measure => simp [intOf]; omega
           ·
            have d0 : decide (0 ≤ dst) = false := by simpa using hg0
            go_upto_region 33 with fail
            refine wp_region_held_drew (S := (fun w' => Below m3 w3 w')) (by kernel_rfl) (HX3.out.drew) (fun hS => ?_)
            have HXd : Hid (Below m3 w3 wr.drew) := Lib.hid HX3.out.drew
            have HXz : Hid (Below z8 w8 wr.drew) := Lib.hid HX.out.drew
            clear HX3 HX
            generalize wr.drew = w0 at *
            refine tk (i := 0) (v := ?_) rfl (by rfl) ?_ (by assumption) ?_
            rotate_left
            ·
             intro w hSw
             go_simp
             with_reducible rfl
            change wpAnyH _ _ _ _ _ _ _ (Act.put _ (some 153) _) _
            simp only [Act.put, List.setIfInBounds_toArray, List.set_cons_zero, List.set_cons_succ]
            refine tk (i := 1) (v := ?_) rfl (by rfl) ?_ (by assumption) ?_
            rotate_left
            ·
             intro w hSw
             go_simp
             with_reducible rfl
            change wpAnyH _ _ _ _ _ _ _ (Act.put _ (some 154) _) _
            simp only [Act.put, List.setIfInBounds_toArray, List.set_cons_zero, List.set_cons_succ]
            refine tk (i := 2) (v := ?_) rfl (by rfl) ?_ (by assumption) ?_
            rotate_left
            ·
             intro w hSw
             go_simp
             with_reducible rfl
            change wpAnyH _ _ _ _ _ _ _ (Act.put _ (some 155) _) _
            simp only [Act.put, List.setIfInBounds_toArray, List.set_cons_zero, List.set_cons_succ]
            refine tk (i := 3) (v := ?_) rfl (by rfl) ?_ (by assumption) ?_
            rotate_left
            ·
             intro w hSw
             go_simp
             with_reducible rfl
            change wpAnyH _ _ _ _ _ _ _ (Act.put _ (some 156) _) _
            simp only [Act.put, List.setIfInBounds_toArray, List.set_cons_zero, List.set_cons_succ]
            refine tk (i := 4) (v := ?_) rfl (by rfl) ?_ (by assumption) ?_
            rotate_left
            ·
             intro w hSw
             obtain ⟨e0, e1, e2, e3, e4, e5, e6, e7, e8, e9⟩ := cells10 (HCI.out _ hSw)
             rw [h28] at e0
             rw [← HGT.out] at e4
             go_simp
             with_reducible rfl
            change wpAnyH _ _ _ _ _ _ _ (Act.put _ (some 157) _) _
            simp only [Act.put, List.setIfInBounds_toArray, List.set_cons_zero, List.set_cons_succ]
            refine tk (i := 5) (v := ?_) rfl (by rfl) ?_ (by assumption) ?_
            rotate_left
            ·
             intro w hSw
             go_simp
             with_reducible rfl
            change wpAnyH _ _ _ _ _ _ _ (Act.put _ (some 158) _) _
            simp only [Act.put, List.setIfInBounds_toArray, List.set_cons_zero, List.set_cons_succ]
            refine tk (i := 6) (v := ?_) rfl (by rfl) ?_ (by assumption) ?_
            rotate_left
            ·
             intro w hSw
             go_simp
             with_reducible rfl
            change wpAnyH _ _ _ _ _ _ _ (Act.put _ (some 159) _) _
            simp only [Act.put, List.setIfInBounds_toArray, List.set_cons_zero, List.set_cons_succ]
            refine tk (i := 7) (v := ?_) rfl (by rfl) ?_ (by assumption) ?_
            rotate_left
            ·
             intro w hSw
             go_simp
             with_reducible rfl
            change wpAnyH _ _ _ _ _ _ _ (Act.put _ (some 160) _) _
            simp only [Act.put, List.setIfInBounds_toArray, List.set_cons_zero, List.set_cons_succ]
            refine tk (i := 8) (v := ?_) rfl (by rfl) ?_ (by assumption) ?_
            rotate_left
            ·
             intro w hSw
             go_simp
             with_reducible rfl
            change wpAnyH _ _ _ _ _ _ _ (Act.put _ (some 161) _) _
            simp only [Act.put, List.setIfInBounds_toArray, List.set_cons_zero, List.set_cons_succ]
            refine tk (i := 9) (v := ?_) rfl (by rfl) ?_ (by assumption) ?_
            rotate_left
            ·
             intro w hSw
             go_simp
             with_reducible rfl
            change wpAnyH _ _ _ _ _ _ _ (Act.put _ (some 162) _) _
            simp only [Act.put, List.setIfInBounds_toArray, List.set_cons_zero, List.set_cons_succ]
            refine tk (i := 10) (v := ?_) rfl (by rfl) ?_ (by assumption) ?_
            rotate_left
            ·
             intro w hSw
             go_simp
             with_reducible rfl
            change wpAnyH _ _ _ _ _ _ _ (Act.put _ (some 163) _) _
            simp only [Act.put, List.setIfInBounds_toArray, List.set_cons_zero, List.set_cons_succ]
            refine tk (i := 11) (v := ?_) rfl (by rfl) ?_ (by assumption) ?_
            rotate_left
            ·
             intro w hSw
             obtain ⟨e0, e1, e2, e3, e4, e5, e6, e7, e8, e9⟩ := cells10 (HCI.out _ hSw)
             rw [h28] at e0
             rw [← HGT.out] at e4
             go_simp
             with_reducible rfl
            change wpAnyH _ _ _ _ _ _ _ (Act.put _ (some 164) _) _
            simp only [Act.put, List.setIfInBounds_toArray, List.set_cons_zero, List.set_cons_succ]
            refine tk (i := 12) (v := ?_) rfl (by rfl) ?_ (by assumption) ?_
            rotate_left
            ·
             intro w hSw
             go_simp
             with_reducible rfl
            change wpAnyH _ _ _ _ _ _ _ (Act.put _ (some 165) _) _
            simp only [Act.put, List.setIfInBounds_toArray, List.set_cons_zero, List.set_cons_succ]
            refine tk (i := 13) (v := ?_) rfl (by rfl) ?_ (by assumption) ?_
            rotate_left
            ·
             intro w hSw
             go_simp
             with_reducible rfl
            change wpAnyH _ _ _ _ _ _ _ (Act.put _ (some 166) _) _
            simp only [Act.put, List.setIfInBounds_toArray, List.set_cons_zero, List.set_cons_succ]
            refine tk (i := 14) (v := ?_) rfl (by rfl) ?_ (by assumption) ?_
            rotate_left
            ·
             intro w hSw
             go_simp
             with_reducible rfl
            change wpAnyH _ _ _ _ _ _ _ (Act.put _ (some 167) _) _
            simp only [Act.put, List.setIfInBounds_toArray, List.set_cons_zero, List.set_cons_succ]
            refine tks (i := 15) rfl (by rfl) (by assumption) ?_
            change wpAnyH _ _ _ _ _ _ _ (Act.put _ (some 168) _) _
            simp only [Act.put, List.setIfInBounds_toArray, List.set_cons_zero, List.set_cons_succ]
            refine tks (i := 16) rfl (by rfl) (by assumption) ?_
            change wpAnyH _ _ _ _ _ _ _ (Act.put _ (some 169) _) _
            simp only [Act.put, List.setIfInBounds_toArray, List.set_cons_zero, List.set_cons_succ]
            refine tks (i := 17) rfl (by rfl) (by assumption) ?_
            change wpAnyH _ _ _ _ _ _ _ (Act.put _ (some 170) _) _
            simp only [Act.put, List.setIfInBounds_toArray, List.set_cons_zero, List.set_cons_succ]
            refine tks (i := 18) rfl (by rfl) (by assumption) ?_
            change wpAnyH _ _ _ _ _ _ _ (Act.put _ (some 171) _) _
            simp only [Act.put, List.setIfInBounds_toArray, List.set_cons_zero, List.set_cons_succ]
            refine tks (i := 19) rfl (by rfl) (by assumption) ?_
            change wpAnyH _ _ _ _ _ _ _ (Act.put _ (some 172) _) _
            simp only [Act.put, List.setIfInBounds_toArray, List.set_cons_zero, List.set_cons_succ]
            refine tks (i := 20) rfl (by rfl) (by assumption) ?_
            change wpAnyH _ _ _ _ _ _ _ (Act.put _ (some 173) _) _
            simp only [Act.put, List.setIfInBounds_toArray, List.set_cons_zero, List.set_cons_succ]
            refine tks (i := 21) rfl (by rfl) (by assumption) ?_
            change wpAnyH _ _ _ _ _ _ _ (Act.put _ (some 174) _) _
            simp only [Act.put, List.setIfInBounds_toArray, List.set_cons_zero, List.set_cons_succ]
            refine tks (i := 22) rfl (by rfl) (by assumption) ?_
            change wpAnyH _ _ _ _ _ _ _ (Act.put _ (some 175) _) _
            simp only [Act.put, List.setIfInBounds_toArray, List.set_cons_zero, List.set_cons_succ]
            refine tk (i := 23) (v := ?_) rfl (by rfl) ?_ (by assumption) ?_
            rotate_left
            ·
             intro w hSw
             go_simp
             with_reducible rfl
            change wpAnyH _ _ _ _ _ _ _ (Act.put _ (some 176) _) _
            simp only [Act.put, List.setIfInBounds_toArray, List.set_cons_zero, List.set_cons_succ]
            refine tk (i := 24) (v := ?_) rfl (by rfl) ?_ (by assumption) ?_
            rotate_left
            ·
             intro w hSw
             go_simp
             with_reducible rfl
            change wpAnyH _ _ _ _ _ _ _ (Act.put _ (some 177) _) _
            simp only [Act.put, List.setIfInBounds_toArray, List.set_cons_zero, List.set_cons_succ]
            refine tks (i := 25) rfl (by rfl) (by assumption) ?_
            change wpAnyH _ _ _ _ _ _ _ (Act.put _ (some 178) _) _
            simp only [Act.put, List.setIfInBounds_toArray, List.set_cons_zero, List.set_cons_succ]
            refine tks (i := 26) rfl (by rfl) (by assumption) ?_
            change wpAnyH _ _ _ _ _ _ _ (Act.put _ (some 179) _) _
            simp only [Act.put, List.setIfInBounds_toArray, List.set_cons_zero, List.set_cons_succ]
            refine tks (i := 27) rfl (by rfl) (by assumption) ?_
            change wpAnyH _ _ _ _ _ _ _ (Act.put _ (some 180) _) _
            simp only [Act.put, List.setIfInBounds_toArray, List.set_cons_zero, List.set_cons_succ]
            refine tks (i := 28) rfl (by rfl) (by assumption) ?_
            change wpAnyH _ _ _ _ _ _ _ (Act.put _ (some 181) _) _
            simp only [Act.put, List.setIfInBounds_toArray, List.set_cons_zero, List.set_cons_succ]
            refine tks (i := 29) rfl (by rfl) (by assumption) ?_
            change wpAnyH _ _ _ _ _ _ _ (Act.put _ (some 182) _) _
            simp only [Act.put, List.setIfInBounds_toArray, List.set_cons_zero, List.set_cons_succ]
            refine tks (i := 30) rfl (by rfl) (by assumption) ?_
            change wpAnyH _ _ _ _ _ _ _ (Act.put _ (some 183) _) _
            simp only [Act.put, List.setIfInBounds_toArray, List.set_cons_zero, List.set_cons_succ]
            refine tks (i := 31) rfl (by rfl) (by assumption) ?_
            change wpAnyH _ _ _ _ _ _ _ (Act.put _ (some 184) _) _
            simp only [Act.put, List.setIfInBounds_toArray, List.set_cons_zero, List.set_cons_succ]
            refine tks (i := 32) rfl (by rfl) (by assumption) ?_
            change wpAnyH _ _ _ _ _ _ _ (Act.put _ (some 185) _) _
            simp only [Act.put, List.setIfInBounds_toArray, List.set_cons_zero, List.set_cons_succ]
            refine tks (i := 33) rfl (by rfl) (by assumption) ?_
            change wpAnyH _ _ _ _ _ _ _ (Act.put _ (some 186) _) _
            simp only [Act.put, List.setIfInBounds_toArray, List.set_cons_zero, List.set_cons_succ]
            refine tks (i := 34) rfl (by rfl) (by assumption) ?_
            change wpAnyH _ _ _ _ _ _ _ (Act.put _ (some 187) _) _
            simp only [Act.put, List.setIfInBounds_toArray, List.set_cons_zero, List.set_cons_succ]
            refine tks (i := 35) rfl (by rfl) (by assumption) ?_
            change wpAnyH _ _ _ _ _ _ _ (Act.put _ (some 188) _) _
            simp only [Act.put, List.setIfInBounds_toArray, List.set_cons_zero, List.set_cons_succ]
            refine tks (i := 36) rfl (by rfl) (by assumption) ?_
            change wpAnyH _ _ _ _ _ _ _ (Act.put _ (some 189) _) _
            simp only [Act.put, List.setIfInBounds_toArray, List.set_cons_zero, List.set_cons_succ]
            refine tks (i := 37) rfl (by rfl) (by assumption) ?_
            change wpAnyH _ _ _ _ _ _ _ (Act.put _ (some 190) _) _
            simp only [Act.put, List.setIfInBounds_toArray, List.set_cons_zero, List.set_cons_succ]
            refine tks (i := 38) rfl (by rfl) (by assumption) ?_
            change wpAnyH _ _ _ _ _ _ _ (Act.put _ (some 191) _) _
            simp only [Act.put, List.setIfInBounds_toArray, List.set_cons_zero, List.set_cons_succ]
            refine tks (i := 39) rfl (by rfl) (by assumption) ?_
            change wpAnyH _ _ _ _ _ _ _ (Act.put _ (some 192) _) _
            simp only [Act.put, List.setIfInBounds_toArray, List.set_cons_zero, List.set_cons_succ]
            refine tk (i := 40) (v := ?_) rfl (by rfl) ?_ (by assumption) ?_
            rotate_left
            ·
             intro w hSw
             go_simp
             with_reducible rfl
            change wpAnyH _ _ _ _ _ _ _ (Act.put _ (some 193) _) _
            simp only [Act.put, List.setIfInBounds_toArray, List.set_cons_zero, List.set_cons_succ]
            refine wpAnyH_done (by kernel_rfl) ?_ _
            go_wp2_with fail
            go_roundw
            case rel => exact ⟨i + 1, by omega, by go_num, HXd⟩
            case measure => simp [intOf]; omega
      ·
       rw [if_neg h28] at haf
       have d28 := i64_beq f.x.op 28 h28
       by_cases h29 : f.x.op = 29
       ·
        rw [if_pos h29] at haf
        split at haf
        ·
         cases haf
        ·
         rename_i hne
         have hoL : oL = (r i).dropLast := (Option.some.inj haf).symm
         obtain ⟨N, hN⟩ : ∃ N, n0 = N + 1 := by
          cases n0 with
          | zero => exact absurd (List.eq_nil_of_length_eq_zero HN0.out.symm) hne
          | succ N => exact ⟨N, rfl⟩
         subst hN
         have HLN : Hid (oL.length = N) := Lib.hid (by rw [hoL, List.length_dropLast, ← HN0.out]; rfl)
         have HPR : Hid (∀ q, q < N → q < N + 1 → oL.getD q 0 = (r i).getD q 0) := Lib.hid (fun q hq _ => by
          rw [hoL, List.getD_eq_getElem?_getD, List.getD_eq_getElem?_getD, List.getElem?_dropLast, if_pos (by have := HN0.out; omega)])
         rw [h29] at e0
         clear haf haf2 hoL hne
         as_aux_lemma =>
          have hnb : (N + 1) ≤ 2000000000000 := by have := HNL.out; omega
          have hw1 : wrap64 ((N : Int) + 1 - 1) = (N : Int) := by unfold wrap64; omega
          go_wp2_with fail
          refine CN.out.mono ?_
          rintro e w8 ⟨b8, v8, rfl, s8⟩
          obtain ⟨s8a, c8a, rfl⟩ := sl_form2 s8
          obtain ⟨nn, hnn⟩ : ∃ q, q = (nextF l i).length := ⟨_, rfl⟩
          have hnnb : nn ≤ 9223372036854775807 := by rw [hnn]; exact (s8.at in_len).len.1
          rw [← hnn] at s8 ⊢
          have HNN := Lib.hid hnn
          have HW8 := Lib.hid (HW.out.trans (b8.mono (by have := HW.out.size; have := HM3.out; omega)))
          have S8 := Lib.hid s8
          obtain ⟨z8, hz8⟩ : ∃ q, q = w8.heap.size := ⟨_, rfl⟩
          have HZ8 := Lib.hid hz8
          have BB8 := Lib.hid (Below.refl z8 w8)
          clear b8 s8 hnn CN HW hz8 ck1 cti e0 e1 e2 e3 e4 e5 e6 e7 e8 e9
          go_wp2_with fail
          go_loopw [11] (fun z W => ∃ (k : Nat), k ≤ nn ∧ z = .int .i64 (k : Int) ∧ Hid (Below z8 w8 W)) (fun z _ => nn - (intOf z).toNat)
          case atStart => exact ⟨0, Nat.zero_le _, rfl, BB8⟩
          case round =>
           obtain ⟨k, hk, rfl, HX⟩ := hrel
           clear BB8
           have HX3 : Hid (Below m3 w3 wr) := Lib.hid (HW8.out.trans (HX.out.mono (by have := HW8.out.size; have := HZ8.out; have := HM3.out; omega)))
           by_cases hkn : k < nn
           ·
            as_aux_lemma =>
             have hkni : (k : Int) < (nn : Int) := by omega
             obtain ⟨g8, rfl⟩ : ∃ g, s8a = some ⟨g, 0, none⟩ := by
              rcases S8.out.form with ⟨e, _⟩ | ⟨g, cap, e, _⟩
              ·
               simp only [Value.slice.injEq] at e
               omega
              ·
               simp only [Value.slice.injEq] at e
               exact ⟨g, e.1⟩
             have hkl : k < (nextF l i).length := by rw [← HNN.out]; exact hkn
             have S8W := S8.out.below HX.out (fun g hg => by rw [HZ8.out]; exact (S8.out.lt g hg).2)
             have ck := S8W.cell in_len k 0 hkl (by omega)
             obtain ⟨x, hx⟩ : ∃ x, x = (nextF l i)[k] := ⟨_, rfl⟩
             rw [← hx] at ck
             simp only [inC, List.getElem?_cons_zero, Nat.add_zero, Nat.mul_one] at ck
             obtain ⟨j, rfl, hjn, hjt⟩ := HMN.out x (by rw [hx]; exact List.getElem_mem _)
             have hjni : (j : Int) < (n : Int) := by omega
             obtain ⟨sj, cj, hentj⟩ := HEJ.out j hjn
             rw [HOJ.out j hjn hjt, HLN.out] at hentj

             have HENJ := Lib.hid hentj
             have ctj := (hentj wr HX3.out).1
             have hd0 : decide ((N : Int) < 0) = false := decide_eq_false (by omega)
             clear hx S8W hjt hentj
             go_upto_region 26 with fail
             refine wp_region_held_drew (S := (fun w' => Below m3 w3 w')) (by kernel_rfl) (HX3.out.drew) (fun hS => ?_)
             have HXd : Hid (Below m3 w3 wr.drew) := Lib.hid HX3.out.drew
             have HXz : Hid (Below z8 w8 wr.drew) := Lib.hid HX.out.drew
             clear HX3 HX
             generalize wr.drew = w0 at *
             refine tk (i := 0) (v := ?_) rfl (by rfl) ?_ (by assumption) ?_
             rotate_left
             ·
              intro w hSw
              go_simp
              with_reducible rfl
             change wpAnyH _ _ _ _ _ _ _ (Act.put _ (some 98) _) _
             simp only [Act.put, List.setIfInBounds_toArray, List.set_cons_zero, List.set_cons_succ]
             refine tk (i := 1) (v := ?_) rfl (by rfl) ?_ (by assumption) ?_
             rotate_left
             ·
              intro w hSw
              go_simp
              with_reducible rfl
             change wpAnyH _ _ _ _ _ _ _ (Act.put _ (some 99) _) _
             simp only [Act.put, List.setIfInBounds_toArray, List.set_cons_zero, List.set_cons_succ]
             refine tk (i := 2) (v := ?_) rfl (by rfl) ?_ (by assumption) ?_
             rotate_left
             ·
              intro w hSw
              go_simp
              with_reducible rfl
             change wpAnyH _ _ _ _ _ _ _ (Act.put _ (some 100) _) _
             simp only [Act.put, List.setIfInBounds_toArray, List.set_cons_zero, List.set_cons_succ]
             refine tk (i := 3) (v := ?_) rfl (by rfl) ?_ (by assumption) ?_
             rotate_left
             ·
              intro w hSw
              go_simp
              with_reducible rfl
             change wpAnyH _ _ _ _ _ _ _ (Act.put _ (some 101) _) _
             simp only [Act.put, List.setIfInBounds_toArray, List.set_cons_zero, List.set_cons_succ]
             refine tk (i := 4) (v := ?_) rfl (by rfl) ?_ (by assumption) ?_
             rotate_left
             ·
              intro w hSw
              go_simp
              with_reducible rfl
             change wpAnyH _ _ _ _ _ _ _ (Act.put _ (some 102) _) _
             simp only [Act.put, List.setIfInBounds_toArray, List.set_cons_zero, List.set_cons_succ]
             refine tk (i := 5) (v := ?_) rfl (by rfl) ?_ (by assumption) ?_
             rotate_left
             ·
              intro w hSw
              go_simp
              with_reducible rfl
             change wpAnyH _ _ _ _ _ _ _ (Act.put _ (some 103) _) _
             simp only [Act.put, List.setIfInBounds_toArray, List.set_cons_zero, List.set_cons_succ]
             refine tk (i := 6) (v := ?_) rfl (by rfl) ?_ (by assumption) ?_
             rotate_left
             ·
              intro w hSw
              go_simp
              with_reducible rfl
             change wpAnyH _ _ _ _ _ _ _ (Act.put _ (some 104) _) _
             simp only [Act.put, List.setIfInBounds_toArray, List.set_cons_zero, List.set_cons_succ]
             refine tk (i := 7) (v := ?_) rfl (by rfl) ?_ (by assumption) ?_
             rotate_left
             ·
              intro w hSw
              go_simp
              with_reducible rfl
             change wpAnyH _ _ _ _ _ _ _ (Act.put _ (some 105) _) _
             simp only [Act.put, List.setIfInBounds_toArray, List.set_cons_zero, List.set_cons_succ]
             refine tk (i := 8) (v := ?_) rfl (by rfl) ?_ (by assumption) ?_
             rotate_left
             ·
              intro w hSw
              go_simp
              with_reducible rfl
             change wpAnyH _ _ _ _ _ _ _ (Act.put _ (some 106) _) _
             simp only [Act.put, List.setIfInBounds_toArray, List.set_cons_zero, List.set_cons_succ]
             refine tk (i := 9) (v := ?_) rfl (by rfl) ?_ (by assumption) ?_
             rotate_left
             ·
              intro w hSw
              go_simp
              with_reducible rfl
             change wpAnyH _ _ _ _ _ _ _ (Act.put _ (some 107) _) _
             simp only [Act.put, List.setIfInBounds_toArray, List.set_cons_zero, List.set_cons_succ]
             refine tk (i := 10) (v := ?_) rfl (by rfl) ?_ (by assumption) ?_
             rotate_left
             ·
              intro w hSw
              go_simp
              with_reducible rfl
             change wpAnyH _ _ _ _ _ _ _ (Act.put _ (some 108) _) _
             simp only [Act.put, List.setIfInBounds_toArray, List.set_cons_zero, List.set_cons_succ]
             refine tk (i := 11) (v := ?_) rfl (by rfl) ?_ (by assumption) ?_
             rotate_left
             ·
              intro w hSw
              go_simp
              with_reducible rfl
             change wpAnyH _ _ _ _ _ _ _ (Act.put _ (some 109) _) _
             simp only [Act.put, List.setIfInBounds_toArray, List.set_cons_zero, List.set_cons_succ]
             refine tk (i := 12) (v := ?_) rfl (by rfl) ?_ (by assumption) ?_
             rotate_left
             ·
              intro w hSw
              go_simp
              with_reducible rfl
             change wpAnyH _ _ _ _ _ _ _ (Act.put _ (some 110) _) _
             simp only [Act.put, List.setIfInBounds_toArray, List.set_cons_zero, List.set_cons_succ]
             refine tk (i := 13) (v := ?_) rfl (by rfl) ?_ (by assumption) ?_
             rotate_left
             ·
              intro w hSw
              obtain ⟨e0, e1, e2, e3, e4, e5, e6, e7, e8, e9⟩ := cells10 (HCI.out _ hSw)
              rw [h29] at e0
              go_simp
              with_reducible rfl
             change wpAnyH _ _ _ _ _ _ _ (Act.put _ (some 111) _) _
             simp only [Act.put, List.setIfInBounds_toArray, List.set_cons_zero, List.set_cons_succ]
             refine tk (i := 14) (v := ?_) rfl (by rfl) ?_ (by assumption) ?_
             rotate_left
             ·
              intro w hSw
              go_simp
              with_reducible rfl
             change wpAnyH _ _ _ _ _ _ _ (Act.put _ (some 112) _) _
             simp only [Act.put, List.setIfInBounds_toArray, List.set_cons_zero, List.set_cons_succ]
             refine tk (i := 15) (v := ?_) rfl (by rfl) ?_ (by assumption) ?_
             rotate_left
             ·
              intro w hSw
              go_simp
              with_reducible rfl
             change wpAnyH _ _ _ _ _ _ _ (Act.put _ (some 113) _) _
             simp only [Act.put, List.setIfInBounds_toArray, List.set_cons_zero, List.set_cons_succ]
             refine tks (i := 16) rfl (by rfl) (by assumption) ?_
             change wpAnyH _ _ _ _ _ _ _ (Act.put _ (some 114) _) _
             simp only [Act.put, List.setIfInBounds_toArray, List.set_cons_zero, List.set_cons_succ]
             refine tks (i := 17) rfl (by rfl) (by assumption) ?_
             change wpAnyH _ _ _ _ _ _ _ (Act.put _ (some 115) _) _
             simp only [Act.put, List.setIfInBounds_toArray, List.set_cons_zero, List.set_cons_succ]
             refine tks (i := 18) rfl (by rfl) (by assumption) ?_
             change wpAnyH _ _ _ _ _ _ _ (Act.put _ (some 116) _) _
             simp only [Act.put, List.setIfInBounds_toArray, List.set_cons_zero, List.set_cons_succ]
             refine tks (i := 19) rfl (by rfl) (by assumption) ?_
             change wpAnyH _ _ _ _ _ _ _ (Act.put _ (some 117) _) _
             simp only [Act.put, List.setIfInBounds_toArray, List.set_cons_zero, List.set_cons_succ]
             refine tks (i := 20) rfl (by rfl) (by assumption) ?_
             change wpAnyH _ _ _ _ _ _ _ (Act.put _ (some 118) _) _
             simp only [Act.put, List.setIfInBounds_toArray, List.set_cons_zero, List.set_cons_succ]
             refine tks (i := 21) rfl (by rfl) (by assumption) ?_
             change wpAnyH _ _ _ _ _ _ _ (Act.put _ (some 119) _) _
             simp only [Act.put, List.setIfInBounds_toArray, List.set_cons_zero, List.set_cons_succ]
             refine tks (i := 22) rfl (by rfl) (by assumption) ?_
             change wpAnyH _ _ _ _ _ _ _ (Act.put _ (some 120) _) _
             simp only [Act.put, List.setIfInBounds_toArray, List.set_cons_zero, List.set_cons_succ]
             refine tks (i := 23) rfl (by rfl) (by assumption) ?_
             change wpAnyH _ _ _ _ _ _ _ (Act.put _ (some 121) _) _
             simp only [Act.put, List.setIfInBounds_toArray, List.set_cons_zero, List.set_cons_succ]
             refine tks (i := 24) rfl (by rfl) (by assumption) ?_
             change wpAnyH _ _ _ _ _ _ _ (Act.put _ (some 122) _) _
             simp only [Act.put, List.setIfInBounds_toArray, List.set_cons_zero, List.set_cons_succ]
             refine tks (i := 25) rfl (by rfl) (by assumption) ?_
             change wpAnyH _ _ _ _ _ _ _ (Act.put _ (some 123) _) _
             simp only [Act.put, List.setIfInBounds_toArray, List.set_cons_zero, List.set_cons_succ]
             refine tks (i := 26) rfl (by rfl) (by assumption) ?_
             change wpAnyH _ _ _ _ _ _ _ (Act.put _ (some 124) _) _
             simp only [Act.put, List.setIfInBounds_toArray, List.set_cons_zero, List.set_cons_succ]
             refine tk (i := 27) (v := ?_) rfl (by rfl) ?_ (by assumption) ?_
             rotate_left
             ·
              intro w hSw
              go_simp
              with_reducible rfl
             change wpAnyH _ _ _ _ _ _ _ (Act.put _ (some 125) _) _
             simp only [Act.put, List.setIfInBounds_toArray, List.set_cons_zero, List.set_cons_succ]
             refine tk (i := 28) (v := ?_) rfl (by rfl) ?_ (by assumption) ?_
             rotate_left
             ·
              intro w hSw
              go_simp
              with_reducible rfl
             change wpAnyH _ _ _ _ _ _ _ (Act.put _ (some 126) _) _
             simp only [Act.put, List.setIfInBounds_toArray, List.set_cons_zero, List.set_cons_succ]
             refine wpAnyH_done (by kernel_rfl) ?_ _
             clear ck ctj hS
             go_wp2_with fail
             go_loopw [13] (fun z W => ∃ (q : Nat), q ≤ N ∧ z = .int .i64 (q : Int) ∧ Hid (Below z8 w8 W)) (fun z _ => N - (intOf z).toNat)
             case atStart => exact ⟨0, Nat.zero_le _, rfl, HXz⟩
             case round =>
              obtain ⟨q, hq, rfl, HY⟩ := hrel
              clear HXz HXd
              have HY3 : Hid (Below m3 w3 wr) := Lib.hid (HW8.out.trans (HY.out.mono (by have := HW8.out.size; have := HZ8.out; have := HM3.out; omega)))
              have cti := (HEI.out wr HY3.out).1
              by_cases hqX : q < N
              ·
               have hqXi : (q : Int) < (N : Int) := by omega
               by_cases hqn : q < (N + 1)
               ·
                have hqni : (q : Int) < ((N : Int) + 1) := by omega
                obtain ⟨gi, pi, hsi, cq⟩ := slat_at (HEI.out wr HY3.out).2 HN0.out hqn
                subst hsi
                obtain ⟨gj2, pj2, hsj2, cq2⟩ := slat_at (HENJ.out wr HY3.out).2 HLN.out.symm hqX
                subst hsj2
                obtain ⟨x, hx⟩ : ∃ x, x = (r i).getD q 0 := ⟨_, rfl⟩
                have HXV : Hid ((r i).getD q 0 = x) := Lib.hid hx.symm
                have HX := Lib.hid HY.out
                have HX3 := Lib.hid HY3.out
                clear hx HY HY3
                go_upto_region 31 with fail
                refine wp_region_held_drew (S := (fun w' => Below m3 w3 w')) (by kernel_rfl) (HX3.out.drew) (fun hS => ?_)
                have HXd : Hid (Below m3 w3 wr.drew) := Lib.hid HX3.out.drew
                have HXz : Hid (Below z8 w8 wr.drew) := Lib.hid HX.out.drew
                clear HX3 HX
                generalize wr.drew = w0 at *
                refine tk (i := 0) (v := ?_) rfl (by rfl) ?_ (by assumption) ?_
                rotate_left
                ·
                 intro w hSw
                 go_simp
                 with_reducible rfl
                change wpAnyH _ _ _ _ _ _ _ (Act.put _ (some 141) _) _
                simp only [Act.put, List.setIfInBounds_toArray, List.set_cons_zero, List.set_cons_succ]
                refine tk (i := 1) (v := ?_) rfl (by rfl) ?_ (by assumption) ?_
                rotate_left
                ·
                 intro w hSw
                 go_simp
                 with_reducible rfl
                change wpAnyH _ _ _ _ _ _ _ (Act.put _ (some 142) _) _
                simp only [Act.put, List.setIfInBounds_toArray, List.set_cons_zero, List.set_cons_succ]
                refine tk (i := 2) (v := ?_) rfl (by rfl) ?_ (by assumption) ?_
                rotate_left
                ·
                 intro w hSw
                 go_simp
                 with_reducible rfl
                change wpAnyH _ _ _ _ _ _ _ (Act.put _ (some 143) _) _
                simp only [Act.put, List.setIfInBounds_toArray, List.set_cons_zero, List.set_cons_succ]
                refine tk (i := 3) (v := ?_) rfl (by rfl) ?_ (by assumption) ?_
                rotate_left
                ·
                 intro w hSw
                 obtain ⟨g3, p3, hq, cl⟩ := slat_at (HENJ.out _ hSw).2 HLN.out.symm hqX
                 simp only [Option.some.injEq, Addr.mk.injEq, and_true] at hq
                 obtain ⟨rfl, rfl⟩ := hq
                 rw [HPR.out q hqX hqn, HXV.out] at cl
                 go_simp
                 with_reducible rfl
                change wpAnyH _ _ _ _ _ _ _ (Act.put _ (some 144) _) _
                simp only [Act.put, List.setIfInBounds_toArray, List.set_cons_zero, List.set_cons_succ]
                refine tk (i := 4) (v := ?_) rfl (by rfl) ?_ (by assumption) ?_
                rotate_left
                ·
                 intro w hSw
                 go_simp
                 with_reducible rfl
                change wpAnyH _ _ _ _ _ _ _ (Act.put _ (some 145) _) _
                simp only [Act.put, List.setIfInBounds_toArray, List.set_cons_zero, List.set_cons_succ]
                refine tk (i := 5) (v := ?_) rfl (by rfl) ?_ (by assumption) ?_
                rotate_left
                ·
                 intro w hSw
                 go_simp
                 with_reducible rfl
                change wpAnyH _ _ _ _ _ _ _ (Act.put _ (some 146) _) _
                simp only [Act.put, List.setIfInBounds_toArray, List.set_cons_zero, List.set_cons_succ]
                refine tk (i := 6) (v := ?_) rfl (by rfl) ?_ (by assumption) ?_
                rotate_left
                ·
                 intro w hSw
                 go_simp
                 with_reducible rfl
                change wpAnyH _ _ _ _ _ _ _ (Act.put _ (some 147) _) _
                simp only [Act.put, List.setIfInBounds_toArray, List.set_cons_zero, List.set_cons_succ]
                refine tk (i := 7) (v := ?_) rfl (by rfl) ?_ (by assumption) ?_
                rotate_left
                ·
                 intro w hSw
                 have cl := (HEI.out _ hSw).1
                 go_simp
                 with_reducible rfl
                change wpAnyH _ _ _ _ _ _ _ (Act.put _ (some 148) _) _
                simp only [Act.put, List.setIfInBounds_toArray, List.set_cons_zero, List.set_cons_succ]
                refine tk (i := 8) (v := ?_) rfl (by rfl) ?_ (by assumption) ?_
                rotate_left
                ·
                 intro w hSw
                 go_simp
                 with_reducible rfl
                change wpAnyH _ _ _ _ _ _ _ (Act.put _ (some 149) _) _
                simp only [Act.put, List.setIfInBounds_toArray, List.set_cons_zero, List.set_cons_succ]
                refine tk (i := 9) (v := ?_) rfl (by rfl) ?_ (by assumption) ?_
                rotate_left
                ·
                 intro w hSw
                 go_simp
                 with_reducible rfl
                change wpAnyH _ _ _ _ _ _ _ (Act.put _ (some 150) _) _
                simp only [Act.put, List.setIfInBounds_toArray, List.set_cons_zero, List.set_cons_succ]
                refine tk (i := 10) (v := ?_) rfl (by rfl) ?_ (by assumption) ?_
                rotate_left
                ·
                 intro w hSw
                 obtain ⟨g3, p3, hq, cl⟩ := slat_at (HEI.out _ hSw).2 HN0.out hqn
                 simp only [Option.some.injEq, Addr.mk.injEq, and_true] at hq
                 obtain ⟨rfl, rfl⟩ := hq
                 rw [HXV.out] at cl
                 go_simp
                 with_reducible rfl
                change wpAnyH _ _ _ _ _ _ _ (Act.put _ (some 151) _) _
                simp only [Act.put, List.setIfInBounds_toArray, List.set_cons_zero, List.set_cons_succ]
                refine tk (i := 11) (v := ?_) rfl (by rfl) ?_ (by assumption) ?_
                rotate_left
                ·
                 intro w hSw
                 go_simp
                 with_reducible rfl
                change wpAnyH _ _ _ _ _ _ _ (Act.put _ (some 152) _) _
                simp only [Act.put, List.setIfInBounds_toArray, List.set_cons_zero, List.set_cons_succ]
                refine wpAnyH_done (by kernel_rfl) ?_ _
                clear cq cq2 cti hS
                go_wp2_with fail
                go_roundw
                case rel => exact ⟨q + 1, by omega, by go_num, HXz⟩
                case measure => simp [intOf]; omega
               ·
                exact absurd hqX (by omega)
              ·
               have hqXi : ¬ (q : Int) < (N : Int) := by omega
               clear hqX
               go_wp2_with fail
               go_roundw
               case rel => exact ⟨k + 1, by omega, by go_num, HY⟩
               case measure => simp [intOf]; omega
           ·
            as_aux_lemma =>
             have hkni : ¬ (k : Int) < (nn : Int) := by omega
             clear hkn
             have cti := (HEI.out wr HX3.out).1
             obtain ⟨e0, e1, e2, e3, e4, e5, e6, e7, e8, e9⟩ := cells10 (HCI.out wr HX3.out)
             rw [h29] at e0
             go_upto_region 33 with fail
             refine wp_region_held_drew (S := (fun w' => Below m3 w3 w')) (by kernel_rfl) (HX3.out.drew) (fun hS => ?_)
             have HXd : Hid (Below m3 w3 wr.drew) := Lib.hid HX3.out.drew
             have HXz : Hid (Below z8 w8 wr.drew) := Lib.hid HX.out.drew
             clear HX3 HX
             generalize wr.drew = w0 at *
             refine tk (i := 0) (v := ?_) rfl (by rfl) ?_ (by assumption) ?_
             rotate_left
             ·
              intro w hSw
              go_simp
              with_reducible rfl
             change wpAnyH _ _ _ _ _ _ _ (Act.put _ (some 153) _) _
             simp only [Act.put, List.setIfInBounds_toArray, List.set_cons_zero, List.set_cons_succ]
             refine tk (i := 1) (v := ?_) rfl (by rfl) ?_ (by assumption) ?_
             rotate_left
             ·
              intro w hSw
              go_simp
              with_reducible rfl
             change wpAnyH _ _ _ _ _ _ _ (Act.put _ (some 154) _) _
             simp only [Act.put, List.setIfInBounds_toArray, List.set_cons_zero, List.set_cons_succ]
             refine tk (i := 2) (v := ?_) rfl (by rfl) ?_ (by assumption) ?_
             rotate_left
             ·
              intro w hSw
              go_simp
              with_reducible rfl
             change wpAnyH _ _ _ _ _ _ _ (Act.put _ (some 155) _) _
             simp only [Act.put, List.setIfInBounds_toArray, List.set_cons_zero, List.set_cons_succ]
             refine tk (i := 3) (v := ?_) rfl (by rfl) ?_ (by assumption) ?_
             rotate_left
             ·
              intro w hSw
              go_simp
              with_reducible rfl
             change wpAnyH _ _ _ _ _ _ _ (Act.put _ (some 156) _) _
             simp only [Act.put, List.setIfInBounds_toArray, List.set_cons_zero, List.set_cons_succ]
             refine tk (i := 4) (v := ?_) rfl (by rfl) ?_ (by assumption) ?_
             rotate_left
             ·
              intro w hSw
              obtain ⟨e0, e1, e2, e3, e4, e5, e6, e7, e8, e9⟩ := cells10 (HCI.out _ hSw)
              rw [h29] at e0
              go_simp
              with_reducible rfl
             change wpAnyH _ _ _ _ _ _ _ (Act.put _ (some 157) _) _
             simp only [Act.put, List.setIfInBounds_toArray, List.set_cons_zero, List.set_cons_succ]
             refine tk (i := 5) (v := ?_) rfl (by rfl) ?_ (by assumption) ?_
             rotate_left
             ·
              intro w hSw
              go_simp
              with_reducible rfl
             change wpAnyH _ _ _ _ _ _ _ (Act.put _ (some 158) _) _
             simp only [Act.put, List.setIfInBounds_toArray, List.set_cons_zero, List.set_cons_succ]
             refine tk (i := 6) (v := ?_) rfl (by rfl) ?_ (by assumption) ?_
             rotate_left
             ·
              intro w hSw
              go_simp
              with_reducible rfl
             change wpAnyH _ _ _ _ _ _ _ (Act.put _ (some 159) _) _
             simp only [Act.put, List.setIfInBounds_toArray, List.set_cons_zero, List.set_cons_succ]
             refine tks (i := 7) rfl (by rfl) (by assumption) ?_
             change wpAnyH _ _ _ _ _ _ _ (Act.put _ (some 160) _) _
             simp only [Act.put, List.setIfInBounds_toArray, List.set_cons_zero, List.set_cons_succ]
             refine tks (i := 8) rfl (by rfl) (by assumption) ?_
             change wpAnyH _ _ _ _ _ _ _ (Act.put _ (some 161) _) _
             simp only [Act.put, List.setIfInBounds_toArray, List.set_cons_zero, List.set_cons_succ]
             refine tks (i := 9) rfl (by rfl) (by assumption) ?_
             change wpAnyH _ _ _ _ _ _ _ (Act.put _ (some 162) _) _
             simp only [Act.put, List.setIfInBounds_toArray, List.set_cons_zero, List.set_cons_succ]
             refine tks (i := 10) rfl (by rfl) (by assumption) ?_
             change wpAnyH _ _ _ _ _ _ _ (Act.put _ (some 163) _) _
             simp only [Act.put, List.setIfInBounds_toArray, List.set_cons_zero, List.set_cons_succ]
             refine tks (i := 11) rfl (by rfl) (by assumption) ?_
             change wpAnyH _ _ _ _ _ _ _ (Act.put _ (some 164) _) _
             simp only [Act.put, List.setIfInBounds_toArray, List.set_cons_zero, List.set_cons_succ]
             refine tks (i := 12) rfl (by rfl) (by assumption) ?_
             change wpAnyH _ _ _ _ _ _ _ (Act.put _ (some 165) _) _
             simp only [Act.put, List.setIfInBounds_toArray, List.set_cons_zero, List.set_cons_succ]
             refine tk (i := 13) (v := ?_) rfl (by rfl) ?_ (by assumption) ?_
             rotate_left
             ·
              intro w hSw
              go_simp
              with_reducible rfl
             change wpAnyH _ _ _ _ _ _ _ (Act.put _ (some 166) _) _
             simp only [Act.put, List.setIfInBounds_toArray, List.set_cons_zero, List.set_cons_succ]
             refine tk (i := 14) (v := ?_) rfl (by rfl) ?_ (by assumption) ?_
             rotate_left
             ·
              intro w hSw
              go_simp
              with_reducible rfl
             change wpAnyH _ _ _ _ _ _ _ (Act.put _ (some 167) _) _
             simp only [Act.put, List.setIfInBounds_toArray, List.set_cons_zero, List.set_cons_succ]
             refine tks (i := 15) rfl (by rfl) (by assumption) ?_
             change wpAnyH _ _ _ _ _ _ _ (Act.put _ (some 168) _) _
             simp only [Act.put, List.setIfInBounds_toArray, List.set_cons_zero, List.set_cons_succ]
             refine tks (i := 16) rfl (by rfl) (by assumption) ?_
             change wpAnyH _ _ _ _ _ _ _ (Act.put _ (some 169) _) _
             simp only [Act.put, List.setIfInBounds_toArray, List.set_cons_zero, List.set_cons_succ]
             refine tks (i := 17) rfl (by rfl) (by assumption) ?_
             change wpAnyH _ _ _ _ _ _ _ (Act.put _ (some 170) _) _
             simp only [Act.put, List.setIfInBounds_toArray, List.set_cons_zero, List.set_cons_succ]
             refine tks (i := 18) rfl (by rfl) (by assumption) ?_
             change wpAnyH _ _ _ _ _ _ _ (Act.put _ (some 171) _) _
             simp only [Act.put, List.setIfInBounds_toArray, List.set_cons_zero, List.set_cons_succ]
             refine tks (i := 19) rfl (by rfl) (by assumption) ?_
             change wpAnyH _ _ _ _ _ _ _ (Act.put _ (some 172) _) _
             simp only [Act.put, List.setIfInBounds_toArray, List.set_cons_zero, List.set_cons_succ]
             refine tks (i := 20) rfl (by rfl) (by assumption) ?_
             change wpAnyH _ _ _ _ _ _ _ (Act.put _ (some 173) _) _
             simp only [Act.put, List.setIfInBounds_toArray, List.set_cons_zero, List.set_cons_succ]
             refine tks (i := 21) rfl (by rfl) (by assumption) ?_
             change wpAnyH _ _ _ _ _ _ _ (Act.put _ (some 174) _) _
             simp only [Act.put, List.setIfInBounds_toArray, List.set_cons_zero, List.set_cons_succ]
             refine tks (i := 22) rfl (by rfl) (by assumption) ?_
             change wpAnyH _ _ _ _ _ _ _ (Act.put _ (some 175) _) _
             simp only [Act.put, List.setIfInBounds_toArray, List.set_cons_zero, List.set_cons_succ]
             refine tk (i := 23) (v := ?_) rfl (by rfl) ?_ (by assumption) ?_
             rotate_left
             ·
              intro w hSw
              go_simp
              with_reducible rfl
             change wpAnyH _ _ _ _ _ _ _ (Act.put _ (some 176) _) _
             simp only [Act.put, List.setIfInBounds_toArray, List.set_cons_zero, List.set_cons_succ]
             refine tk (i := 24) (v := ?_) rfl (by rfl) ?_ (by assumption) ?_
             rotate_left
             ·
              intro w hSw
              go_simp
              with_reducible rfl
             change wpAnyH _ _ _ _ _ _ _ (Act.put _ (some 177) _) _
             simp only [Act.put, List.setIfInBounds_toArray, List.set_cons_zero, List.set_cons_succ]
             refine tks (i := 25) rfl (by rfl) (by assumption) ?_
             change wpAnyH _ _ _ _ _ _ _ (Act.put _ (some 178) _) _
             simp only [Act.put, List.setIfInBounds_toArray, List.set_cons_zero, List.set_cons_succ]
             refine tks (i := 26) rfl (by rfl) (by assumption) ?_
             change wpAnyH _ _ _ _ _ _ _ (Act.put _ (some 179) _) _
             simp only [Act.put, List.setIfInBounds_toArray, List.set_cons_zero, List.set_cons_succ]
             refine tks (i := 27) rfl (by rfl) (by assumption) ?_
             change wpAnyH _ _ _ _ _ _ _ (Act.put _ (some 180) _) _
             simp only [Act.put, List.setIfInBounds_toArray, List.set_cons_zero, List.set_cons_succ]
             refine tks (i := 28) rfl (by rfl) (by assumption) ?_
             change wpAnyH _ _ _ _ _ _ _ (Act.put _ (some 181) _) _
             simp only [Act.put, List.setIfInBounds_toArray, List.set_cons_zero, List.set_cons_succ]
             refine tks (i := 29) rfl (by rfl) (by assumption) ?_
             change wpAnyH _ _ _ _ _ _ _ (Act.put _ (some 182) _) _
             simp only [Act.put, List.setIfInBounds_toArray, List.set_cons_zero, List.set_cons_succ]
             refine tks (i := 30) rfl (by rfl) (by assumption) ?_
             change wpAnyH _ _ _ _ _ _ _ (Act.put _ (some 183) _) _
             simp only [Act.put, List.setIfInBounds_toArray, List.set_cons_zero, List.set_cons_succ]
             refine tks (i := 31) rfl (by rfl) (by assumption) ?_
             change wpAnyH _ _ _ _ _ _ _ (Act.put _ (some 184) _) _
             simp only [Act.put, List.setIfInBounds_toArray, List.set_cons_zero, List.set_cons_succ]
             refine tks (i := 32) rfl (by rfl) (by assumption) ?_
             change wpAnyH _ _ _ _ _ _ _ (Act.put _ (some 185) _) _
             simp only [Act.put, List.setIfInBounds_toArray, List.set_cons_zero, List.set_cons_succ]
             refine tks (i := 33) rfl (by rfl) (by assumption) ?_
             change wpAnyH _ _ _ _ _ _ _ (Act.put _ (some 186) _) _
             simp only [Act.put, List.setIfInBounds_toArray, List.set_cons_zero, List.set_cons_succ]
             refine tks (i := 34) rfl (by rfl) (by assumption) ?_
             change wpAnyH _ _ _ _ _ _ _ (Act.put _ (some 187) _) _
             simp only [Act.put, List.setIfInBounds_toArray, List.set_cons_zero, List.set_cons_succ]
             refine tks (i := 35) rfl (by rfl) (by assumption) ?_
             change wpAnyH _ _ _ _ _ _ _ (Act.put _ (some 188) _) _
             simp only [Act.put, List.setIfInBounds_toArray, List.set_cons_zero, List.set_cons_succ]
             refine tks (i := 36) rfl (by rfl) (by assumption) ?_
             change wpAnyH _ _ _ _ _ _ _ (Act.put _ (some 189) _) _
             simp only [Act.put, List.setIfInBounds_toArray, List.set_cons_zero, List.set_cons_succ]
             refine tks (i := 37) rfl (by rfl) (by assumption) ?_
             change wpAnyH _ _ _ _ _ _ _ (Act.put _ (some 190) _) _
             simp only [Act.put, List.setIfInBounds_toArray, List.set_cons_zero, List.set_cons_succ]
             refine tks (i := 38) rfl (by rfl) (by assumption) ?_
             change wpAnyH _ _ _ _ _ _ _ (Act.put _ (some 191) _) _
             simp only [Act.put, List.setIfInBounds_toArray, List.set_cons_zero, List.set_cons_succ]
             refine tks (i := 39) rfl (by rfl) (by assumption) ?_
             change wpAnyH _ _ _ _ _ _ _ (Act.put _ (some 192) _) _
             simp only [Act.put, List.setIfInBounds_toArray, List.set_cons_zero, List.set_cons_succ]
             refine tk (i := 40) (v := ?_) rfl (by rfl) ?_ (by assumption) ?_
             rotate_left
             ·
              intro w hSw
              go_simp
              with_reducible rfl
             change wpAnyH _ _ _ _ _ _ _ (Act.put _ (some 193) _) _
             simp only [Act.put, List.setIfInBounds_toArray, List.set_cons_zero, List.set_cons_succ]
             refine wpAnyH_done (by kernel_rfl) ?_ _
             go_wp2_with fail
             go_roundw
             case rel => exact ⟨i + 1, by omega, by go_num, HXd⟩
             case measure => simp [intOf]; omega
       ·
        rw [if_neg h29] at haf
        have d29 := i64_beq f.x.op 29 h29
        have hoL : oL = r i := (Option.some.inj haf).symm
        have HLN : Hid (oL.length = n0) := Lib.hid (by rw [hoL, HN0.out])
        have HPR : Hid (∀ q, q < n0 → q < n0 → oL.getD q 0 = (r i).getD q 0) := Lib.hid (fun q _ _ => by rw [hoL])
        clear haf haf2 hoL
        as_aux_lemma =>
         have hnb : n0 ≤ 2000000000000 := by have := HNL.out; omega
         go_wp2_with fail
         refine CN.out.mono ?_
         rintro e w8 ⟨b8, v8, rfl, s8⟩
         obtain ⟨s8a, c8a, rfl⟩ := sl_form2 s8
         obtain ⟨nn, hnn⟩ : ∃ q, q = (nextF l i).length := ⟨_, rfl⟩
         have hnnb : nn ≤ 9223372036854775807 := by rw [hnn]; exact (s8.at in_len).len.1
         rw [← hnn] at s8 ⊢
         have HNN := Lib.hid hnn
         have HW8 := Lib.hid (HW.out.trans (b8.mono (by have := HW.out.size; have := HM3.out; omega)))
         have S8 := Lib.hid s8
         obtain ⟨z8, hz8⟩ : ∃ q, q = w8.heap.size := ⟨_, rfl⟩
         have HZ8 := Lib.hid hz8
         have BB8 := Lib.hid (Below.refl z8 w8)
         clear b8 s8 hnn CN HW hz8 ck1 cti e0 e1 e2 e3 e4 e5 e6 e7 e8 e9
         go_wp2_with fail
         go_loopw [11] (fun z W => ∃ (k : Nat), k ≤ nn ∧ z = .int .i64 (k : Int) ∧ Hid (Below z8 w8 W)) (fun z _ => nn - (intOf z).toNat)
         case atStart => exact ⟨0, Nat.zero_le _, rfl, BB8⟩
         case round =>
          obtain ⟨k, hk, rfl, HX⟩ := hrel
          clear BB8
          have HX3 : Hid (Below m3 w3 wr) := Lib.hid (HW8.out.trans (HX.out.mono (by have := HW8.out.size; have := HZ8.out; have := HM3.out; omega)))
          by_cases hkn : k < nn
          ·
           as_aux_lemma =>
            have hkni : (k : Int) < (nn : Int) := by omega
            obtain ⟨g8, rfl⟩ : ∃ g, s8a = some ⟨g, 0, none⟩ := by
             rcases S8.out.form with ⟨e, _⟩ | ⟨g, cap, e, _⟩
             ·
              simp only [Value.slice.injEq] at e
              omega
             ·
              simp only [Value.slice.injEq] at e
              exact ⟨g, e.1⟩
            have hkl : k < (nextF l i).length := by rw [← HNN.out]; exact hkn
            have S8W := S8.out.below HX.out (fun g hg => by rw [HZ8.out]; exact (S8.out.lt g hg).2)
            have ck := S8W.cell in_len k 0 hkl (by omega)
            obtain ⟨x, hx⟩ : ∃ x, x = (nextF l i)[k] := ⟨_, rfl⟩
            rw [← hx] at ck
            simp only [inC, List.getElem?_cons_zero, Nat.add_zero, Nat.mul_one] at ck
            obtain ⟨j, rfl, hjn, hjt⟩ := HMN.out x (by rw [hx]; exact List.getElem_mem _)
            have hjni : (j : Int) < (n : Int) := by omega
            obtain ⟨sj, cj, hentj⟩ := HEJ.out j hjn
            rw [HOJ.out j hjn hjt, HLN.out] at hentj

            have HENJ := Lib.hid hentj
            have ctj := (hentj wr HX3.out).1
            have hd0 : decide ((n0 : Int) < 0) = false := decide_eq_false (by omega)
            clear hx S8W hjt hentj
            go_upto_region 26 with fail
            refine wp_region_held_drew (S := (fun w' => Below m3 w3 w')) (by kernel_rfl) (HX3.out.drew) (fun hS => ?_)
            have HXd : Hid (Below m3 w3 wr.drew) := Lib.hid HX3.out.drew
            have HXz : Hid (Below z8 w8 wr.drew) := Lib.hid HX.out.drew
            clear HX3 HX
            generalize wr.drew = w0 at *
            refine tk (i := 0) (v := ?_) rfl (by rfl) ?_ (by assumption) ?_
            rotate_left
            ·
             intro w hSw
             go_simp
             with_reducible rfl
            change wpAnyH _ _ _ _ _ _ _ (Act.put _ (some 98) _) _
            simp only [Act.put, List.setIfInBounds_toArray, List.set_cons_zero, List.set_cons_succ]
            refine tk (i := 1) (v := ?_) rfl (by rfl) ?_ (by assumption) ?_
            rotate_left
            ·
             intro w hSw
             go_simp
             with_reducible rfl
            change wpAnyH _ _ _ _ _ _ _ (Act.put _ (some 99) _) _
            simp only [Act.put, List.setIfInBounds_toArray, List.set_cons_zero, List.set_cons_succ]
            refine tk (i := 2) (v := ?_) rfl (by rfl) ?_ (by assumption) ?_
            rotate_left
            ·
             intro w hSw
             go_simp
             with_reducible rfl
            change wpAnyH _ _ _ _ _ _ _ (Act.put _ (some 100) _) _
            simp only [Act.put, List.setIfInBounds_toArray, List.set_cons_zero, List.set_cons_succ]
            refine tk (i := 3) (v := ?_) rfl (by rfl) ?_ (by assumption) ?_
            rotate_left
            ·
             intro w hSw
             go_simp
             with_reducible rfl
            change wpAnyH _ _ _ _ _ _ _ (Act.put _ (some 101) _) _
            simp only [Act.put, List.setIfInBounds_toArray, List.set_cons_zero, List.set_cons_succ]
            refine tk (i := 4) (v := ?_) rfl (by rfl) ?_ (by assumption) ?_
            rotate_left
            ·
             intro w hSw
             go_simp
             with_reducible rfl
            change wpAnyH _ _ _ _ _ _ _ (Act.put _ (some 102) _) _
            simp only [Act.put, List.setIfInBounds_toArray, List.set_cons_zero, List.set_cons_succ]
            refine tk (i := 5) (v := ?_) rfl (by rfl) ?_ (by assumption) ?_
            rotate_left
            ·
             intro w hSw
             go_simp
             with_reducible rfl
            change wpAnyH _ _ _ _ _ _ _ (Act.put _ (some 103) _) _
            simp only [Act.put, List.setIfInBounds_toArray, List.set_cons_zero, List.set_cons_succ]
            refine tk (i := 6) (v := ?_) rfl (by rfl) ?_ (by assumption) ?_
            rotate_left
            ·
             intro w hSw
             go_simp
             with_reducible rfl
            change wpAnyH _ _ _ _ _ _ _ (Act.put _ (some 104) _) _
            simp only [Act.put, List.setIfInBounds_toArray, List.set_cons_zero, List.set_cons_succ]
            refine tk (i := 7) (v := ?_) rfl (by rfl) ?_ (by assumption) ?_
            rotate_left
            ·
             intro w hSw
             go_simp
             with_reducible rfl
            change wpAnyH _ _ _ _ _ _ _ (Act.put _ (some 105) _) _
            simp only [Act.put, List.setIfInBounds_toArray, List.set_cons_zero, List.set_cons_succ]
            refine tk (i := 8) (v := ?_) rfl (by rfl) ?_ (by assumption) ?_
            rotate_left
            ·
             intro w hSw
             go_simp
             with_reducible rfl
            change wpAnyH _ _ _ _ _ _ _ (Act.put _ (some 106) _) _
            simp only [Act.put, List.setIfInBounds_toArray, List.set_cons_zero, List.set_cons_succ]
            refine tk (i := 9) (v := ?_) rfl (by rfl) ?_ (by assumption) ?_
            rotate_left
            ·
             intro w hSw
             go_simp
             with_reducible rfl
            change wpAnyH _ _ _ _ _ _ _ (Act.put _ (some 107) _) _
            simp only [Act.put, List.setIfInBounds_toArray, List.set_cons_zero, List.set_cons_succ]
            refine tk (i := 10) (v := ?_) rfl (by rfl) ?_ (by assumption) ?_
            rotate_left
            ·
             intro w hSw
             go_simp
             with_reducible rfl
            change wpAnyH _ _ _ _ _ _ _ (Act.put _ (some 108) _) _
            simp only [Act.put, List.setIfInBounds_toArray, List.set_cons_zero, List.set_cons_succ]
            refine tk (i := 11) (v := ?_) rfl (by rfl) ?_ (by assumption) ?_
            rotate_left
            ·
             intro w hSw
             go_simp
             with_reducible rfl
            change wpAnyH _ _ _ _ _ _ _ (Act.put _ (some 109) _) _
            simp only [Act.put, List.setIfInBounds_toArray, List.set_cons_zero, List.set_cons_succ]
            refine tk (i := 12) (v := ?_) rfl (by rfl) ?_ (by assumption) ?_
            rotate_left
            ·
             intro w hSw
             go_simp
             with_reducible rfl
            change wpAnyH _ _ _ _ _ _ _ (Act.put _ (some 110) _) _
            simp only [Act.put, List.setIfInBounds_toArray, List.set_cons_zero, List.set_cons_succ]
            refine tk (i := 13) (v := ?_) rfl (by rfl) ?_ (by assumption) ?_
            rotate_left
            ·
             intro w hSw
             obtain ⟨e0, e1, e2, e3, e4, e5, e6, e7, e8, e9⟩ := cells10 (HCI.out _ hSw)
             go_simp
             with_reducible rfl
            change wpAnyH _ _ _ _ _ _ _ (Act.put _ (some 111) _) _
            simp only [Act.put, List.setIfInBounds_toArray, List.set_cons_zero, List.set_cons_succ]
            refine tk (i := 14) (v := ?_) rfl (by rfl) ?_ (by assumption) ?_
            rotate_left
            ·
             intro w hSw
             go_simp
             with_reducible rfl
            change wpAnyH _ _ _ _ _ _ _ (Act.put _ (some 112) _) _
            simp only [Act.put, List.setIfInBounds_toArray, List.set_cons_zero, List.set_cons_succ]
            refine tk (i := 15) (v := ?_) rfl (by rfl) ?_ (by assumption) ?_
            rotate_left
            ·
             intro w hSw
             go_simp
             with_reducible rfl
            change wpAnyH _ _ _ _ _ _ _ (Act.put _ (some 113) _) _
            simp only [Act.put, List.setIfInBounds_toArray, List.set_cons_zero, List.set_cons_succ]
            refine tks (i := 16) rfl (by rfl) (by assumption) ?_
            change wpAnyH _ _ _ _ _ _ _ (Act.put _ (some 114) _) _
            simp only [Act.put, List.setIfInBounds_toArray, List.set_cons_zero, List.set_cons_succ]
            refine tks (i := 17) rfl (by rfl) (by assumption) ?_
            change wpAnyH _ _ _ _ _ _ _ (Act.put _ (some 115) _) _
            simp only [Act.put, List.setIfInBounds_toArray, List.set_cons_zero, List.set_cons_succ]
            refine tks (i := 18) rfl (by rfl) (by assumption) ?_
            change wpAnyH _ _ _ _ _ _ _ (Act.put _ (some 116) _) _
            simp only [Act.put, List.setIfInBounds_toArray, List.set_cons_zero, List.set_cons_succ]
            refine tks (i := 19) rfl (by rfl) (by assumption) ?_
            change wpAnyH _ _ _ _ _ _ _ (Act.put _ (some 117) _) _
            simp only [Act.put, List.setIfInBounds_toArray, List.set_cons_zero, List.set_cons_succ]
            refine tks (i := 20) rfl (by rfl) (by assumption) ?_
            change wpAnyH _ _ _ _ _ _ _ (Act.put _ (some 118) _) _
            simp only [Act.put, List.setIfInBounds_toArray, List.set_cons_zero, List.set_cons_succ]
            refine tks (i := 21) rfl (by rfl) (by assumption) ?_
            change wpAnyH _ _ _ _ _ _ _ (Act.put _ (some 119) _) _
            simp only [Act.put, List.setIfInBounds_toArray, List.set_cons_zero, List.set_cons_succ]
            refine tks (i := 22) rfl (by rfl) (by assumption) ?_
            change wpAnyH _ _ _ _ _ _ _ (Act.put _ (some 120) _) _
            simp only [Act.put, List.setIfInBounds_toArray, List.set_cons_zero, List.set_cons_succ]
            refine tks (i := 23) rfl (by rfl) (by assumption) ?_
            change wpAnyH _ _ _ _ _ _ _ (Act.put _ (some 121) _) _
            simp only [Act.put, List.setIfInBounds_toArray, List.set_cons_zero, List.set_cons_succ]
            refine tks (i := 24) rfl (by rfl) (by assumption) ?_
            change wpAnyH _ _ _ _ _ _ _ (Act.put _ (some 122) _) _
            simp only [Act.put, List.setIfInBounds_toArray, List.set_cons_zero, List.set_cons_succ]
            refine tks (i := 25) rfl (by rfl) (by assumption) ?_
            change wpAnyH _ _ _ _ _ _ _ (Act.put _ (some 123) _) _
            simp only [Act.put, List.setIfInBounds_toArray, List.set_cons_zero, List.set_cons_succ]
            refine tks (i := 26) rfl (by rfl) (by assumption) ?_
            change wpAnyH _ _ _ _ _ _ _ (Act.put _ (some 124) _) _
            simp only [Act.put, List.setIfInBounds_toArray, List.set_cons_zero, List.set_cons_succ]
            refine tk (i := 27) (v := ?_) rfl (by rfl) ?_ (by assumption) ?_
            rotate_left
            ·
             intro w hSw
             go_simp
             with_reducible rfl
            change wpAnyH _ _ _ _ _ _ _ (Act.put _ (some 125) _) _
            simp only [Act.put, List.setIfInBounds_toArray, List.set_cons_zero, List.set_cons_succ]
            refine tk (i := 28) (v := ?_) rfl (by rfl) ?_ (by assumption) ?_
            rotate_left
            ·
             intro w hSw
             go_simp
             with_reducible rfl
            change wpAnyH _ _ _ _ _ _ _ (Act.put _ (some 126) _) _
            simp only [Act.put, List.setIfInBounds_toArray, List.set_cons_zero, List.set_cons_succ]
            refine wpAnyH_done (by kernel_rfl) ?_ _
            clear ck ctj hS
            go_wp2_with fail
            go_loopw [13] (fun z W => ∃ (q : Nat), q ≤ n0 ∧ z = .int .i64 (q : Int) ∧ Hid (Below z8 w8 W)) (fun z _ => n0 - (intOf z).toNat)
            case atStart => exact ⟨0, Nat.zero_le _, rfl, HXz⟩
            case round =>
             obtain ⟨q, hq, rfl, HY⟩ := hrel
             clear HXz HXd
             have HY3 : Hid (Below m3 w3 wr) := Lib.hid (HW8.out.trans (HY.out.mono (by have := HW8.out.size; have := HZ8.out; have := HM3.out; omega)))
             have cti := (HEI.out wr HY3.out).1
             by_cases hqX : q < n0
             ·
              have hqXi : (q : Int) < (n0 : Int) := by omega
              by_cases hqn : q < n0
              ·
               have hqni : (q : Int) < (n0 : Int) := by omega
               obtain ⟨gi, pi, hsi, cq⟩ := slat_at (HEI.out wr HY3.out).2 HN0.out hqn
               subst hsi
               obtain ⟨gj2, pj2, hsj2, cq2⟩ := slat_at (HENJ.out wr HY3.out).2 HLN.out.symm hqX
               subst hsj2
               obtain ⟨x, hx⟩ : ∃ x, x = (r i).getD q 0 := ⟨_, rfl⟩
               have HXV : Hid ((r i).getD q 0 = x) := Lib.hid hx.symm
               have HX := Lib.hid HY.out
               have HX3 := Lib.hid HY3.out
               clear hx HY HY3
               go_upto_region 31 with fail
               refine wp_region_held_drew (S := (fun w' => Below m3 w3 w')) (by kernel_rfl) (HX3.out.drew) (fun hS => ?_)
               have HXd : Hid (Below m3 w3 wr.drew) := Lib.hid HX3.out.drew
               have HXz : Hid (Below z8 w8 wr.drew) := Lib.hid HX.out.drew
               clear HX3 HX
               generalize wr.drew = w0 at *
               refine tk (i := 0) (v := ?_) rfl (by rfl) ?_ (by assumption) ?_
               rotate_left
               ·
                intro w hSw
                go_simp
                with_reducible rfl
               change wpAnyH _ _ _ _ _ _ _ (Act.put _ (some 141) _) _
               simp only [Act.put, List.setIfInBounds_toArray, List.set_cons_zero, List.set_cons_succ]
               refine tk (i := 1) (v := ?_) rfl (by rfl) ?_ (by assumption) ?_
               rotate_left
               ·
                intro w hSw
                go_simp
                with_reducible rfl
               change wpAnyH _ _ _ _ _ _ _ (Act.put _ (some 142) _) _
               simp only [Act.put, List.setIfInBounds_toArray, List.set_cons_zero, List.set_cons_succ]
               refine tk (i := 2) (v := ?_) rfl (by rfl) ?_ (by assumption) ?_
               rotate_left
               ·
                intro w hSw
                go_simp
                with_reducible rfl
               change wpAnyH _ _ _ _ _ _ _ (Act.put _ (some 143) _) _
               simp only [Act.put, List.setIfInBounds_toArray, List.set_cons_zero, List.set_cons_succ]
               refine tk (i := 3) (v := ?_) rfl (by rfl) ?_ (by assumption) ?_
               rotate_left
               ·
                intro w hSw
                obtain ⟨g3, p3, hq, cl⟩ := slat_at (HENJ.out _ hSw).2 HLN.out.symm hqX
                simp only [Option.some.injEq, Addr.mk.injEq, and_true] at hq
                obtain ⟨rfl, rfl⟩ := hq
                rw [HPR.out q hqX hqn, HXV.out] at cl
                go_simp
                with_reducible rfl
               change wpAnyH _ _ _ _ _ _ _ (Act.put _ (some 144) _) _
               simp only [Act.put, List.setIfInBounds_toArray, List.set_cons_zero, List.set_cons_succ]
               refine tk (i := 4) (v := ?_) rfl (by rfl) ?_ (by assumption) ?_
               rotate_left
               ·
                intro w hSw
                go_simp
                with_reducible rfl
               change wpAnyH _ _ _ _ _ _ _ (Act.put _ (some 145) _) _
               simp only [Act.put, List.setIfInBounds_toArray, List.set_cons_zero, List.set_cons_succ]
               refine tk (i := 5) (v := ?_) rfl (by rfl) ?_ (by assumption) ?_
               rotate_left
               ·
                intro w hSw
                go_simp
                with_reducible rfl
               change wpAnyH _ _ _ _ _ _ _ (Act.put _ (some 146) _) _
               simp only [Act.put, List.setIfInBounds_toArray, List.set_cons_zero, List.set_cons_succ]
               refine tk (i := 6) (v := ?_) rfl (by rfl) ?_ (by assumption) ?_
               rotate_left
               ·
                intro w hSw
                go_simp
                with_reducible rfl
               change wpAnyH _ _ _ _ _ _ _ (Act.put _ (some 147) _) _
               simp only [Act.put, List.setIfInBounds_toArray, List.set_cons_zero, List.set_cons_succ]
               refine tk (i := 7) (v := ?_) rfl (by rfl) ?_ (by assumption) ?_
               rotate_left
               ·
                intro w hSw
                have cl := (HEI.out _ hSw).1
                go_simp
                with_reducible rfl
               change wpAnyH _ _ _ _ _ _ _ (Act.put _ (some 148) _) _
               simp only [Act.put, List.setIfInBounds_toArray, List.set_cons_zero, List.set_cons_succ]
               refine tk (i := 8) (v := ?_) rfl (by rfl) ?_ (by assumption) ?_
               rotate_left
               ·
                intro w hSw
                go_simp
                with_reducible rfl
               change wpAnyH _ _ _ _ _ _ _ (Act.put _ (some 149) _) _
               simp only [Act.put, List.setIfInBounds_toArray, List.set_cons_zero, List.set_cons_succ]
               refine tk (i := 9) (v := ?_) rfl (by rfl) ?_ (by assumption) ?_
               rotate_left
               ·
                intro w hSw
                go_simp
                with_reducible rfl
               change wpAnyH _ _ _ _ _ _ _ (Act.put _ (some 150) _) _
               simp only [Act.put, List.setIfInBounds_toArray, List.set_cons_zero, List.set_cons_succ]
               refine tk (i := 10) (v := ?_) rfl (by rfl) ?_ (by assumption) ?_
               rotate_left
               ·
                intro w hSw
                obtain ⟨g3, p3, hq, cl⟩ := slat_at (HEI.out _ hSw).2 HN0.out hqn
                simp only [Option.some.injEq, Addr.mk.injEq, and_true] at hq
                obtain ⟨rfl, rfl⟩ := hq
                rw [HXV.out] at cl
                go_simp
                with_reducible rfl
               change wpAnyH _ _ _ _ _ _ _ (Act.put _ (some 151) _) _
               simp only [Act.put, List.setIfInBounds_toArray, List.set_cons_zero, List.set_cons_succ]
               refine tk (i := 11) (v := ?_) rfl (by rfl) ?_ (by assumption) ?_
               rotate_left
               ·
                intro w hSw
                go_simp
                with_reducible rfl
               change wpAnyH _ _ _ _ _ _ _ (Act.put _ (some 152) _) _
               simp only [Act.put, List.setIfInBounds_toArray, List.set_cons_zero, List.set_cons_succ]
               refine wpAnyH_done (by kernel_rfl) ?_ _
               clear cq cq2 cti hS
               go_wp2_with fail
               go_roundw
               case rel => exact ⟨q + 1, by omega, by go_num, HXz⟩
               case measure => simp [intOf]; omega
              ·
               exact absurd hqX (by omega)
             ·
              have hqXi : ¬ (q : Int) < (n0 : Int) := by omega
              clear hqX
              go_wp2_with fail
              go_roundw
              case rel => exact ⟨k + 1, by omega, by go_num, HY⟩
              case measure => simp [intOf]; omega
          ·
           as_aux_lemma =>
            have hkni : ¬ (k : Int) < (nn : Int) := by omega
            clear hkn
            have cti := (HEI.out wr HX3.out).1
            obtain ⟨e0, e1, e2, e3, e4, e5, e6, e7, e8, e9⟩ := cells10 (HCI.out wr HX3.out)
            go_upto_region 33 with fail
            refine wp_region_held_drew (S := (fun w' => Below m3 w3 w')) (by kernel_rfl) (HX3.out.drew) (fun hS => ?_)
            have HXd : Hid (Below m3 w3 wr.drew) := Lib.hid HX3.out.drew
            have HXz : Hid (Below z8 w8 wr.drew) := Lib.hid HX.out.drew
            clear HX3 HX
            generalize wr.drew = w0 at *
            refine tk (i := 0) (v := ?_) rfl (by rfl) ?_ (by assumption) ?_
            rotate_left
            ·
             intro w hSw
             go_simp
             with_reducible rfl
            change wpAnyH _ _ _ _ _ _ _ (Act.put _ (some 153) _) _
            simp only [Act.put, List.setIfInBounds_toArray, List.set_cons_zero, List.set_cons_succ]
            refine tk (i := 1) (v := ?_) rfl (by rfl) ?_ (by assumption) ?_
            rotate_left
            ·
             intro w hSw
             go_simp
             with_reducible rfl
            change wpAnyH _ _ _ _ _ _ _ (Act.put _ (some 154) _) _
            simp only [Act.put, List.setIfInBounds_toArray, List.set_cons_zero, List.set_cons_succ]
            refine tk (i := 2) (v := ?_) rfl (by rfl) ?_ (by assumption) ?_
            rotate_left
            ·
             intro w hSw
             go_simp
             with_reducible rfl
            change wpAnyH _ _ _ _ _ _ _ (Act.put _ (some 155) _) _
            simp only [Act.put, List.setIfInBounds_toArray, List.set_cons_zero, List.set_cons_succ]
            refine tk (i := 3) (v := ?_) rfl (by rfl) ?_ (by assumption) ?_
            rotate_left
            ·
             intro w hSw
             go_simp
             with_reducible rfl
            change wpAnyH _ _ _ _ _ _ _ (Act.put _ (some 156) _) _
            simp only [Act.put, List.setIfInBounds_toArray, List.set_cons_zero, List.set_cons_succ]
            refine tk (i := 4) (v := ?_) rfl (by rfl) ?_ (by assumption) ?_
            rotate_left
            ·
             intro w hSw
             obtain ⟨e0, e1, e2, e3, e4, e5, e6, e7, e8, e9⟩ := cells10 (HCI.out _ hSw)
             go_simp
             with_reducible rfl
            change wpAnyH _ _ _ _ _ _ _ (Act.put _ (some 157) _) _
            simp only [Act.put, List.setIfInBounds_toArray, List.set_cons_zero, List.set_cons_succ]
            refine tk (i := 5) (v := ?_) rfl (by rfl) ?_ (by assumption) ?_
            rotate_left
            ·
             intro w hSw
             go_simp
             with_reducible rfl
            change wpAnyH _ _ _ _ _ _ _ (Act.put _ (some 158) _) _
            simp only [Act.put, List.setIfInBounds_toArray, List.set_cons_zero, List.set_cons_succ]
            refine tk (i := 6) (v := ?_) rfl (by rfl) ?_ (by assumption) ?_
            rotate_left
            ·
             intro w hSw
             go_simp
             with_reducible rfl
            change wpAnyH _ _ _ _ _ _ _ (Act.put _ (some 159) _) _
            simp only [Act.put, List.setIfInBounds_toArray, List.set_cons_zero, List.set_cons_succ]
            refine tks (i := 7) rfl (by rfl) (by assumption) ?_
            change wpAnyH _ _ _ _ _ _ _ (Act.put _ (some 160) _) _
            simp only [Act.put, List.setIfInBounds_toArray, List.set_cons_zero, List.set_cons_succ]
            refine tks (i := 8) rfl (by rfl) (by assumption) ?_
            change wpAnyH _ _ _ _ _ _ _ (Act.put _ (some 161) _) _
            simp only [Act.put, List.setIfInBounds_toArray, List.set_cons_zero, List.set_cons_succ]
            refine tks (i := 9) rfl (by rfl) (by assumption) ?_
            change wpAnyH _ _ _ _ _ _ _ (Act.put _ (some 162) _) _
            simp only [Act.put, List.setIfInBounds_toArray, List.set_cons_zero, List.set_cons_succ]
            refine tks (i := 10) rfl (by rfl) (by assumption) ?_
            change wpAnyH _ _ _ _ _ _ _ (Act.put _ (some 163) _) _
            simp only [Act.put, List.setIfInBounds_toArray, List.set_cons_zero, List.set_cons_succ]
            refine tks (i := 11) rfl (by rfl) (by assumption) ?_
            change wpAnyH _ _ _ _ _ _ _ (Act.put _ (some 164) _) _
            simp only [Act.put, List.setIfInBounds_toArray, List.set_cons_zero, List.set_cons_succ]
            refine tks (i := 12) rfl (by rfl) (by assumption) ?_
            change wpAnyH _ _ _ _ _ _ _ (Act.put _ (some 165) _) _
            simp only [Act.put, List.setIfInBounds_toArray, List.set_cons_zero, List.set_cons_succ]
            refine tk (i := 13) (v := ?_) rfl (by rfl) ?_ (by assumption) ?_
            rotate_left
            ·
             intro w hSw
             go_simp
             with_reducible rfl
            change wpAnyH _ _ _ _ _ _ _ (Act.put _ (some 166) _) _
            simp only [Act.put, List.setIfInBounds_toArray, List.set_cons_zero, List.set_cons_succ]
            refine tk (i := 14) (v := ?_) rfl (by rfl) ?_ (by assumption) ?_
            rotate_left
            ·
             intro w hSw
             go_simp
             with_reducible rfl
            change wpAnyH _ _ _ _ _ _ _ (Act.put _ (some 167) _) _
            simp only [Act.put, List.setIfInBounds_toArray, List.set_cons_zero, List.set_cons_succ]
            refine tks (i := 15) rfl (by rfl) (by assumption) ?_
            change wpAnyH _ _ _ _ _ _ _ (Act.put _ (some 168) _) _
            simp only [Act.put, List.setIfInBounds_toArray, List.set_cons_zero, List.set_cons_succ]
            refine tks (i := 16) rfl (by rfl) (by assumption) ?_
            change wpAnyH _ _ _ _ _ _ _ (Act.put _ (some 169) _) _
            simp only [Act.put, List.setIfInBounds_toArray, List.set_cons_zero, List.set_cons_succ]
            refine tks (i := 17) rfl (by rfl) (by assumption) ?_
            change wpAnyH _ _ _ _ _ _ _ (Act.put _ (some 170) _) _
            simp only [Act.put, List.setIfInBounds_toArray, List.set_cons_zero, List.set_cons_succ]
            refine tks (i := 18) rfl (by rfl) (by assumption) ?_
            change wpAnyH _ _ _ _ _ _ _ (Act.put _ (some 171) _) _
            simp only [Act.put, List.setIfInBounds_toArray, List.set_cons_zero, List.set_cons_succ]
            refine tks (i := 19) rfl (by rfl) (by assumption) ?_
            change wpAnyH _ _ _ _ _ _ _ (Act.put _ (some 172) _) _
            simp only [Act.put, List.setIfInBounds_toArray, List.set_cons_zero, List.set_cons_succ]
            refine tks (i := 20) rfl (by rfl) (by assumption) ?_
            change wpAnyH _ _ _ _ _ _ _ (Act.put _ (some 173) _) _
            simp only [Act.put, List.setIfInBounds_toArray, List.set_cons_zero, List.set_cons_succ]
            refine tks (i := 21) rfl (by rfl) (by assumption) ?_
            change wpAnyH _ _ _ _ _ _ _ (Act.put _ (some 174) _) _
            simp only [Act.put, List.setIfInBounds_toArray, List.set_cons_zero, List.set_cons_succ]
            refine tks (i := 22) rfl (by rfl) (by assumption) ?_
            change wpAnyH _ _ _ _ _ _ _ (Act.put _ (some 175) _) _
            simp only [Act.put, List.setIfInBounds_toArray, List.set_cons_zero, List.set_cons_succ]
            refine tk (i := 23) (v := ?_) rfl (by rfl) ?_ (by assumption) ?_
            rotate_left
            ·
             intro w hSw
             go_simp
             with_reducible rfl
            change wpAnyH _ _ _ _ _ _ _ (Act.put _ (some 176) _) _
            simp only [Act.put, List.setIfInBounds_toArray, List.set_cons_zero, List.set_cons_succ]
            refine tk (i := 24) (v := ?_) rfl (by rfl) ?_ (by assumption) ?_
            rotate_left
            ·
             intro w hSw
             go_simp
             with_reducible rfl
            change wpAnyH _ _ _ _ _ _ _ (Act.put _ (some 177) _) _
            simp only [Act.put, List.setIfInBounds_toArray, List.set_cons_zero, List.set_cons_succ]
            refine tks (i := 25) rfl (by rfl) (by assumption) ?_
            change wpAnyH _ _ _ _ _ _ _ (Act.put _ (some 178) _) _
            simp only [Act.put, List.setIfInBounds_toArray, List.set_cons_zero, List.set_cons_succ]
            refine tks (i := 26) rfl (by rfl) (by assumption) ?_
            change wpAnyH _ _ _ _ _ _ _ (Act.put _ (some 179) _) _
            simp only [Act.put, List.setIfInBounds_toArray, List.set_cons_zero, List.set_cons_succ]
            refine tks (i := 27) rfl (by rfl) (by assumption) ?_
            change wpAnyH _ _ _ _ _ _ _ (Act.put _ (some 180) _) _
            simp only [Act.put, List.setIfInBounds_toArray, List.set_cons_zero, List.set_cons_succ]
            refine tks (i := 28) rfl (by rfl) (by assumption) ?_
            change wpAnyH _ _ _ _ _ _ _ (Act.put _ (some 181) _) _
            simp only [Act.put, List.setIfInBounds_toArray, List.set_cons_zero, List.set_cons_succ]
            refine tks (i := 29) rfl (by rfl) (by assumption) ?_
            change wpAnyH _ _ _ _ _ _ _ (Act.put _ (some 182) _) _
            simp only [Act.put, List.setIfInBounds_toArray, List.set_cons_zero, List.set_cons_succ]
            refine tks (i := 30) rfl (by rfl) (by assumption) ?_
            change wpAnyH _ _ _ _ _ _ _ (Act.put _ (some 183) _) _
            simp only [Act.put, List.setIfInBounds_toArray, List.set_cons_zero, List.set_cons_succ]
            refine tks (i := 31) rfl (by rfl) (by assumption) ?_
            change wpAnyH _ _ _ _ _ _ _ (Act.put _ (some 184) _) _
            simp only [Act.put, List.setIfInBounds_toArray, List.set_cons_zero, List.set_cons_succ]
            refine tks (i := 32) rfl (by rfl) (by assumption) ?_
            change wpAnyH _ _ _ _ _ _ _ (Act.put _ (some 185) _) _
            simp only [Act.put, List.setIfInBounds_toArray, List.set_cons_zero, List.set_cons_succ]
            refine tks (i := 33) rfl (by rfl) (by assumption) ?_
            change wpAnyH _ _ _ _ _ _ _ (Act.put _ (some 186) _) _
            simp only [Act.put, List.setIfInBounds_toArray, List.set_cons_zero, List.set_cons_succ]
            refine tks (i := 34) rfl (by rfl) (by assumption) ?_
            change wpAnyH _ _ _ _ _ _ _ (Act.put _ (some 187) _) _
            simp only [Act.put, List.setIfInBounds_toArray, List.set_cons_zero, List.set_cons_succ]
            refine tks (i := 35) rfl (by rfl) (by assumption) ?_
            change wpAnyH _ _ _ _ _ _ _ (Act.put _ (some 188) _) _
            simp only [Act.put, List.setIfInBounds_toArray, List.set_cons_zero, List.set_cons_succ]
            refine tks (i := 36) rfl (by rfl) (by assumption) ?_
            change wpAnyH _ _ _ _ _ _ _ (Act.put _ (some 189) _) _
            simp only [Act.put, List.setIfInBounds_toArray, List.set_cons_zero, List.set_cons_succ]
            refine tks (i := 37) rfl (by rfl) (by assumption) ?_
            change wpAnyH _ _ _ _ _ _ _ (Act.put _ (some 190) _) _
            simp only [Act.put, List.setIfInBounds_toArray, List.set_cons_zero, List.set_cons_succ]
            refine tks (i := 38) rfl (by rfl) (by assumption) ?_
            change wpAnyH _ _ _ _ _ _ _ (Act.put _ (some 191) _) _
            simp only [Act.put, List.setIfInBounds_toArray, List.set_cons_zero, List.set_cons_succ]
            refine tks (i := 39) rfl (by rfl) (by assumption) ?_
            change wpAnyH _ _ _ _ _ _ _ (Act.put _ (some 192) _) _
            simp only [Act.put, List.setIfInBounds_toArray, List.set_cons_zero, List.set_cons_succ]
            refine tk (i := 40) (v := ?_) rfl (by rfl) ?_ (by assumption) ?_
            rotate_left
            ·
             intro w hSw
             go_simp
             with_reducible rfl
            change wpAnyH _ _ _ _ _ _ _ (Act.put _ (some 193) _) _
            simp only [Act.put, List.setIfInBounds_toArray, List.set_cons_zero, List.set_cons_succ]
            refine wpAnyH_done (by kernel_rfl) ?_ _
            go_wp2_with fail
            go_roundw
            case rel => exact ⟨i + 1, by omega, by go_num, HXd⟩
            case measure => simp [intOf]; omega
    ·
     have hlti : ¬ (i : Int) < (n : Int) := by omega
     go_wp2_with fail
     refine (CA.out wr (HB3.out wr HW.out)).mono ?_
     rintro e w8 ⟨rfl, b8⟩
     have B8 := Lib.hid ((HB3.out wr HW.out).trans (b8.mono (HB3.out wr HW.out).size))
     clear b8
     go_wp2_with fail
     go_ret
     exact ⟨rfl, B8.out⟩
  ·
   have hR := triesF_err htr her
   subst hR
   have her2 := i64_bne er 0 her
   clear b2 hls htr her
   go_wp2_with fail
   refine (CA.out w2 B2.out).mono ?_
   rintro e w3 ⟨rfl, b3⟩
   have B3 := Lib.hid (B2.out.trans (b3.mono B2.out.size))
   clear b3
   go_wp2_with fail
   go_ret
   exact ⟨rfl, B3.out⟩
end Go.Proofs.YtekfnonjhcfdmaaDoor
