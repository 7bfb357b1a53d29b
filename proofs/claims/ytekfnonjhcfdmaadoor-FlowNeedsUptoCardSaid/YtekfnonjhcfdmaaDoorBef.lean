/- The reference's before. -/
import Derived.Test.YtekfnonjhcfdmaaDoorGrow
import Derived.Test.YtekfnonjhcfdmaaDoorRefu
namespace Go.Proofs.YtekfnonjhcfdmaaDoor
open Go.RowKit Go.Rt Go.Rw

/-- The lists of places in memory. -/
def OutS (W : World) (go n : Nat) (S : Nat → List Int) : Prop := ∃ Vs : List Value, Vs.length = n ∧ Blk W go 23 Vs.toArray ∧ ∀ i (h : i < Vs.length), SlC W Vs[i] (S i)
theorem OutS.keep {w w' : World} {go n : Nat} {S : Nat → List Int} (h : OutS w go n S) (b : Below w.heap.size w w') : OutS w' go n S := by
  obtain ⟨Vs, h1, h2, h3⟩ := h
  exact ⟨Vs, h1, h2.below b h2.lt, fun i hi => (h3 i hi).keep b⟩
theorem OutS.get {w : World} {go n : Nat} {S : Nat → List Int} (h : OutS w go n S) {i : Nat} (hi : i < n) : ∃ sv cv, w.cell? ⟨go, i, none⟩ = some (.slice sv (S i).length cv) ∧ SlC w (.slice sv (S i).length cv) (S i) := by
  obtain ⟨Vs, h1, h2, h3⟩ := h
  have := h3 i (by omega)
  obtain ⟨sv, cv, e, _⟩ := this.2
  refine ⟨sv, cv, ?_, by rw [← e]; exact this⟩
  rw [h2.cell i, List.getElem?_toArray, List.getElem?_eq_getElem (by omega), e]
theorem defs_len (x : In) : (defsF x).length ≤ 2 := by
  unfold defsF
  rw [List.length_append]
  split <;> split <;> simp
set_option maxRecDepth 100000 in
set_option maxHeartbeats 8000000 in
theorem before39 (l : List In) (i : Nat) (kd : Int) (S : Nat → List Int) (t : List Int) (go n : Nat) (v tv : Value) (w : World) (M : List Int) (h : InsAt w l v) (hi : i < l.length) (ho : OutS w go n S) (hn : n = l.length) (ht : SlAt w 1 inC tv t)
    (hup : ∀ j, Up (S j)) (hM : ∀ j, ∀ x ∈ S j, x ∈ M) (hU : ∀ x ∈ gat kd (usesF l[i]), x ∈ M) (hML : M.length ≤ 1000000000) (hb1 : l.length ≤ 1048576) (hb2 : ∀ x ∈ l, x.cases.length ≤ 1048576) (hb3 : ∀ x ∈ l, x.src.length ≤ 1048576) (hb4 : ∀ x ∈ l, x.segs.length ≤ 1048576) :
    Calls Tryd.prog 39 #[v, .int .i64 i, .int .i64 kd, .slice (some ⟨go, 0, none⟩) n n, tv] w (RdR (befF l kd S i l[i] t) w) := by
  obtain ⟨_, sa, cap, rfl⟩ := h.form
  obtain ⟨ht0, st, ct, et⟩ := ht.len
  obtain ⟨nt, hnt⟩ : ∃ q, q = t.length := ⟨_, rfl⟩
  rw [← hnt] at et ht0
  subst et
  have hin : i < n := by omega
  have hini : (i : Int) < (n : Int) := by omega
  obtain ⟨m, hm⟩ : ∃ q, q = w.heap.size := ⟨_, rfl⟩
  have C17 := Lib.hid (fun (W : World) (q : Below m w W) => rnext17 l (.slice sa l.length cap) i W (h.keep (by rw [← hm]; exact q)) hb1 hb2)
  obtain ⟨b, o, rfl, hb, hc⟩ := h.get (by omega)
  obtain ⟨f, hf, hfa, hcell⟩ := hc i hi
  have HCI : Hid (∀ W, Below m w W → ∀ t, t < 10 → W.cell? ⟨b, o + i * 10 + t, none⟩ = (imC f)[t]?) := Lib.hid (fun W hW t ht => by rw [← hcell t ht]; exact hW.cell (p := ⟨b, _, none⟩) (by rw [hm]; exact hb))
  have C20 : Hid (∀ W, Below m w W → Calls Tryd.prog 20 #[imV f] W (ArsR (usesF f.x) W)) := Lib.hid (fun W hW => ruses20 f W (hfa.keep (by rw [← hm]; exact hW)) (by rw [hf]; exact hb3 _ (List.getElem_mem _)) (by rw [hf]; exact hb4 _ (List.getElem_mem _)))
  have C22 : Hid (∀ W, Below m w W → Calls Tryd.prog 22 #[imV f] W (ArsR (defsF f.x) W)) := Lib.hid (fun W hW => defs22 f W (hfa.keep (by rw [← hm]; exact hW)))
  unfold imV at C20 C22
  obtain ⟨U, hUU⟩ : ∃ q, q = usesF f.x := ⟨_, rfl⟩
  obtain ⟨Dl, hDD⟩ : ∃ q, q = defsF f.x := ⟨_, rfl⟩
  have HDB : Hid (Dl.length ≤ 2) := Lib.hid (by rw [hDD]; exact defs_len _)
  have HR : Hid (befF l kd S i l[i] t = addS (S i) (gat kd U ++ (nextF l i).flatMap (stepS S (asc (gat kd Dl))) ++ handS l S t)) := Lib.hid (by rw [hUU, hDD, hf]; rfl)
  rw [← hf, ← hUU] at hU
  rw [← hUU] at C20
  rw [← hDD] at C22
  obtain ⟨R, hR⟩ : ∃ q, q = befF l kd S i l[i] t := ⟨_, rfl⟩
  rw [← hR] at HR ⊢
  have HO : Hid (∀ W, Below m w W → ∀ j, j < n → ∃ sv cv, W.cell? ⟨go, j, none⟩ = some (.slice sv (S j).length cv) ∧ SlC W (.slice sv (S j).length cv) (S j)) := Lib.hid (fun W hW j hj => (ho.keep (by rw [← hm]; exact hW)).get hj)
  have HT := Lib.hid ht
  have HH := Lib.hid h
  have HUP := Lib.hid hup
  have HMM := Lib.hid hM
  have HUM := Lib.hid hU
  have HML := Lib.hid hML
  have HN := Lib.hid hn
  have HNT := Lib.hid hnt
  have HIL := Lib.hid hi
  rw [← hn] at C17 ⊢
  have hb1' : n ≤ 1048576 := by omega
  have HM := Lib.hid hm
  have B0 : Hid (Below m w w) := Lib.hid (Below.refl _ _)
  clear hi hf hc hcell hfa hb hUU hDD hR ho ht h hup hM hU hML hb1 hb2 hb3 hb4 hnt hm hn
  obtain ⟨sI, cI, cI1, cI2⟩ := HO.out w B0.out i hin
  have HS0 := Lib.hid cI2
  obtain ⟨e0, e1, e2, e3, e4, e5, e6, e7, e8, e9⟩ := cells10 (HCI.out w B0.out)
  clear cI2
  have C20w := Lib.hid (C20.out w B0.out)
  obtain ⟨nI, hnI⟩ : ∃ q, q = (S i).length := ⟨_, rfl⟩
  rw [← hnI] at cI1 HS0
  clear hnI
  go_enter Tryd.func39, Tryd.ntmps39
  go_wp2_with fail
  refine C20w.out.mono ?_
  rintro e w1 ⟨b1, u1, rfl, s1⟩
  have B1 : Hid (Below m w w1) := Lib.hid (by rw [HM.out]; exact b1)
  have HS1 : Hid (SlC w1 (.slice sI nI cI) (addS (S i) (gat kd (U.take 0)))) := Lib.hid (HS0.out.keep b1)
  have SU := Lib.hid (s1.at ar_len)
  obtain ⟨hu0, su, cu, eu⟩ := SU.out.len
  obtain ⟨NU, hNU⟩ : ∃ q, q = U.length := ⟨_, rfl⟩
  rw [← hNU] at eu hu0
  subst eu
  have HNU := Lib.hid hNU
  have BB1 := Lib.hid (Below.refl w1.heap.size w1)
  clear b1 s1 hNU C20w cI1 e0 e1 e2 e3 e4 e5 e6 e7 e8 e9 HS0
  go_wp2_with fail
  go_loopw [11, 13] (fun z11 z wr => ∃ (k : Nat), k ≤ NU ∧ z = .int .i64 (k : Int) ∧ Hid (SlC wr z11 (addS (S i) (gat kd (U.take k)))) ∧ Hid (Below w1.heap.size w1 wr)) (fun _ z _ => NU - (intOf z).toNat)
  case atStart => exact ⟨0, Nat.zero_le _, rfl, HS1, BB1⟩
  case round =>
    obtain ⟨k, hk, rfl, HS, HB⟩ := hrel
    clear HS1 BB1
    by_cases hkn : k < NU
    · as_aux_lemma =>
      have hkni : (k : Int) < (NU : Int) := by omega
      have hkl : k < U.length := by rw [← HNU.out]; exact hkn
      obtain ⟨bu, ou, rfl, hbu, hcu⟩ := SU.out.get (by omega)
      obtain ⟨a, ha⟩ : ∃ a, a = U[k] := ⟨_, rfl⟩
      have c0 := (HB.out.cell (p := ⟨bu, _, none⟩) hbu).trans (hcu k 0 hkl (by omega))
      have c1 := (HB.out.cell (p := ⟨bu, _, none⟩) hbu).trans (hcu k 1 hkl (by omega))
      have hg := gat_snoc kd U k hkl
      rw [← ha] at c0 c1 hg
      have ham : a ∈ U := by rw [ha]; exact List.getElem_mem _
      obtain ⟨ak, an⟩ := a
      simp only [arC, List.getElem?_cons_zero, List.getElem?_cons_succ, Nat.add_zero] at c0 c1
      have HG := Lib.hid hg
      have HAM := Lib.hid ham
      clear ha hg ham hcu hbu
      by_cases hak : ak = kd
      · subst hak
        have hmid : ∀ x ∈ gat ak (U.take k), x ∈ M := fun x hx => HUM.out x ((mem_gat ak U x).2 (List.mem_of_mem_take ((mem_gat ak _ x).1 hx)))
        have CI := Lib.hid (insert40 (addS (S i) (gat ak (U.take k))) an _ wr HS.out (up_addS _ (HUP.out i)) (Nat.le_trans (addS_len (HUP.out i) (HMM.out i) hmid) (by have := HML.out; omega)))
        rw [← addS_snoc, ← show gat ak (U.take (k + 1)) = gat ak (U.take k) ++ [an] by rw [HG.out]; exact if_pos rfl] at CI
        clear hmid
        go_wp2_with fail
        refine CI.out.mono ?_
        rintro e w2 ⟨b2, u2, rfl, s2⟩
        have HS2 := Lib.hid s2
        have HB2 := Lib.hid (HB.out.trans (b2.mono HB.out.size))
        clear b2 s2 CI HS HB
        go_wp2_with fail
        go_roundw
        case rel => exact ⟨k + 1, by omega, by go_num, HS2, HB2⟩
        case measure => simp [intOf]; omega
      · have eak : (ak == kd) = false := by rw [beq_eq_false_iff_ne]; exact hak
        have HS2 := Lib.hid HS.out
        rw [← show gat kd (U.take (k + 1)) = gat kd (U.take k) by rw [HG.out]; exact if_neg hak] at HS2
        clear HS HG hak
        go_wp2_with fail
        go_roundw
        case rel => exact ⟨k + 1, by omega, by go_num, HS2, HB⟩
        case measure => simp [intOf]; omega
    · as_aux_lemma =>
      have hkni : ¬ (k : Int) < (NU : Int) := by omega
      have hke : k = U.length := by rw [← HNU.out]; omega
      have HS1 := Lib.hid HS.out
      rw [hke, List.take_length] at HS1
      obtain ⟨A1, hA1⟩ : ∃ q, q = gat kd U := ⟨_, rfl⟩
      rw [← hA1] at HS1 HR
      have HA1 : Hid (∀ x ∈ A1, x ∈ M) := Lib.hid (by rw [hA1]; exact HUM.out)
      have B2 : Hid (Below m w wr) := Lib.hid (B1.out.trans (HB.out.mono (by have := B1.out.size; have := HM.out; omega)))
      obtain ⟨w2, hw2⟩ : ∃ q, q = wr := ⟨_, rfl⟩
      rw [← hw2] at HS1 B2 ⊢
      obtain ⟨e0, e1, e2, e3, e4, e5, e6, e7, e8, e9⟩ := cells10 (HCI.out w2 B2.out)
      have C22w := Lib.hid (C22.out w2 B2.out)
      clear hke HS HB hA1 HUM hw2
      go_wp2_with fail
      refine C22w.out.mono ?_
      rintro e w3 ⟨b3, u3, rfl, s3⟩
      have B3 : Hid (Below m w w3) := Lib.hid (B2.out.trans (b3.mono (by have := B2.out.size; have := HM.out; omega)))
      have HS3 := Lib.hid (HS1.out.keep b3)
      have SD := Lib.hid (s3.at ar_len)
      obtain ⟨hd0, sd, cd, ed⟩ := SD.out.len
      obtain ⟨ND, hND⟩ : ∃ q, q = Dl.length := ⟨_, rfl⟩
      rw [← hND] at ed hd0
      subst ed
      have HND := Lib.hid hND
      have HD3 : Hid (SlC w3 (.slice none 0 0) (asc (gat kd (Dl.take 0)))) := Lib.hid (nil_slc _)
      have BB3 := Lib.hid (Below.refl w3.heap.size w3)
      clear b3 s3 hND C22w e0 e1 e2 e3 e4 e5 e6 e7 e8 e9 HS1 B2
      go_wp2_with fail
      go_loopw [14, 16] (fun z14 z wr => ∃ (k : Nat), k ≤ ND ∧ z = .int .i64 (k : Int) ∧ Hid (SlC wr z14 (asc (gat kd (Dl.take k)))) ∧ Hid (Below w3.heap.size w3 wr)) (fun _ z _ => ND - (intOf z).toNat)
      case atStart => exact ⟨0, Nat.zero_le _, rfl, HD3, BB3⟩
      case round =>
        obtain ⟨k, hk, rfl, HD, HB⟩ := hrel
        clear HD3 BB3
        by_cases hkn : k < ND
        · as_aux_lemma =>
          have hkni : (k : Int) < (ND : Int) := by omega
          have hkl : k < Dl.length := by rw [← HND.out]; exact hkn
          obtain ⟨bu, ou, rfl, hbu, hcu⟩ := SD.out.get (by omega)
          obtain ⟨a, ha⟩ : ∃ a, a = Dl[k] := ⟨_, rfl⟩
          have c0 := (HB.out.cell (p := ⟨bu, _, none⟩) hbu).trans (hcu k 0 hkl (by omega))
          have c1 := (HB.out.cell (p := ⟨bu, _, none⟩) hbu).trans (hcu k 1 hkl (by omega))
          have hg := gat_snoc kd Dl k hkl
          rw [← ha] at c0 c1 hg
          obtain ⟨ak, an⟩ := a
          simp only [arC, List.getElem?_cons_zero, List.getElem?_cons_succ, Nat.add_zero] at c0 c1
          have HG := Lib.hid hg
          have HDL : Hid ((asc (gat kd (Dl.take k))).length ≤ 1000000000000) := Lib.hid (by
            have h1 := asc_len (gat kd (Dl.take k))
            have h2 := gat_len kd (Dl.take k)
            have h3 := List.length_take_le' k Dl
            have := HDB.out
            omega)
          clear ha hg hcu hbu
          by_cases hak : ak = kd
          · subst hak
            have CI := Lib.hid (insert40 (asc (gat ak (Dl.take k))) an _ wr HD.out (up_asc _) HDL.out)
            rw [← asc_snoc, ← show gat ak (Dl.take (k + 1)) = gat ak (Dl.take k) ++ [an] by rw [HG.out]; exact if_pos rfl] at CI
            go_wp2_with fail
            refine CI.out.mono ?_
            rintro e w2 ⟨b2, u2, rfl, s2⟩
            have HS2 := Lib.hid s2
            have HB2 := Lib.hid (HB.out.trans (b2.mono HB.out.size))
            clear b2 s2 CI HD HB
            go_wp2_with fail
            go_roundw
            case rel => exact ⟨k + 1, by omega, by go_num, HS2, HB2⟩
            case measure => simp [intOf]; omega
          · have eak : (ak == kd) = false := by rw [beq_eq_false_iff_ne]; exact hak
            have HS2 := Lib.hid HD.out
            rw [← show gat kd (Dl.take (k + 1)) = gat kd (Dl.take k) by rw [HG.out]; exact if_neg hak] at HS2
            clear HD HG hak
            go_wp2_with fail
            go_roundw
            case rel => exact ⟨k + 1, by omega, by go_num, HS2, HB⟩
            case measure => simp [intOf]; omega
        · as_aux_lemma =>
          have hkni : ¬ (k : Int) < (ND : Int) := by omega
          have hke : k = Dl.length := by rw [← HND.out]; omega
          have HD1 := Lib.hid HD.out
          rw [hke, List.take_length] at HD1
          obtain ⟨DF, hDF⟩ : ∃ q, q = asc (gat kd Dl) := ⟨_, rfl⟩
          rw [← hDF] at HD1 HR
          have B4 : Hid (Below m w wr) := Lib.hid (B3.out.trans (HB.out.mono (by have := B3.out.size; have := HM.out; omega)))
          have HS4 := Lib.hid (HS3.out.keep HB.out)
          have C17w := Lib.hid (C17.out wr B4.out)
          clear hke HD HB hDF HS3
          go_wp2_with fail
          refine C17w.out.mono ?_
          rintro e w5 ⟨b5, u5, rfl, s5⟩
          have B5 : Hid (Below m w w5) := Lib.hid (B4.out.trans (b5.mono (by have := B4.out.size; have := HM.out; omega)))
          have HS5 := Lib.hid (HS4.out.keep b5)
          have HD5 := Lib.hid (HD1.out.keep b5)
          obtain ⟨NX, hNX⟩ : ∃ q, q = nextF l i := ⟨_, rfl⟩
          rw [← hNX] at s5 HR
          have HNX := Lib.hid hNX
          have SN := Lib.hid s5.1
          obtain ⟨hn0, sn, cn, en⟩ := SN.out.len
          obtain ⟨NN, hNN⟩ : ∃ q, q = NX.length := ⟨_, rfl⟩
          rw [← hNN] at en hn0
          subst en
          have HNN := Lib.hid hNN
          have BB5 := Lib.hid (Below.refl w5.heap.size w5)
          have HS6 : Hid (SlC w5 _ (addS (S i) (A1 ++ (NX.take 0).flatMap (stepS S DF)))) := Lib.hid (by rw [List.take_zero, List.flatMap_nil, List.append_nil]; exact HS5.out)
          clear b5 s5 hNX hNN C17w HD1 HS4 HS5
          go_wp2_with fail
          go_loopw [11, 18] (fun z11 z wr => ∃ (k : Nat), k ≤ NN ∧ z = .int .i64 (k : Int) ∧ Hid (SlC wr z11 (addS (S i) (A1 ++ (NX.take k).flatMap (stepS S DF)))) ∧ Hid (Below w5.heap.size w5 wr)) (fun _ z _ => NN - (intOf z).toNat)
          case atStart => exact ⟨0, Nat.zero_le _, rfl, HS6, BB5⟩
          case round =>
            obtain ⟨k, hk, rfl, HS, HB⟩ := hrel
            clear HS6 BB5
            by_cases hkn : k < NN
            · as_aux_lemma =>
              have hkni : (k : Int) < (NN : Int) := by omega
              have hkl : k < NX.length := by rw [← HNN.out]; exact hkn
              obtain ⟨bn, on_, rfl, hbn, hcn⟩ := SN.out.get (by omega)
              obtain ⟨x, hx⟩ : ∃ x, x = NX[k] := ⟨_, rfl⟩
              have HCX : Hid (∀ W, Below w5.heap.size w5 W → W.cell? ⟨bn, on_ + k, none⟩ = some (.int .i64 x)) := Lib.hid (fun W hW => by
                have := (hW.cell (p := ⟨bn, _, none⟩) hbn).trans (hcn k 0 hkl (by omega))
                rw [← hx] at this
                simpa [inC] using this)
              have hmem : x ∈ nextF l i := by rw [← HNX.out, hx]; exact List.getElem_mem _
              obtain ⟨⟨hx0, hxn⟩, _⟩ := (mem_nextF l i HIL.out x).1 hmem
              have hfm : (NX.take (k + 1)).flatMap (stepS S DF) = (NX.take k).flatMap (stepS S DF) ++ stepS S DF x := by
                rw [List.take_succ_eq_append_getElem hkl, List.flatMap_append, ← hx]
                simp
              obtain ⟨j, rfl⟩ : ∃ j : Nat, x = j := ⟨x.toNat, by omega⟩
              have hjn : j < n := by rw [HN.out]; omega
              have hjni : (j : Int) < (n : Int) := by omega
              have BW : Hid (∀ W, Below w5.heap.size w5 W → Below m w W) := Lib.hid (fun W hW => B5.out.trans (hW.mono (by have := B5.out.size; have := HM.out; omega)))
              obtain ⟨sj, cj, _, hsj2⟩ := HO.out w5 (BW.out w5 (Below.refl _ _)) j hjn
              have HCJ : Hid (∀ W, Below w5.heap.size w5 W → ∃ sj cj, W.cell? ⟨go, j, none⟩ = some (.slice sj (S j).length cj) ∧ SlAt W 1 inC (.slice sj (S j).length cj) (S j)) := Lib.hid (fun W hW => by
                obtain ⟨sj, cj, h1, h2⟩ := HO.out W (BW.out W hW) j hjn
                exact ⟨sj, cj, h1, h2.1⟩)
              have HFM := Lib.hid hfm
              obtain ⟨NJ, hNJ⟩ : ∃ q, q = (S j).length := ⟨_, rfl⟩
              rw [← hNJ] at HCJ
              have hNJ8 : NJ ≤ 9223372036854775807 := by rw [hNJ]; exact hsj2.1.len.1
              have HNJ := Lib.hid hNJ
              have HS6 : Hid (SlC wr _ (addS (S i) (A1 ++ (NX.take k).flatMap (stepS S DF) ++ ((S j).take 0).filter (fun y => decide (y ∉ DF))))) := Lib.hid (by rw [List.take_zero, List.filter_nil, List.append_nil]; exact HS.out)
              have HPRE : Hid (∀ x ∈ A1 ++ (NX.take k).flatMap (stepS S DF), x ∈ M) := Lib.hid (fun x hx => by
                rcases List.mem_append.1 hx with hx | hx
                · exact HA1.out x hx
                · obtain ⟨y, _, hy⟩ := List.mem_flatMap.1 hx
                  exact HMM.out _ x ((mem_stepS _ _ _ _).1 hy).1)
              clear hx hmem hx0 hxn hfm hsj2 hNJ hcn hbn HS hkl
              go_wp2_with fail
              go_loopw [11, 19] (fun z11 z W => ∃ (q : Nat), q ≤ NJ ∧ z = .int .i64 (q : Int) ∧ Hid (SlC W z11 (addS (S i) (A1 ++ (NX.take k).flatMap (stepS S DF) ++ ((S j).take q).filter (fun y => decide (y ∉ DF))))) ∧ Hid (Below w5.heap.size w5 W)) (fun _ z _ => NJ - (intOf z).toNat)
              case atStart => exact ⟨0, Nat.zero_le _, rfl, HS6, HB⟩
              case round =>
                obtain ⟨q, hq, rfl, HS, HB⟩ := hrel
                clear HS6
                have ck := HCX.out wr HB.out
                obtain ⟨sj, cj, cg, hsj⟩ := HCJ.out wr HB.out
                by_cases hqn : q < NJ
                · have hqni : (q : Int) < (NJ : Int) := by omega
                  have hql : q < (S j).length := by rw [← HNJ.out]; exact hqn
                  obtain ⟨bj, oj, rfl, hbj, hcj⟩ := hsj.get (by omega)
                  obtain ⟨y, hy⟩ : ∃ y, y = (S j)[q] := ⟨_, rfl⟩
                  have cq := hcj q 0 hql (by omega)
                  rw [← hy] at cq
                  simp only [inC, List.getElem?_cons_zero, Nat.add_zero, Nat.mul_one] at cq
                  have hys : y ∈ S j := by rw [hy]; exact List.getElem_mem _
                  have hts : (S j).take (q + 1) = (S j).take q ++ [y] := by rw [List.take_succ_eq_append_getElem hql, hy]
                  have HYS := Lib.hid hys
                  have HTS := Lib.hid hts
                  have HDw := Lib.hid (HD5.out.keep HB.out)
                  have C61 := Lib.hid (in_any DF y _ wr HDw.out.1)
                  clear hy hys hts hcj hbj hql hsj
                  go_wp2_with fail
                  refine C61.out.mono ?_
                  rintro e w6 ⟨rfl, b6⟩
                  have HS6 := Lib.hid (HS.out.keep b6)
                  have HB6 := Lib.hid (HB.out.trans (b6.mono HB.out.size))
                  have ck6 := HCX.out w6 HB6.out
                  have cg6 := (b6.cell (p := ⟨go, j, none⟩) (by have h1 := cg; unfold World.cell? at h1; dsimp only at h1; split at h1 <;> first | (rename_i hh; exact (Array.getElem?_eq_some_iff.1 hh).1) | cases h1)).trans cg
                  have cq6 := (b6.cell (p := ⟨bj, oj + q, none⟩) (by have h1 := cq; unfold World.cell? at h1; dsimp only at h1; split at h1 <;> first | (rename_i hh; exact (Array.getElem?_eq_some_iff.1 hh).1) | cases h1)).trans cq
                  clear b6 C61 HS HB HDw ck cg cq
                  by_cases hyd : y ∈ DF
                  · have HS7 := Lib.hid HS6.out
                    rw [← show ((S j).take (q + 1)).filter (fun y => decide (y ∉ DF)) = ((S j).take q).filter (fun y => decide (y ∉ DF)) by rw [HTS.out, List.filter_append, List.filter_cons_of_neg (by simp [hyd]), List.filter_nil, List.append_nil]] at HS7
                    rw [decide_eq_true hyd]
                    clear HS6 hyd HTS
                    go_wp2_with fail
                    go_roundw
                    case rel => exact ⟨q + 1, by omega, by go_num, HS7, HB6⟩
                    case measure => simp [intOf]; omega
                  · have HFQ : Hid (∀ x ∈ A1 ++ (NX.take k).flatMap (stepS S DF) ++ ((S j).take q).filter (fun y => decide (y ∉ DF)), x ∈ M) := Lib.hid (fun x hx => by
                      rcases List.mem_append.1 hx with hx | hx
                      · exact HPRE.out x hx
                      · exact HMM.out j x (List.mem_of_mem_take (List.mem_filter.1 hx).1))
                    have CI := Lib.hid (insert40 _ y _ w6 HS6.out (up_addS _ (HUP.out i)) (Nat.le_trans (addS_len (HUP.out i) (HMM.out i) HFQ.out) (by have := HML.out; omega)))
                    rw [← addS_snoc, List.append_assoc _ (((S j).take q).filter _), ← show ((S j).take (q + 1)).filter (fun y => decide (y ∉ DF)) = ((S j).take q).filter (fun y => decide (y ∉ DF)) ++ [y] by rw [HTS.out, List.filter_append, List.filter_cons_of_pos (by simp [hyd]), List.filter_nil]] at CI
                    rw [decide_eq_false hyd]
                    clear HFQ HS6 hyd HTS
                    go_wp2_with fail
                    refine CI.out.mono ?_
                    rintro e w7 ⟨b7, u7, rfl, s7⟩
                    have HS7 := Lib.hid s7
                    have HB7 := Lib.hid (HB6.out.trans (b7.mono HB6.out.size))
                    clear b7 s7 CI HB6
                    go_wp2_with fail
                    go_roundw
                    case rel => exact ⟨q + 1, by omega, by go_num, HS7, HB7⟩
                    case measure => simp [intOf]; omega
                · have hqni : ¬ (q : Int) < (NJ : Int) := by omega
                  have hqe : q = (S j).length := by rw [← HNJ.out]; omega
                  have HS7 := Lib.hid HS.out
                  rw [hqe, List.take_length, List.append_assoc, show (S j).filter (fun y => decide (y ∉ DF)) = stepS S DF (j : Int) by unfold stepS; rw [Int.toNat_natCast], ← HFM.out] at HS7
                  clear hqe HS hsj
                  go_wp2_with fail
                  go_roundw
                  case rel => exact ⟨k + 1, by omega, by go_num, HS7, HB⟩
                  case measure => simp [intOf]; omega
            · as_aux_lemma =>
              have hkni : ¬ (k : Int) < (NN : Int) := by omega
              have hke : k = NX.length := by rw [← HNN.out]; omega
              have HS7 := Lib.hid HS.out
              rw [hke, List.take_length] at HS7
              obtain ⟨A2, hA2⟩ : ∃ q, q = A1 ++ NX.flatMap (stepS S DF) := ⟨_, rfl⟩
              have HA2 : Hid (∀ x ∈ A2, x ∈ M) := Lib.hid (by
                rw [hA2]
                intro x hx
                rcases List.mem_append.1 hx with hx | hx
                · exact HA1.out x hx
                · obtain ⟨y, _, hy⟩ := List.mem_flatMap.1 hx
                  exact HMM.out _ x ((mem_stepS _ _ _ _).1 hy).1)
              rw [← hA2] at HS7 HR
              have B7 : Hid (Below m w wr) := Lib.hid (B5.out.trans (HB.out.mono (by have := B5.out.size; have := HM.out; omega)))
              clear hke HS HB hA2 SN HD5
              have HEND : ∀ W u, Below m w W → SlC W u (addS (S i) (A2 ++ handS l S t)) → RdR R w (.returned u) W := fun W u h1 h2 => ⟨by rw [← HM.out]; exact h1, u, rfl, by rw [HR.out]; exact h2⟩
              replace HEND := Lib.hid HEND
              by_cases hnt0 : nt = 0
              · have HT0 : Hid (handS l S t = []) := Lib.hid (by rw [List.eq_nil_of_length_eq_zero (HNT.out.symm.trans hnt0)]; rfl)
                subst hnt0
                try simp only [Int.cast_ofNat_Int] at *
                have HS8 := Lib.hid HS7.out
                rw [← show A2 ++ handS l S t = A2 by rw [HT0.out, List.append_nil]] at HS8
                clear HS7
                go_wp2_with fail
                go_ret
                exact HEND.out _ _ B7.out HS8.out
              · obtain ⟨d, rfl⟩ : ∃ d, nt = d + 1 := ⟨nt - 1, by omega⟩
                have hdl : d < t.length := by rw [← HNT.out]; omega
                have hlast : t.getLast? = some t[d] := by
                  rw [List.getLast?_eq_getElem?, ← HNT.out, Nat.add_sub_cancel, List.getElem?_eq_getElem hdl]
                obtain ⟨x, hx⟩ : ∃ x, x = t[d] := ⟨_, rfl⟩
                rw [← hx] at hlast
                obtain ⟨bt, ot, rfl, hbt, hct⟩ := HT.out.get (by omega)
                have ck := (B7.out.cell (p := ⟨bt, _, none⟩) (by rw [HM.out]; exact hbt)).trans (hct d 0 hdl (by omega))
                rw [← hx] at ck
                simp only [inC, List.getElem?_cons_zero, Nat.add_zero, Nat.mul_one] at ck
                have HLA : Hid (handS l S t = if inR l x then S x.toNat else []) := Lib.hid (by unfold handS; rw [hlast])
                clear hx hlast hbt hct hdl hnt0
                by_cases hx0 : 0 ≤ x
                · by_cases hxn : x < (n : Int)
                  · obtain ⟨j, rfl⟩ : ∃ j : Nat, x = j := ⟨x.toNat, by omega⟩
                    have hjn : j < n := by omega
                    have HTJ : Hid (handS l S t = S j) := Lib.hid (by rw [HLA.out, if_pos (by unfold inR; rw [← HN.out]; simp [hjn]), Int.toNat_natCast])
                    have HCJ : Hid (∀ W, Below m w W → ∃ sj cj, W.cell? ⟨go, j, none⟩ = some (.slice sj (S j).length cj) ∧ SlAt W 1 inC (.slice sj (S j).length cj) (S j)) := Lib.hid (fun W hW => by
                      obtain ⟨sj, cj, h1, h2⟩ := HO.out W hW j hjn
                      exact ⟨sj, cj, h1, h2.1⟩)
                    obtain ⟨sj, cj, _, hsj2⟩ := HCJ.out wr B7.out
                    obtain ⟨NJ, hNJ⟩ : ∃ q, q = (S j).length := ⟨_, rfl⟩
                    rw [← hNJ] at HCJ
                    have hNJ8 : NJ ≤ 9223372036854775807 := by rw [hNJ]; exact hsj2.len.1
                    have HNJ := Lib.hid hNJ
                    have HS8 : Hid (SlC wr _ (addS (S i) (A2 ++ (S j).take 0))) := Lib.hid (by rw [List.take_zero, List.append_nil]; exact HS7.out)
                    clear hsj2 hNJ HS7 HLA
                    go_wp2_with fail
                    go_loopw [11, 21] (fun z11 z W => ∃ (q : Nat), q ≤ NJ ∧ z = .int .i64 (q : Int) ∧ Hid (SlC W z11 (addS (S i) (A2 ++ (S j).take q))) ∧ Hid (Below m w W)) (fun _ z _ => NJ - (intOf z).toNat)
                    case atStart => exact ⟨0, Nat.zero_le _, rfl, HS8, B7⟩
                    case round =>
                      obtain ⟨q, hq, rfl, HS, HB⟩ := hrel
                      clear HS8 B7
                      obtain ⟨sj, cj, cg, hsj⟩ := HCJ.out wr HB.out
                      by_cases hqn : q < NJ
                      · have hqni : (q : Int) < (NJ : Int) := by omega
                        have hql : q < (S j).length := by rw [← HNJ.out]; exact hqn
                        obtain ⟨bj, oj, rfl, hbj, hcj⟩ := hsj.get (by omega)
                        obtain ⟨y, hy⟩ : ∃ y, y = (S j)[q] := ⟨_, rfl⟩
                        have cq := hcj q 0 hql (by omega)
                        rw [← hy] at cq
                        simp only [inC, List.getElem?_cons_zero, Nat.add_zero, Nat.mul_one] at cq
                        have HTS : Hid ((S j).take (q + 1) = (S j).take q ++ [y]) := Lib.hid (by rw [List.take_succ_eq_append_getElem hql, hy])
                        have HFQ : Hid (∀ x ∈ A2 ++ (S j).take q, x ∈ M) := Lib.hid (fun x hx => by
                          rcases List.mem_append.1 hx with hx | hx
                          · exact HA2.out x hx
                          · exact HMM.out j x (List.mem_of_mem_take hx))
                        have CI := Lib.hid (insert40 _ y _ wr HS.out (up_addS _ (HUP.out i)) (Nat.le_trans (addS_len (HUP.out i) (HMM.out i) HFQ.out) (by have := HML.out; omega)))
                        rw [← addS_snoc, List.append_assoc, ← HTS.out] at CI
                        clear HFQ HTS HS hy hcj hbj hql hsj
                        go_wp2_with fail
                        refine CI.out.mono ?_
                        rintro e w7 ⟨b7, u7, rfl, s7⟩
                        have HS7 := Lib.hid s7
                        have HB7 := Lib.hid (HB.out.trans (b7.mono (by have := HB.out.size; have := HM.out; omega)))
                        clear b7 s7 CI HB cg cq
                        go_wp2_with fail
                        go_roundw
                        case rel => exact ⟨q + 1, by omega, by go_num, HS7, HB7⟩
                        case measure => simp [intOf]; omega
                      · have hqni : ¬ (q : Int) < (NJ : Int) := by omega
                        have hqe : q = (S j).length := by rw [← HNJ.out]; omega
                        have HS7 := Lib.hid HS.out
                        rw [hqe, List.take_length, ← HTJ.out] at HS7
                        clear hqe HS hsj
                        go_wp2_with fail
                        go_ret
                        exact HEND.out _ _ HB.out HS7.out
                  · have HT0 : Hid (handS l S t = []) := Lib.hid (by rw [HLA.out, if_neg (by unfold inR; rw [← HN.out, decide_eq_false hxn, Bool.and_false]; simp)])
                    have HS8 := Lib.hid HS7.out
                    rw [← show A2 ++ handS l S t = A2 by rw [HT0.out, List.append_nil]] at HS8
                    clear HS7 HLA
                    go_wp2_with fail
                    go_loopw [11, 21] (fun z11 z W => z = .int .i64 0 ∧ Hid (SlC W z11 (addS (S i) (A2 ++ handS l S t))) ∧ Hid (Below m w W)) (fun _ _ _ => 0)
                    case atStart => exact ⟨rfl, HS8, B7⟩
                    case round =>
                      obtain ⟨rfl, HS9, HB⟩ := hrel
                      go_wp2_with fail
                      go_ret
                      exact HEND.out _ _ HB.out HS9.out
                · have HT0 : Hid (handS l S t = []) := Lib.hid (by rw [HLA.out, if_neg (by unfold inR; rw [decide_eq_false hx0, Bool.false_and]; simp)])
                  have HS8 := Lib.hid HS7.out
                  rw [← show A2 ++ handS l S t = A2 by rw [HT0.out, List.append_nil]] at HS8
                  clear HS7 HLA
                  go_wp2_with fail
                  go_loopw [11, 21] (fun z11 z W => z = .int .i64 0 ∧ Hid (SlC W z11 (addS (S i) (A2 ++ handS l S t))) ∧ Hid (Below m w W)) (fun _ _ _ => 0)
                  case atStart => exact ⟨rfl, HS8, B7⟩
                  case round =>
                    obtain ⟨rfl, HS9, HB⟩ := hrel
                    go_wp2_with fail
                    go_ret
                    exact HEND.out _ _ HB.out HS9.out
end Go.Proofs.YtekfnonjhcfdmaaDoor
