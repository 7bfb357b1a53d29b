/- needed: a path to an instruction that reads a place. -/
import Derived.Test.YtekfnonjhcfdmaaDoorNeed
import Derived.Test.YtekfnonjhcfdmaaDoorHasa
import Derived.Test.YtekfnonjhcfdmaaDoorRreach
import Derived.Test.YtekfnonjhcfdmaaDoorRefu
import Derived.Test.YtekfnonjhcfdmaaDoorFix1
import Derived.Deep.CutRange
namespace Go.Proofs.YtekfnonjhcfdmaaDoor
open Go.RowKit Go.Rt Go.Rw

/-- What needed returns. -/
def NdR (l : List In) (fr : List Int) (T : Nat → List Int) (kd n0 : Int) (i : Nat) (w : World) (e : Ending) (w' : World) : Prop := Below w.heap.size w w' ∧ ∃ r : Bool, e = .returned (.bool r) ∧ (r = true ↔ Lv l fr T kd i n0)
set_option maxRecDepth 100000 in
set_option maxHeartbeats 8000000 in
theorem needed30 (l : List In) (fr : List Int) (T : Nat → List Int) (kd n0 : Int) (i : Nat) (v tv : Value) (w : World) (h : InsAt w l v) (ht : LsAt w ((List.range l.length).map T) tv) (hi : i < l.length) (hr : Rch l fr i)
    (ho : ∀ i, Rch l fr i → ∀ x : Nat, (x : Int) ∈ T i → x < l.length → Rch l fr x) (hb1 : l.length ≤ 1048576) (hb2 : ∀ x ∈ l, x.cases.length ≤ 1048576) (hb3 : ∀ x ∈ l, x.src.length ≤ 1048576) (hb4 : ∀ x ∈ l, x.segs.length ≤ 1048576) (hb5 : owe l (fun _ => false) ≤ 90000000) :
    Calls Tryd.prog 30 #[v, tv, .int .i64 i, .agg #[.int .i64 kd, .int .i64 n0]] w (NdR l fr T kd n0 i w) := by
  obtain ⟨_, sa, cap, rfl⟩ := h.form
  obtain ⟨htl, st, ct, et⟩ := ht.form
  rw [List.length_map, List.length_range] at htl et
  obtain ⟨m, hm⟩ : ∃ q, q = w.heap.size := ⟨_, rfl⟩
  obtain ⟨b, o, rfl, hb, hc⟩ := h.get (by omega)
  have HTR : Hid (∃ bt ot, st = some ⟨bt, ot, none⟩ ∧ ∀ j, j < l.length → ∃ sj cj, (∀ W, Below m w W → W.cell? ⟨bt, ot + j, none⟩ = some (.slice sj (T j).length cj)) ∧ SlAt w 1 inC (.slice sj (T j).length cj) (T j)) := Lib.hid (by
    obtain ⟨Vs, h1, h2, h3⟩ := ht
    have hvl : Vs.length = l.length := by rw [h2, List.length_map, List.length_range]
    rw [et] at h1
    obtain ⟨bt, ot, e, hbt, hc⟩ := h1.get (by omega)
    refine ⟨bt, ot, e, fun i hi => ?_⟩
    have hi2 : i < Vs.length := by omega
    have k1 := hc i 0 hi2 (by omega)
    have k2 := h3 i hi2 (by rw [List.length_map, List.length_range]; exact hi)
    rw [List.getElem_map, List.getElem_range] at k2
    obtain ⟨_, si, ci, e4⟩ := k2.len
    rw [e4] at k2
    simp only [vlC, List.getElem?_cons_zero, Nat.add_zero, Nat.mul_one, e4] at k1
    exact ⟨si, ci, fun W hW => (hW.cell (p := ⟨bt, _, none⟩) (by rw [hm]; exact hbt)).trans k1, k2⟩)
  obtain ⟨bt, ot, est, hTR⟩ := HTR.out
  subst est
  subst et
  have HT := Lib.hid hTR
  have HC := Lib.hid hc
  have HBB : Hid (b < m) := Lib.hid (by rw [hm]; exact hb)
  have C16 := Lib.hid (fun (W : World) (i : Int) (hW : Below m w W) => next16 l (.slice (some ⟨b, o, none⟩) l.length cap) i W (h.keep (by rw [← hm]; exact hW)) (by omega) (fun x hx => Nat.le_trans (hb2 x hx) (by omega)))
  have HB3 := Lib.hid hb3
  have HB4 := Lib.hid hb4
  have HOP := Lib.hid ho
  have HIL := Lib.hid hi
  have HNI := Lib.hid (NI.begin l fr T kd n0 i hr)
  obtain ⟨n, hn⟩ : ∃ q, q = l.length := ⟨_, rfl⟩
  have HN := Lib.hid hn
  have HM := Lib.hid hm
  rw [← hn] at hb1 C16 ⊢
  have HOW : Hid (([(i : Int)] : List Int).length + owe l (fun _ => false) ≤ 100000000) := Lib.hid (by simp only [List.length_cons, List.length_nil]; omega)
  have mk2 := fun (W : World) => mk47 n (by omega) W
  have Z1 := World.size_alloc w (.cells #[.int .i64 kd, .int .i64 n0] 38)
  have Z2 := World.size_alloc (w.alloc (.cells #[.int .i64 kd, .int .i64 n0] 38)) (.cells (Array.replicate n (.bool false)) 4)
  rw [Z1] at Z2
  have X1 := ((Blk.new w 38 #[.int .i64 kd, .int .i64 n0]).alloc (.cells (Array.replicate n (.bool false)) 4)).alloc (.cells #[.int .i64 i] 3)
  have X2 := (Blk.new (w.alloc (.cells #[.int .i64 kd, .int .i64 n0] 38)) 4 (Array.replicate n (.bool false))).alloc (.cells #[.int .i64 i] 3)
  rw [Z1] at X2
  have X3 := Sl.lit (base := w.heap.size + 2) (e := 3) (c := inC) ((w.alloc (.cells #[.int .i64 kd, .int .i64 n0] 38)).alloc (.cells (Array.replicate n (.bool false)) 4)) [(i : Int)] in_len (by rw [Z2]; omega) (by unfold maxLen; simp)
  rw [Z2] at X3
  have B0 := (((Below.refl w.heap.size w).alloc (Nat.le_refl _) (.cells #[.int .i64 kd, .int .i64 n0] 38)).alloc (by rw [Z1]; omega) (.cells (Array.replicate n (.bool false)) 4)).alloc (by rw [Z2]; omega) (.cells #[.int .i64 i] 3)
  rw [← hm] at X1 X2 X3 B0 Z2
  have HX1 := Lib.hid X1
  have HX2 : Hid (Blk _ (m + 1) 4 ((List.range n).map fun i => Value.bool ((fun _ => false) i)).toArray) := Lib.hid (by
    have := blk_replicate X2
    simpa [List.map_const'] using this)
  have HX3 : Hid (Sl (((w.alloc (.cells #[.int .i64 kd, .int .i64 n0] 38)).alloc (.cells (Array.replicate n (.bool false)) 4)).alloc (.cells #[.int .i64 i] 3)) (m + 2) 3 1 inC (.slice (some ⟨m + 2, 0, none⟩) 1 1) [(i : Int)]) := Lib.hid X3
  have HX0 := Lib.hid B0
  have hz1 : (w.alloc (.cells #[.int .i64 kd, .int .i64 n0] 38)).heap.size = m + 1 := by rw [Z1, hm]
  clear h ht hi hr ho hb2 hb3 hb4 hb5 hb hc htl hTR HTR hn X1 X2 X3 B0 Z1
  go_enter Tryd.func30, Tryd.ntmps30
  go_upto_region 3 with fail
  rw [← hm]
  first | rw [show m + 1 + 1 = m + 2 from rfl] | skip
  generalize (((w.alloc (.cells #[.int .i64 kd, .int .i64 n0] 38)).alloc (.cells (Array.replicate n (.bool false)) 4)).alloc (.cells #[.int .i64 i] 3)) = w3 at HX1 HX2 HX3 HX0 ⊢
  clear hm mk2 hz1 Z2
  go_wp2_with fail
  go_loopw [10, 11] (fun z10 z11 wr => ∃ (k : Nat) (S : Option Addr) (N C : Nat) (Q : Nat → Bool) (O : List Int), k ≤ N ∧ z11 = .int .i64 (k : Int) ∧ z10 = .slice S N C ∧ Hid (N = O.length) ∧ Hid (Sl wr (m + 2) 3 1 inC (.slice S N C) O) ∧ Hid (Blk wr (m + 1) 4 ((List.range n).map fun i => Value.bool (Q i)).toArray) ∧ Hid (Blk wr m 38 #[.int .i64 kd, .int .i64 n0]) ∧ Hid (Below m w wr) ∧ Hid (NI l fr T kd n0 i Q O k) ∧ Hid (O.length + owe l Q ≤ 100000000)) (fun z10 z11 W => oweW l (m + 1) W + lenS z10 - (intOf z11).toNat)
  case atStart => exact ⟨0, _, _, _, _, _, Nat.zero_le _, rfl, rfl, Lib.hid rfl, HX3, HX2, HX1, HX0, HNI, HOW⟩
  case round =>
    obtain ⟨k, S, N, C, Q, O, hk, rfl, rfl, HNO, HO, HSN, HBL, HBS, HI, HCN⟩ := hrel
    clear HX1 HX2 HX3 HX0 HNI HOW
    by_cases hkn : k < N
    · have hkni : (k : Int) < (N : Int) := by omega
      have hkl : k < O.length := by rw [← HNO.out]; exact hkn
      have HMS := Lib.hid (oweW_eq HSN.out HN.out)
      have hn8 : N ≤ 100000000 := by have := HNO.out; have := HCN.out; omega
      obtain ⟨g7, hg7⟩ : ∃ g : Nat, S = some ⟨g, 0, none⟩ := by
        rcases HO.out.form with ⟨e, e2⟩ | ⟨g, cap, e, _⟩
        · rw [e2] at hkl
          simp at hkl
        · simp only [Value.slice.injEq] at e
          exact ⟨g, e.1⟩
      subst hg7
      have ck := HO.out.cell in_len k 0 hkl (by omega)
      obtain ⟨x, hx⟩ : ∃ x, x = O[k] := ⟨_, rfl⟩
      rw [← hx] at ck
      simp only [inC, List.getElem?_cons_zero, Nat.add_zero, Nat.mul_one] at ck
      have HKL := Lib.hid hkl
      have HXE := Lib.hid hx
      clear hx
      by_cases hx0 : x < 0
      · have HI2 := Lib.hid (HI.out.skip HKL.out (fun j e _ => by rw [← HXE.out] at e; omega))
        clear HI
        go_wp2_with fail
        go_roundw
        case rel => exact ⟨k + 1, _, _, _, Q, O, by omega, by go_num, rfl, HNO, HO, HSN, HBL, HBS, HI2, HCN⟩
        case measure => simp only [intOf, lenS]; omega
      · by_cases hxn : x < (n : Int)
        · obtain ⟨j, rfl⟩ : ∃ j : Nat, x = j := ⟨x.toNat, by omega⟩
          have hjn : j < n := by omega
          have hjl : j < l.length := by rw [← HN.out]; exact hjn
          have HQJ := Lib.hid (seen_cell HSN.out hjn)
          have HFZ := Lib.hid (HSN.out.frozen j)
          cases hq : Q j with
          | true =>
            have qj : wr.cell? ⟨m + 1, j, none⟩ = some (.bool true) := by rw [HQJ.out, hq]
            have HI2 := Lib.hid (HI.out.skip HKL.out (fun t e _ => by rw [← HXE.out] at e; obtain rfl : j = t := (by omega); exact hq))
            clear hq HI
            go_wp2_with fail
            go_roundw
            case rel => exact ⟨k + 1, _, _, _, Q, O, by omega, by go_num, rfl, HNO, HO, HSN, HBL, HBS, HI2, HCN⟩
            case measure => simp only [intOf, lenS]; omega
          | false =>
            have qj : wr.cell? ⟨m + 1, j, none⟩ = some (.bool false) := by rw [HQJ.out, hq]
            have qf : wr.frozen? ⟨m + 1, j, none⟩ = false := HFZ.out
            have HOW := Lib.hid (owe_mark hjl hq)
            have X2 := Lib.hid (HSN.out.set_ j (.bool true))
            rw [← map_setB Q n j hjn] at X2
            have X1 := Lib.hid (HBL.out.far (p := ⟨m + 1, j, none⟩) (show m ≠ m + 1 by omega) (.bool true))
            have B2 := Lib.hid (HBS.out.setCell (p := ⟨m + 1, j, none⟩) (Nat.le_succ m) (.bool true))
            have HO2 := Lib.hid (HO.out.only (bs := [m + 1]) (Only.setCell wr ⟨m + 1, j, none⟩ (.bool true) (by simp)) (fun g hg hm => by
              have := (HO.out.lt g hg).1
              simp only [List.mem_singleton] at hm
              omega))
            obtain ⟨f, hf, hfa, hcell⟩ := HC.out j hjl
            have q1 := HB3.out l[j] (List.getElem_mem hjl)
            have q2 := HB4.out l[j] (List.getElem_mem hjl)
            rw [← hf] at q1 q2
            have HFX := Lib.hid hf
            clear HSN HBL HBS HO HQJ HFZ hq
            go_upto_region 9 with fail
            clear ck qj qf
            generalize wr.setCell ⟨m + 1, j, none⟩ (.bool true) = wS at X2 X1 B2 HO2 ⊢
            have HUP : Hid (∀ W, Below wS.heap.size wS W → Below m w W) := Lib.hid (fun W hW => B2.out.trans (hW.mono (by have := B2.out.size; have := HM.out; omega)))
            have HCI : Hid (∀ W, Below wS.heap.size wS W → ∀ t, t < 10 → W.cell? ⟨b, o + j * 10 + t, none⟩ = (imC f)[t]?) := Lib.hid (fun W hW t ht => by rw [← hcell t ht]; exact (HUP.out W hW).cell (p := ⟨b, _, none⟩) HBB.out)
            have HBX : Hid (∀ W, Below wS.heap.size wS W → W.cell? ⟨m, 0, none⟩ = some (.int .i64 kd) ∧ W.cell? ⟨m, 1, none⟩ = some (.int .i64 n0)) := Lib.hid (fun W hW => ⟨(X1.out.below hW X1.out.lt).cell 0, (X1.out.below hW X1.out.lt).cell 1⟩)
            have HFA : Hid (∀ W, Below m w W → ImAt W f) := Lib.hid (fun W hW => hfa.keep (by rw [← HM.out]; exact hW))
            have C19 : Hid (∀ W, Below wS.heap.size wS W → Calls Tryd.prog 19 #[imV f] W (ArsR (usesF f.x) W)) := Lib.hid (fun W hW => uses19 f W (HFA.out W (HUP.out W hW)) (by omega))
            have C21 : Hid (∀ W, Below m w W → Calls Tryd.prog 21 #[imV f] W (ArsR (defsF f.x) W)) := Lib.hid (fun W hW => defs21 f W (HFA.out W hW))
            unfold imV at C19 C21
            have HCELL : Hid (∀ W, Below m w W → ∀ t, t < 10 → W.cell? ⟨b, o + j * 10 + t, none⟩ = (imC f)[t]?) := Lib.hid (fun W hW t ht => by rw [← hcell t ht]; exact hW.cell (p := ⟨b, _, none⟩) HBB.out)
            clear hfa hcell q1 q2 hf
            refine wp_region_held_drew (S := (fun w' => Below wS.heap.size wS w')) (by kernel_rfl) ((Below.refl _ _).drew) (fun hS => ?_)
            have HBD := Lib.hid (Below.refl wS.heap.size wS).drew
            generalize wS.drew = w0 at *
            refine tk (i := 0) (v := ?_) rfl (by rfl) ?_ (by assumption) ?_
            rotate_left
            · intro w hSw
              go_simp
              with_reducible rfl
            change wpAnyH _ _ _ _ _ _ _ (Act.put _ (some 45) _) _
            simp only [Act.put, List.setIfInBounds_toArray, List.set_cons_zero, List.set_cons_succ]
            refine tk (i := 1) (v := ?_) rfl (by rfl) ?_ (by assumption) ?_
            rotate_left
            · intro w hSw
              go_simp
              with_reducible rfl
            change wpAnyH _ _ _ _ _ _ _ (Act.put _ (some 46) _) _
            simp only [Act.put, List.setIfInBounds_toArray, List.set_cons_zero, List.set_cons_succ]
            refine tk (i := 2) (v := ?_) rfl (by rfl) ?_ (by assumption) ?_
            rotate_left
            · intro w hSw
              go_simp
              with_reducible rfl
            change wpAnyH _ _ _ _ _ _ _ (Act.put _ (some 47) _) _
            simp only [Act.put, List.setIfInBounds_toArray, List.set_cons_zero, List.set_cons_succ]
            refine tk (i := 3) (v := ?_) rfl (by rfl) ?_ (by assumption) ?_
            rotate_left
            · intro w hSw
              obtain ⟨e0, e1, e2, e3, e4, e5, e6, e7, e8, e9⟩ := cells10 (HCI.out _ hSw)
              go_simp
              with_reducible rfl
            change wpAnyH _ _ _ _ _ _ _ (Act.put _ (some 48) _) _
            simp only [Act.put, List.setIfInBounds_toArray, List.set_cons_zero, List.set_cons_succ]
            refine tk (i := 5) (v := ?_) rfl (by rfl) ?_ (by assumption) ?_
            rotate_left
            · intro w hSw
              obtain ⟨cc0, cc1⟩ := HBX.out _ hSw
              go_simp
              with_reducible rfl
            change wpAnyH _ _ _ _ _ _ _ (Act.put _ (some 50) _) _
            simp only [Act.put, List.setIfInBounds_toArray, List.set_cons_zero, List.set_cons_succ]
            refine wpAnyH_ready (rs := [4]) (by kernel_rfl) (by simp) ?_
            refine AllReadyH.cons rfl (fun K hK => ?_) AllReadyH.nil
            go_simp
            refine (C19.out w0 HBD.out).mono ?_
            rintro e w1 ⟨b1, v1, rfl, s1⟩
            have SV := Lib.hid (s1.at ar_len)
            replace HBD := Lib.hid (HBD.out.trans (b1.mono HBD.out.size))
            clear b1 s1
            go_wp2_with fail
            refine hK.out _ _ (HBD.out) (fun hS => ?_)
            clear hK K
            try simp only [Act.put, List.setIfInBounds_toArray, List.set_cons_zero, List.set_cons_succ]
            refine wpAnyH_ready (rs := [6]) (by kernel_rfl) (by simp) ?_
            refine AllReadyH.cons rfl (fun K hK => ?_) AllReadyH.nil
            go_simp
            have CH := Lib.hid (has52 (usesF f.x) ⟨kd, n0⟩ v1 w1 SV.out)
            unfold arV at CH
            dsimp only at CH
            refine CH.out.mono ?_
            rintro e w2 ⟨rfl, b2⟩
            replace HBD := Lib.hid (HBD.out.trans (b2.mono HBD.out.size))
            clear b2 SV CH
            obtain ⟨r, hr⟩ : ∃ q, q = decide ((⟨kd, n0⟩ : Ar) ∈ usesF f.x) := ⟨_, rfl⟩
            rw [← hr]
            have HRR := Lib.hid hr
            clear hr
            go_wp2_with fail
            refine hK.out _ _ (HBD.out) (fun hS => ?_)
            clear hK K
            try simp only [Act.put, List.setIfInBounds_toArray, List.set_cons_zero, List.set_cons_succ]
            refine wpAnyH_done (by kernel_rfl) ?_ _
            have HO3 := Lib.hid (HO2.out.below HBD.out (fun g hg => (HO2.out.lt g hg).2))
            have HS3 := Lib.hid (X2.out.below HBD.out X2.out.lt)
            have HL3 := Lib.hid (X1.out.below HBD.out X1.out.lt)
            have HB5 := Lib.hid (HUP.out w2 HBD.out)
            clear HO2 X2 X1 B2 HBD HUP HCI HBX C19
            cases r with
            | true =>
              have hmem : ⟨kd, n0⟩ ∈ usesF l[j] := by
                rw [← HFX.out]
                exact of_decide_eq_true HRR.out.symm
              have HLV := Lib.hid (HI.out.found HKL.out HXE.out.symm hjl hmem)
              clear hmem
              go_wp2_with fail
              go_ret
              exact ⟨by rw [← HM.out]; exact HB5.out, true, rfl, ⟨fun _ => HLV.out, fun _ => rfl⟩⟩
            | false =>
              have HNU : Hid (⟨kd, n0⟩ ∉ usesF l[j]) := Lib.hid (by
                rw [← HFX.out]
                exact of_decide_eq_false HRR.out.symm)
              have HI2 := Lib.hid (HI.out.pop HOP.out HKL.out HXE.out.symm hjl HNU.out)
              rw [← HFX.out] at HI2
              have HAL := Lib.hid (addN_len l T kd n0 j hjl)
              rw [← HFX.out] at HAL
              clear HRR HI
              go_upto_region 11 with fail
              obtain ⟨wS, hwS⟩ : ∃ q, q = w2 := ⟨_, rfl⟩
              rw [← hwS] at HO3 HS3 HL3 HB5 ⊢
              clear hwS
              have HUP : Hid (∀ W, Below wS.heap.size wS W → Below m w W) := Lib.hid (fun W hW => HB5.out.trans (hW.mono (by have := HB5.out.size; have := HM.out; omega)))
              have HCI : Hid (∀ W, Below wS.heap.size wS W → ∀ t, t < 10 → W.cell? ⟨b, o + j * 10 + t, none⟩ = (imC f)[t]?) := Lib.hid (fun W hW => HCELL.out W (HUP.out W hW))
              have HBX : Hid (∀ W, Below wS.heap.size wS W → W.cell? ⟨m, 0, none⟩ = some (.int .i64 kd) ∧ W.cell? ⟨m, 1, none⟩ = some (.int .i64 n0)) := Lib.hid (fun W hW => ⟨(HL3.out.below hW HL3.out.lt).cell 0, (HL3.out.below hW HL3.out.lt).cell 1⟩)
              have C21' : Hid (∀ W, Below wS.heap.size wS W → _) := Lib.hid (fun W hW => C21.out W (HUP.out W hW))
              refine wp_region_held_drew (S := (fun w' => Below wS.heap.size wS w')) (by kernel_rfl) ((Below.refl _ _).drew) (fun hS => ?_)
              have HBD := Lib.hid (Below.refl wS.heap.size wS).drew
              generalize wS.drew = w0 at *
              refine tk (i := 0) (v := ?_) rfl (by rfl) ?_ (by assumption) ?_
              rotate_left
              · intro w hSw
                go_simp
                with_reducible rfl
              change wpAnyH _ _ _ _ _ _ _ (Act.put _ (some 52) _) _
              simp only [Act.put, List.setIfInBounds_toArray, List.set_cons_zero, List.set_cons_succ]
              refine tk (i := 1) (v := ?_) rfl (by rfl) ?_ (by assumption) ?_
              rotate_left
              · intro w hSw
                go_simp
                with_reducible rfl
              change wpAnyH _ _ _ _ _ _ _ (Act.put _ (some 53) _) _
              simp only [Act.put, List.setIfInBounds_toArray, List.set_cons_zero, List.set_cons_succ]
              refine tk (i := 2) (v := ?_) rfl (by rfl) ?_ (by assumption) ?_
              rotate_left
              · intro w hSw
                go_simp
                with_reducible rfl
              change wpAnyH _ _ _ _ _ _ _ (Act.put _ (some 54) _) _
              simp only [Act.put, List.setIfInBounds_toArray, List.set_cons_zero, List.set_cons_succ]
              refine tk (i := 3) (v := ?_) rfl (by rfl) ?_ (by assumption) ?_
              rotate_left
              · intro w hSw
                obtain ⟨e0, e1, e2, e3, e4, e5, e6, e7, e8, e9⟩ := cells10 (HCI.out _ hSw)
                go_simp
                with_reducible rfl
              change wpAnyH _ _ _ _ _ _ _ (Act.put _ (some 55) _) _
              simp only [Act.put, List.setIfInBounds_toArray, List.set_cons_zero, List.set_cons_succ]
              refine tk (i := 5) (v := ?_) rfl (by rfl) ?_ (by assumption) ?_
              rotate_left
              · intro w hSw
                obtain ⟨cc0, cc1⟩ := HBX.out _ hSw
                go_simp
                with_reducible rfl
              change wpAnyH _ _ _ _ _ _ _ (Act.put _ (some 57) _) _
              simp only [Act.put, List.setIfInBounds_toArray, List.set_cons_zero, List.set_cons_succ]
              refine wpAnyH_ready (rs := [4]) (by kernel_rfl) (by simp) ?_
              refine AllReadyH.cons rfl (fun K hK => ?_) AllReadyH.nil
              go_simp
              refine (C21'.out w0 HBD.out).mono ?_
              rintro e w1 ⟨b1, v1, rfl, s1⟩
              have SV := Lib.hid (s1.at ar_len)
              replace HBD := Lib.hid (HBD.out.trans (b1.mono HBD.out.size))
              clear b1 s1
              go_wp2_with fail
              refine hK.out _ _ (HBD.out) (fun hS => ?_)
              clear hK K
              try simp only [Act.put, List.setIfInBounds_toArray, List.set_cons_zero, List.set_cons_succ]
              refine wpAnyH_ready (rs := [6]) (by kernel_rfl) (by simp) ?_
              refine AllReadyH.cons rfl (fun K hK => ?_) AllReadyH.nil
              go_simp
              have CH := Lib.hid (has52 (defsF f.x) ⟨kd, n0⟩ v1 w1 SV.out)
              unfold arV at CH
              dsimp only at CH
              refine CH.out.mono ?_
              rintro e w2 ⟨rfl, b2⟩
              replace HBD := Lib.hid (HBD.out.trans (b2.mono HBD.out.size))
              clear b2 SV CH
              obtain ⟨r, hr⟩ : ∃ q, q = decide ((⟨kd, n0⟩ : Ar) ∈ defsF f.x) := ⟨_, rfl⟩
              rw [← hr]
              have HRR := Lib.hid hr
              clear hr
              go_wp2_with fail
              refine hK.out _ _ (HBD.out) (fun hS => ?_)
              clear hK K
              try simp only [Act.put, List.setIfInBounds_toArray, List.set_cons_zero, List.set_cons_succ]
              refine tk (i := 7) (v := ?_) rfl (by rfl) ?_ (by assumption) ?_
              rotate_left
              · intro w hSw
                go_simp
                with_reducible rfl
              change wpAnyH _ _ _ _ _ _ _ (Act.put _ (some 59) _) _
              simp only [Act.put, List.setIfInBounds_toArray, List.set_cons_zero, List.set_cons_succ]
              refine wpAnyH_done (by kernel_rfl) ?_ _
              have HO2 := Lib.hid (HO3.out.below HBD.out (fun g hg => (HO3.out.lt g hg).2))
              have HSN := Lib.hid (HS3.out.below HBD.out HS3.out.lt)
              have HBL := Lib.hid (HL3.out.below HBD.out HL3.out.lt)
              have HBS := Lib.hid (HUP.out w2 HBD.out)
              have HAD : Hid (addN l T kd n0 j f.x = (if r then [] else nextF l j) ++ (T j).getLast?.toList) := Lib.hid (by
                unfold addN
                rw [HRR.out]
                by_cases hd : (⟨kd, n0⟩ : Ar) ∈ defsF f.x
                · rw [if_pos hd, decide_eq_true hd]; rfl
                · rw [if_neg hd, decide_eq_false hd]; rfl)
              clear HO3 HS3 HL3 HB5 HBD HUP HCI HBX HRR HCELL C21 C21' HFA
              obtain ⟨AD, hAD⟩ : ∃ q, q = addN l T kd n0 j f.x := ⟨_, rfl⟩
              rw [← hAD] at HAD HI2 HAL
              clear hAD
              have HLE : Hid (O.length + AD.length + 1 ≤ 100000000) := Lib.hid (by have := HAL.out; have := HOW.out; have := HCN.out; omega)
              go_upto_if 59 with fail
              go_cut [10] from 60 to 85 (fun z wx => ∃ (S : Option Addr) (N C : Nat), z = .slice S N C ∧ N ≤ 100000000 ∧ Hid (N = (O ++ (if r then [] else nextF l j)).length) ∧ Hid (Sl wx (m + 2) 3 1 inC (.slice S N C) (O ++ (if r then [] else nextF l j))) ∧ Hid (Blk wx (m + 1) 4 ((List.range n).map fun i => Value.bool (setB Q j i)).toArray) ∧ Hid (Blk wx m 38 #[.int .i64 kd, .int .i64 n0]) ∧ Hid (Below m w wx))
              case first =>
                cases r with
                | true =>
                  have HOX : Hid (Sl w2 (m + 2) 3 1 inC _ (O ++ (if true then [] else nextF l j))) := Lib.hid (by rw [if_pos rfl, List.append_nil]; exact HO2.out)
                  have HNX : Hid (N = (O ++ (if true then [] else nextF l j)).length) := Lib.hid (by rw [if_pos rfl, List.append_nil]; exact HNO.out)
                  clear HO2 HAD
                  go_wp2_with fail
                  go_meet
                  exact ⟨_, _, _, rfl, hn8, HNX, HOX, HSN, HBL, HBS⟩
                | false =>
                  have CN := Lib.hid (C16.out w2 (j : Int) HBS.out)
                  go_wp2_with fail
                  refine CN.out.mono ?_
                  rintro e w5 ⟨b5, u5, rfl, s5⟩
                  have h1 := HBS.out.size
                  have h2 := HSN.out.lt
                  have o5 := HO2.out.below b5 (fun g hg => (HO2.out.lt g hg).2)
                  have a5 := s5.at in_len
                  obtain ⟨_, su, cu, eu⟩ := a5.len
                  subst eu
                  have hlen : O.length + (nextF l j).length + 1 ≤ 100000000 := by
                    have := HLE.out
                    rw [HAD.out, List.length_append] at this
                    simp only [Bool.false_eq_true, if_false] at this
                    omega
                  obtain ⟨s6, c6, w6, r6, o6, g6⟩ := apps23 o5 a5 (by omega) (by have := b5.size; omega)
                  have b6 : Below (m + 2) w5 w6 := (grown_only g6).below (fun r hr => by rw [Option.mem_toList] at hr; exact (o5.lt r hr).1) (by have := b5.size; omega)
                  have b56 := (b5.mono (show m + 2 ≤ w2.heap.size by omega)).trans b6
                  obtain ⟨N6, hN6⟩ : ∃ q, q = (O ++ nextF l j).length := ⟨_, rfl⟩
                  rw [← hN6] at r6 o6
                  have hn6 : N6 ≤ 100000000 := by rw [hN6, List.length_append]; omega
                  have HR6 := Lib.hid r6
                  have HOX : Hid (Sl w6 (m + 2) 3 1 inC _ (O ++ (if false then [] else nextF l j))) := Lib.hid (by rw [if_neg (by simp)]; exact o6)
                  have HNX : Hid (N6 = (O ++ (if false then [] else nextF l j)).length) := Lib.hid (by rw [if_neg (by simp)]; exact hN6)
                  have HS6 := Lib.hid (show Blk w6 (m + 1) 4 _ from (b56.block (m + 1) (by omega)).trans HSN.out)
                  have HL6 := Lib.hid (show Blk w6 m 38 _ from (b56.block m (by omega)).trans HBL.out)
                  have HB6 := Lib.hid (HBS.out.trans (b56.mono (by omega)))
                  clear h1 h2 o5 a5 s5 hlen g6 b6 b56 b5 hN6 r6 o6 HO2 HSN HBL HBS CN HAD
                  go_wp2_with (at_builtin; refine wpList_append_run rfl _ _ 23 23 rfl rfl rfl HR6.out ?_)
                  go_meet
                  exact ⟨_, _, _, rfl, hn6, HNX, HOX, HS6, HL6, HB6⟩
              case rest =>
                obtain ⟨S1, N1, C1, rfl, hn1, HN1, HO, HSN', HBL', HBS'⟩ := hcut
                clear HO2 HSN HBL HBS
                obtain ⟨O1, hO1⟩ : ∃ q, q = O ++ (if r then [] else nextF l j) := ⟨_, rfl⟩
                rw [← hO1] at HN1 HO
                have HADO : Hid (O ++ AD = O1 ++ (T j).getLast?.toList) := Lib.hid (by rw [hO1, HAD.out, List.append_assoc])
                have HSN := HSN'
                have HBL := HBL'
                have HBS := HBS'
                clear HSN' HBL' HBS' hO1 HAD
                obtain ⟨sj, cj, hcg, hsj⟩ := HT.out j hjl
                obtain ⟨nt, hnt⟩ : ∃ q, q = (T j).length := ⟨_, rfl⟩
                rw [← hnt] at hcg hsj
                have HCG := Lib.hid hcg
                have cg := hcg wc HBS.out
                clear hcg
                have HNT := Lib.hid hnt
                have hnt8 : nt ≤ 9223372036854775807 := by rw [hnt]; exact hsj.len.1
                by_cases hnt0 : nt = 0
                · have HNI2 : Hid (NI l fr T kd n0 i (setB Q j) O1 (k + 1)) := Lib.hid (by
                    have := HI2.out
                    rw [HADO.out, List.eq_nil_of_length_eq_zero (hnt.symm.trans hnt0)] at this
                    simpa using this)
                  have HLO : Hid (O1.length = O.length + AD.length) := Lib.hid (by
                    have := congrArg List.length HADO.out
                    rw [List.eq_nil_of_length_eq_zero (hnt.symm.trans hnt0)] at this
                    simpa using this.symm)
                  have HMS2 := Lib.hid (oweW_eq HSN.out HN.out)
                  subst hnt0
                  clear hnt HI2 hsj HADO
                  try simp only [Int.cast_ofNat_Int] at *
                  go_wp2_with fail
                  go_roundw
                  case rel => exact ⟨k + 1, _, _, _, setB Q j, O1, by have := HN1.out; have := HLO.out; have := HNO.out; omega, by go_num, rfl, HN1, HO, HSN, HBL, HBS, HNI2, Lib.hid (by have := HLO.out; have := HOW.out; have := HCN.out; have := HAL.out; omega)⟩
                  case measure => simp only [intOf, lenS]; rw [HMS.out, HMS2.out]; have := HLO.out; have := HOW.out; have := HN1.out; have := HNO.out; have := HAL.out; omega
                · obtain ⟨d, rfl⟩ : ∃ d, nt = d + 1 := ⟨nt - 1, by omega⟩
                  have hdl : d < (T j).length := by rw [← hnt]; omega
                  have hlast : (T j).getLast? = some (T j)[d] := by
                    rw [List.getLast?_eq_getElem?, ← hnt, Nat.add_sub_cancel, List.getElem?_eq_getElem hdl]
                  obtain ⟨x, hx⟩ : ∃ x, x = (T j)[d] := ⟨_, rfl⟩
                  rw [← hx] at hlast
                  obtain ⟨bj, oj, rfl, hbj, hcj⟩ := hsj.get (by omega)
                  have cx := hcj d 0 hdl (by omega)
                  rw [← hx] at cx
                  simp only [inC, List.getElem?_cons_zero, Nat.add_zero, Nat.mul_one] at cx
                  have HNI2 : Hid (NI l fr T kd n0 i (setB Q j) (O1 ++ [x]) (k + 1)) := Lib.hid (by
                    have := HI2.out
                    rw [HADO.out, hlast] at this
                    simpa using this)
                  have HLO : Hid (O1.length + 1 = O.length + AD.length) := Lib.hid (by
                    have := congrArg List.length HADO.out
                    rw [hlast] at this
                    simpa using this.symm)
                  clear hnt HI2 hsj HADO hnt0 hdl hlast hx hcj
                  have HCT : Hid (∀ W, Below m w W → W.cell? ⟨bt, ot + j, none⟩ = some (.slice (some ⟨bj, oj, none⟩) (d + 1) cj)) := Lib.hid (fun W hW => HCG.out W hW)
                  have HCL : Hid (∀ W, Below m w W → W.cell? ⟨bj, oj + d, none⟩ = some (.int .i64 x)) := Lib.hid (fun W hW => (hW.cell (p := ⟨bj, _, none⟩) (by rw [HM.out]; exact hbj)).trans cx)
                  clear cx hbj HCG
                  have hwd : IntKind.i64.wrap (d : Int) = (d : Int) := wrap_id (d : Int) (by omega)
                  have hdd : (d : Int) < (d : Int) + 1 := by omega
                  go_upto_region 14 with fail
                  clear cg
                  refine wp_region_held_drew (S := (fun w' => Below m w w')) (by kernel_rfl) (HBS.out.drew) (fun hS => ?_)
                  have HDS := Lib.hid (show Sl wc.drew (m + 2) 3 1 inC _ O1 from HO.out.same (Nat.le_refl _) (fun _ _ => rfl))
                  have HDB := Lib.hid HBS.out.drew
                  have HDX := Lib.hid (show Blk wc.drew (m + 1) 4 _ from HSN.out)
                  have HDL := Lib.hid (show Blk wc.drew m 38 _ from HBL.out)
                  clear HO HSN HBL HBS
                  generalize wc.drew = w0 at *
                  refine tk (i := 0) (v := ?_) rfl (by rfl) ?_ (by assumption) ?_
                  rotate_left
                  · intro w hSw
                    go_simp
                    with_reducible rfl
                  change wpAnyH _ _ _ _ _ _ _ (Act.put _ (some 71) _) _
                  simp only [Act.put, List.setIfInBounds_toArray, List.set_cons_zero, List.set_cons_succ]
                  refine tk (i := 1) (v := ?_) rfl (by rfl) ?_ (by assumption) ?_
                  rotate_left
                  · intro w hSw
                    go_simp
                    with_reducible rfl
                  change wpAnyH _ _ _ _ _ _ _ (Act.put _ (some 72) _) _
                  simp only [Act.put, List.setIfInBounds_toArray, List.set_cons_zero, List.set_cons_succ]
                  refine tk (i := 2) (v := ?_) rfl (by rfl) ?_ (by assumption) ?_
                  rotate_left
                  · intro w hSw
                    go_simp
                    with_reducible rfl
                  change wpAnyH _ _ _ _ _ _ _ (Act.put _ (some 73) _) _
                  simp only [Act.put, List.setIfInBounds_toArray, List.set_cons_zero, List.set_cons_succ]
                  refine tk (i := 3) (v := ?_) rfl (by rfl) ?_ (by assumption) ?_
                  rotate_left
                  · intro w hSw
                    go_simp
                    with_reducible rfl
                  change wpAnyH _ _ _ _ _ _ _ (Act.put _ (some 74) _) _
                  simp only [Act.put, List.setIfInBounds_toArray, List.set_cons_zero, List.set_cons_succ]
                  refine tk (i := 4) (v := ?_) rfl (by rfl) ?_ (by assumption) ?_
                  rotate_left
                  · intro w hSw
                    have cc := HCT.out _ hSw
                    go_simp
                    with_reducible rfl
                  change wpAnyH _ _ _ _ _ _ _ (Act.put _ (some 75) _) _
                  simp only [Act.put, List.setIfInBounds_toArray, List.set_cons_zero, List.set_cons_succ]
                  refine tk (i := 5) (v := ?_) rfl (by rfl) ?_ (by assumption) ?_
                  rotate_left
                  · intro w hSw
                    go_simp
                    with_reducible rfl
                  change wpAnyH _ _ _ _ _ _ _ (Act.put _ (some 76) _) _
                  simp only [Act.put, List.setIfInBounds_toArray, List.set_cons_zero, List.set_cons_succ]
                  refine tk (i := 6) (v := ?_) rfl (by rfl) ?_ (by assumption) ?_
                  rotate_left
                  · intro w hSw
                    go_simp
                    with_reducible rfl
                  change wpAnyH _ _ _ _ _ _ _ (Act.put _ (some 77) _) _
                  simp only [Act.put, List.setIfInBounds_toArray, List.set_cons_zero, List.set_cons_succ]
                  refine tk (i := 7) (v := ?_) rfl (by rfl) ?_ (by assumption) ?_
                  rotate_left
                  · intro w hSw
                    go_simp
                    with_reducible rfl
                  change wpAnyH _ _ _ _ _ _ _ (Act.put _ (some 78) _) _
                  simp only [Act.put, List.setIfInBounds_toArray, List.set_cons_zero, List.set_cons_succ]
                  refine tk (i := 8) (v := ?_) rfl (by rfl) ?_ (by assumption) ?_
                  rotate_left
                  · intro w hSw
                    have cc := HCT.out _ hSw
                    go_simp
                    with_reducible rfl
                  change wpAnyH _ _ _ _ _ _ _ (Act.put _ (some 79) _) _
                  simp only [Act.put, List.setIfInBounds_toArray, List.set_cons_zero, List.set_cons_succ]
                  refine tk (i := 9) (v := ?_) rfl (by rfl) ?_ (by assumption) ?_
                  rotate_left
                  · intro w hSw
                    go_simp
                    with_reducible rfl
                  change wpAnyH _ _ _ _ _ _ _ (Act.put _ (some 80) _) _
                  simp only [Act.put, List.setIfInBounds_toArray, List.set_cons_zero, List.set_cons_succ]
                  refine tk (i := 10) (v := ?_) rfl (by rfl) ?_ (by assumption) ?_
                  rotate_left
                  · intro w hSw
                    go_simp
                    with_reducible rfl
                  change wpAnyH _ _ _ _ _ _ _ (Act.put _ (some 81) _) _
                  simp only [Act.put, List.setIfInBounds_toArray, List.set_cons_zero, List.set_cons_succ]
                  refine tk (i := 11) (v := ?_) rfl (by rfl) ?_ (by assumption) ?_
                  rotate_left
                  · intro w hSw
                    go_simp
                    with_reducible rfl
                  change wpAnyH _ _ _ _ _ _ _ (Act.put _ (some 82) _) _
                  simp only [Act.put, List.setIfInBounds_toArray, List.set_cons_zero, List.set_cons_succ]
                  refine tk (i := 12) (v := ?_) rfl (by rfl) ?_ (by assumption) ?_
                  rotate_left
                  · intro w hSw
                    have cc := HCL.out _ hSw
                    go_simp
                    with_reducible rfl
                  change wpAnyH _ _ _ _ _ _ _ (Act.put _ (some 83) _) _
                  simp only [Act.put, List.setIfInBounds_toArray, List.set_cons_zero, List.set_cons_succ]
                  obtain ⟨sx2, cx2, w4, hr2, s5, b4⟩ := lit23 HDS.out [x] (by have := HLO.out; have := HLE.out; simp only [List.length_cons, List.length_nil]; omega) HDX.out.lt
                  obtain ⟨N7, hN7⟩ : ∃ q, q = (O1 ++ [x]).length := ⟨_, rfl⟩
                  rw [← hN7] at hr2 s5
                  have HR2 := Lib.hid hr2
                  have HS2 := Lib.hid s5
                  have HN7 := Lib.hid hN7
                  have HB2 := Lib.hid (HDB.out.trans (b4.mono (by omega)))
                  have HS1 := Lib.hid (show Blk w4 (m + 1) 4 _ from (b4.block (m + 1) (by omega)).trans HDX.out)
                  have HX1 := Lib.hid (show Blk w4 m 38 _ from (b4.block m (by omega)).trans HDL.out)
                  have HN8 : Hid (N7 = O.length + AD.length) := Lib.hid (by rw [hN7, List.length_append]; exact HLO.out)
                  have HZL : Hid (m ≤ w0.heap.size) := Lib.hid (by have := HDX.out.lt; omega)
                  clear hr2 s5 hN7 b4 HDS HDX HDL
                  refine wpAnyH_ready (rs := [13]) (by kernel_rfl) (by simp) ?_
                  refine AllReadyH.cons rfl (fun K hK => ?_) AllReadyH.nil
                  go_simp
                  refine hK.out _ _ (HDB.out.alloc HZL.out _) (fun hS => ?_)
                  clear hK K
                  try simp only [Act.put, List.setIfInBounds_toArray, List.set_cons_zero, List.set_cons_succ]
                  refine wpAnyH_ready (rs := [14]) (by kernel_rfl) (by simp) ?_
                  refine AllReadyH.cons rfl (fun K hK => ?_) AllReadyH.nil
                  refine step_append_run rfl _ _ 23 23 rfl rfl rfl HR2.out ?_
                  change K (Act.put _ (some 85) _) _
                  refine hK.out _ _ (HB2.out) (fun hS => ?_)
                  clear hK K
                  try simp only [Act.put, List.setIfInBounds_toArray, List.set_cons_zero, List.set_cons_succ]
                  refine wpAnyH_ready (rs := [15]) (by kernel_rfl) (by simp) ?_
                  refine AllReadyH.cons rfl (fun K hK => ?_) AllReadyH.nil
                  go_simp
                  refine hK.out _ _ (HB2.out) (fun hS => ?_)
                  clear hK K
                  try simp only [Act.put, List.setIfInBounds_toArray, List.set_cons_zero, List.set_cons_succ]
                  refine wpAnyH_done (by kernel_rfl) ?_ _
                  have HMS2 := Lib.hid (oweW_eq HS1.out HN.out)
                  go_wp2_with fail
                  go_roundw
                  case rel => exact ⟨k + 1, _, _, _, setB Q j, O1 ++ [x], by have := HN8.out; have := HNO.out; omega, by go_num, rfl, HN7, HS2, HS1, HX1, HB2, HNI2, Lib.hid (by have := HN7.out; have := HN8.out; have := HOW.out; have := HCN.out; have := HAL.out; omega)⟩
                  case measure => simp only [intOf, lenS]; rw [HMS.out, HMS2.out]; have := HN8.out; have := HOW.out; have := HNO.out; have := HAL.out; omega
        · have HI2 := Lib.hid (HI.out.skip HKL.out (fun j e hl => by rw [← HXE.out] at e; have := HN.out; omega))
          clear HI
          go_wp2_with fail
          go_roundw
          case rel => exact ⟨k + 1, _, _, _, Q, O, by omega, by go_num, rfl, HNO, HO, HSN, HBL, HBS, HI2, HCN⟩
          case measure => simp only [intOf, lenS]; omega
    · have hkni : ¬ (k : Int) < (N : Int) := by omega
      have HNL := Lib.hid (HI.out.fin (by have := HNO.out; omega) HIL.out)
      go_wp2_with fail
      go_ret
      exact ⟨by rw [← HM.out]; exact HBS.out, false, rfl, ⟨fun h => (by cases h), fun h => absurd h HNL.out⟩⟩
end Go.Proofs.YtekfnonjhcfdmaaDoor
