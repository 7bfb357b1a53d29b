/- FlowSteps: what every instruction reads and writes, and what may follow it. -/
import Derived.Test.YtekfnonjhcfdmaaDoorClosed
import Derived.Test.YtekfnonjhcfdmaaDoorRefu
import Derived.Test.YtekfnonjhcfdmaaDoorRefn
import Derived.Test.YtekfnonjhcfdmaaDoorRound
namespace Go.Proofs.YtekfnonjhcfdmaaDoor
open Go.RowKit Go.Shelf Go.Rt Go.Rw

set_option maxRecDepth 100000 in
set_option maxHeartbeats 8000000 in
theorem steps4 (l : List In) (v : Value) (w : World) (h : InsAt w l v) (hb1 : l.length ≤ 1048576) (hb2 : ∀ x ∈ l, x.cases.length ≤ 1048576) (hb3 : ∀ x ∈ l, x.src.length ≤ 1048576) (hb4 : ∀ x ∈ l, x.segs.length ≤ 1048576)
    (hT : TabAt 0 Lib.deBruijn64tab w) (hz : 0 < w.heap.size) : Calls Tryd.prog 4 #[v] w (Yes w) := by
  obtain ⟨_, sa, cap, rfl⟩ := h.form
  have CL := Lib.hid (large_any l (.slice sa l.length cap) (.slice none 0 0) 0 none 0 w h rfl (by omega))
  have CA := Lib.hid (fun (W : World) (hW : Below w.heap.size w W) => awake11 W (tab_below hT hW hz) (Nat.lt_of_lt_of_le hz hW.size))
  obtain ⟨n, hn⟩ : ∃ q, q = l.length := ⟨_, rfl⟩
  have C16 := Lib.hid (fun (W : World) (i : Int) (hW : Below w.heap.size w W) => next16 l (.slice sa l.length cap) i W (h.keep hW) (by omega) (fun x hx => Nat.le_trans (hb2 x hx) (by omega)))
  have C17 := Lib.hid (fun (W : World) (i : Int) (hW : Below w.heap.size w W) => rnext17 l (.slice sa l.length cap) i W (h.keep hW) hb1 hb2)
  rw [← hn] at hb1 CL C16 C17 h ⊢
  obtain ⟨m, hm⟩ : ∃ q, q = w.heap.size := ⟨_, rfl⟩
  have HM := Lib.hid hm
  have HN := Lib.hid hn
  have HH := Lib.hid h
  have HB2 := Lib.hid hb3
  have HB4 := Lib.hid hb4
  have HBM : Hid (Below m w w) := Lib.hid (Below.refl _ _)
  rw [← hm] at CA C16 C17
  clear h hb2 hb3 hb4 hT hz hn hm
  go_enter Tryd.func4, Tryd.ntmps4
  go_wp2_with fail
  refine CL.out.mono ?_
  rintro e w1 ⟨b1, b, rfl, _⟩
  have B1 : Hid (Below m w w1) := Lib.hid (by rw [HM.out]; exact b1)
  clear b1 CL
  cases b with
  | true =>
    go_wp2_with fail
    refine (CA.out w1 B1.out).mono ?_
    rintro e w2 ⟨rfl, b2⟩
    have B2 : Hid (Below w.heap.size w w2) := Lib.hid (by have h1 := B1.out.trans (b2.mono (by have := B1.out.size; have := HM.out; omega)); rwa [HM.out] at h1)
    clear b2
    go_wp2_with fail
    go_ret
    exact ⟨rfl, B2.out⟩
  | false =>
    go_wp2_with fail
    go_loopw [3] (fun z W => ∃ (i : Int), -1 ≤ i ∧ i ≤ (n : Int) + 1 ∧ z = .int .i64 i ∧ Hid (Below m w W)) (fun z _ => ((n : Int) + 1 - intOf z).toNat)
    case atStart => exact ⟨-1, by omega, by omega, rfl, B1⟩
    case round =>
      obtain ⟨i, hi0, hi1, rfl, HB⟩ := hrel
      clear B1
      by_cases hle : i ≤ (n : Int)
      · have CI := Lib.hid (C16.out wr i HB.out)
        go_wp2_with fail
        refine CI.out.mono ?_
        rintro e w1 ⟨b1, u1, rfl, s1⟩
        have HB1 : Hid (Below m w w1) := Lib.hid (HB.out.trans (b1.mono (by have := HB.out.size; have := HM.out; omega)))
        have S1 := Lib.hid (s1.at in_len)
        have CJ := Lib.hid (C17.out w1 i HB1.out)
        clear CI b1 s1
        go_wp2_with fail
        refine CJ.out.mono ?_
        rintro e w2 ⟨b2, u2, rfl, s2⟩
        have HB2' : Hid (Below m w w2) := Lib.hid (HB1.out.trans (b2.mono (by have := HB1.out.size; have := HM.out; omega)))
        have CS := Lib.hid (same_any (nextF l i) (nextF l i) u1 u2 w2 (S1.out.keep b2) s2.1)
        rw [(eqB_iff (nextF l i) (nextF l i)).2 rfl] at CS
        clear CJ b2 s2 S1
        go_wp2_with fail
        refine CS.out.mono ?_
        rintro e w3 ⟨rfl, b3⟩
        have HB3 : Hid (Below m w w3) := Lib.hid (HB2'.out.trans (b3.mono (by have := HB2'.out.size; have := HM.out; omega)))
        clear CS b3 HB HB1 HB2'
        by_cases h0 : 0 ≤ i
        · by_cases hin : i < (n : Int)
          · obtain ⟨j, rfl⟩ : ∃ j : Nat, i = j := ⟨i.toNat, by omega⟩
            have hjn : j < n := by omega
            have hjl : j < l.length := by rw [← HN.out]; exact hjn
            obtain ⟨b, o, rfl, hb, hc⟩ := HH.out.get (by omega)
            obtain ⟨f, hf, hfa, hcell⟩ := hc j hjl
            have HCI : Hid (∀ W, Below m w W → ∀ t, t < 10 → W.cell? ⟨b, o + j * 10 + t, none⟩ = (imC f)[t]?) := Lib.hid (fun W hW t ht => by rw [← hcell t ht]; exact hW.cell (p := ⟨b, _, none⟩) (by rw [HM.out]; exact hb))
            have kp := fun W (hW : Below m w W) => hfa.keep (show Below w.heap.size w W by rw [← HM.out]; exact hW)
            have q1 := HB2.out l[j] (List.getElem_mem hjl)
            have q2 := HB4.out l[j] (List.getElem_mem hjl)
            rw [← hf] at q1 q2
            have CU : Hid (∀ W, Below m w W → Calls Tryd.prog 19 #[imV f] W (ArsR (usesF f.x) W)) := Lib.hid (fun W hW => uses19 f W (kp W hW) (by omega))
            have CV : Hid (∀ W, Below m w W → Calls Tryd.prog 20 #[imV f] W (ArsR (usesF f.x) W)) := Lib.hid (fun W hW => ruses20 f W (kp W hW) q1 q2)
            have CD : Hid (∀ W, Below m w W → Calls Tryd.prog 21 #[imV f] W (ArsR (defsF f.x) W)) := Lib.hid (fun W hW => defs21 f W (kp W hW))
            have CE : Hid (∀ W, Below m w W → Calls Tryd.prog 22 #[imV f] W (ArsR (defsF f.x) W)) := Lib.hid (fun W hW => defs22 f W (kp W hW))
            unfold imV at CU CV CD CE
            clear hc hcell hf hfa kp q1 q2 hb
            go_upto_region 8 with fail
            refine wp_region_held_drew (S := (fun w' => Below m w w')) (by kernel_rfl) (HB3.out.drew) (fun hS => ?_)
            have HBD := Lib.hid HB3.out.drew
            clear HB3
            generalize w3.drew = w0 at *
            refine tk (i := 0) (v := ?_) rfl (by rfl) ?_ (by assumption) ?_
            rotate_left
            · intro w hSw
              go_simp
              with_reducible rfl
            change wpAnyH _ _ _ _ _ _ _ (Act.put _ (some 21) _) _
            simp only [Act.put, List.setIfInBounds_toArray, List.set_cons_zero, List.set_cons_succ]
            refine tk (i := 1) (v := ?_) rfl (by rfl) ?_ (by assumption) ?_
            rotate_left
            · intro w hSw
              go_simp
              with_reducible rfl
            change wpAnyH _ _ _ _ _ _ _ (Act.put _ (some 22) _) _
            simp only [Act.put, List.setIfInBounds_toArray, List.set_cons_zero, List.set_cons_succ]
            refine tk (i := 2) (v := ?_) rfl (by rfl) ?_ (by assumption) ?_
            rotate_left
            · intro w hSw
              go_simp
              with_reducible rfl
            change wpAnyH _ _ _ _ _ _ _ (Act.put _ (some 23) _) _
            simp only [Act.put, List.setIfInBounds_toArray, List.set_cons_zero, List.set_cons_succ]
            refine tk (i := 3) (v := ?_) rfl (by rfl) ?_ (by assumption) ?_
            rotate_left
            · intro w hSw
              go_simp
              with_reducible rfl
            change wpAnyH _ _ _ _ _ _ _ (Act.put _ (some 24) _) _
            simp only [Act.put, List.setIfInBounds_toArray, List.set_cons_zero, List.set_cons_succ]
            refine tk (i := 4) (v := ?_) rfl (by rfl) ?_ (by assumption) ?_
            rotate_left
            · intro w hSw
              go_simp
              with_reducible rfl
            change wpAnyH _ _ _ _ _ _ _ (Act.put _ (some 25) _) _
            simp only [Act.put, List.setIfInBounds_toArray, List.set_cons_zero, List.set_cons_succ]
            refine tk (i := 5) (v := ?_) rfl (by rfl) ?_ (by assumption) ?_
            rotate_left
            · intro w hSw
              go_simp
              with_reducible rfl
            change wpAnyH _ _ _ _ _ _ _ (Act.put _ (some 26) _) _
            simp only [Act.put, List.setIfInBounds_toArray, List.set_cons_zero, List.set_cons_succ]
            refine tk (i := 6) (v := ?_) rfl (by rfl) ?_ (by assumption) ?_
            rotate_left
            · intro w hSw
              go_simp
              with_reducible rfl
            change wpAnyH _ _ _ _ _ _ _ (Act.put _ (some 27) _) _
            simp only [Act.put, List.setIfInBounds_toArray, List.set_cons_zero, List.set_cons_succ]
            refine tk (i := 7) (v := ?_) rfl (by rfl) ?_ (by assumption) ?_
            rotate_left
            · intro w hSw
              go_simp
              with_reducible rfl
            change wpAnyH _ _ _ _ _ _ _ (Act.put _ (some 28) _) _
            simp only [Act.put, List.setIfInBounds_toArray, List.set_cons_zero, List.set_cons_succ]
            refine tk (i := 8) (v := ?_) rfl (by rfl) ?_ (by assumption) ?_
            rotate_left
            · intro w hSw
              go_simp
              with_reducible rfl
            change wpAnyH _ _ _ _ _ _ _ (Act.put _ (some 29) _) _
            simp only [Act.put, List.setIfInBounds_toArray, List.set_cons_zero, List.set_cons_succ]
            refine tk (i := 9) (v := ?_) rfl (by rfl) ?_ (by assumption) ?_
            rotate_left
            · intro w hSw
              go_simp
              with_reducible rfl
            change wpAnyH _ _ _ _ _ _ _ (Act.put _ (some 30) _) _
            simp only [Act.put, List.setIfInBounds_toArray, List.set_cons_zero, List.set_cons_succ]
            refine tk (i := 10) (v := ?_) rfl (by rfl) ?_ (by assumption) ?_
            rotate_left
            · intro w hSw
              go_simp
              with_reducible rfl
            change wpAnyH _ _ _ _ _ _ _ (Act.put _ (some 31) _) _
            simp only [Act.put, List.setIfInBounds_toArray, List.set_cons_zero, List.set_cons_succ]
            refine tk (i := 11) (v := ?_) rfl (by rfl) ?_ (by assumption) ?_
            rotate_left
            · intro w hSw
              go_simp
              with_reducible rfl
            change wpAnyH _ _ _ _ _ _ _ (Act.put _ (some 32) _) _
            simp only [Act.put, List.setIfInBounds_toArray, List.set_cons_zero, List.set_cons_succ]
            refine tk (i := 12) (v := ?_) rfl (by rfl) ?_ (by assumption) ?_
            rotate_left
            · intro w hSw
              obtain ⟨e0, e1, e2, e3, e4, e5, e6, e7, e8, e9⟩ := cells10 (HCI.out _ hSw)
              go_simp
              with_reducible rfl
            change wpAnyH _ _ _ _ _ _ _ (Act.put _ (some 33) _) _
            simp only [Act.put, List.setIfInBounds_toArray, List.set_cons_zero, List.set_cons_succ]
            refine tk (i := 14) (v := ?_) rfl (by rfl) ?_ (by assumption) ?_
            rotate_left
            · intro w hSw
              go_simp
              with_reducible rfl
            change wpAnyH _ _ _ _ _ _ _ (Act.put _ (some 35) _) _
            simp only [Act.put, List.setIfInBounds_toArray, List.set_cons_zero, List.set_cons_succ]
            refine tk (i := 15) (v := ?_) rfl (by rfl) ?_ (by assumption) ?_
            rotate_left
            · intro w hSw
              go_simp
              with_reducible rfl
            change wpAnyH _ _ _ _ _ _ _ (Act.put _ (some 36) _) _
            simp only [Act.put, List.setIfInBounds_toArray, List.set_cons_zero, List.set_cons_succ]
            refine tk (i := 16) (v := ?_) rfl (by rfl) ?_ (by assumption) ?_
            rotate_left
            · intro w hSw
              go_simp
              with_reducible rfl
            change wpAnyH _ _ _ _ _ _ _ (Act.put _ (some 37) _) _
            simp only [Act.put, List.setIfInBounds_toArray, List.set_cons_zero, List.set_cons_succ]
            refine tk (i := 17) (v := ?_) rfl (by rfl) ?_ (by assumption) ?_
            rotate_left
            · intro w hSw
              obtain ⟨e0, e1, e2, e3, e4, e5, e6, e7, e8, e9⟩ := cells10 (HCI.out _ hSw)
              go_simp
              with_reducible rfl
            change wpAnyH _ _ _ _ _ _ _ (Act.put _ (some 38) _) _
            simp only [Act.put, List.setIfInBounds_toArray, List.set_cons_zero, List.set_cons_succ]
            refine wpAnyH_ready (rs := [13]) (by kernel_rfl) (by simp) ?_
            refine AllReadyH.cons rfl (fun K hK => ?_) AllReadyH.nil
            go_simp
            refine (CU.out w0 HBD.out).mono ?_
            rintro e w1 ⟨b, va, rfl, s⟩
            have S1 := Lib.hid (s.at ar_len)
            replace HBD := Lib.hid (HBD.out.trans (b.mono (by have := HBD.out.size; have := HM.out; omega)))
            clear b s
            go_wp2_with fail
            refine hK.out _ _ (HBD.out) (fun hS => ?_)
            clear hK K
            try simp only [Act.put, List.setIfInBounds_toArray, List.set_cons_zero, List.set_cons_succ]
            refine wpAnyH_ready (rs := [18]) (by kernel_rfl) (by simp) ?_
            refine AllReadyH.cons rfl (fun K hK => ?_) AllReadyH.nil
            go_simp
            refine (CV.out w1 HBD.out).mono ?_
            rintro e w2 ⟨b, vb, rfl, s⟩
            have S2 := Lib.hid (s.at ar_len)
            replace S1 := Lib.hid (S1.out.keep b)
            replace HBD := Lib.hid (HBD.out.trans (b.mono (by have := HBD.out.size; have := HM.out; omega)))
            clear b s
            go_wp2_with fail
            refine hK.out _ _ (HBD.out) (fun hS => ?_)
            clear hK K
            try simp only [Act.put, List.setIfInBounds_toArray, List.set_cons_zero, List.set_cons_succ]
            refine wpAnyH_ready (rs := [19]) (by kernel_rfl) (by simp) ?_
            refine AllReadyH.cons rfl (fun K hK => ?_) AllReadyH.nil
            go_simp
            refine (samea_any (usesF f.x) (usesF f.x) _ _ w2 S1.out S2.out).mono ?_
            rintro e w3 ⟨rfl, b⟩
            rw [(eqB_iff (usesF f.x) (usesF f.x)).2 rfl]
            replace HBD := Lib.hid (HBD.out.trans (b.mono (by have := HBD.out.size; have := HM.out; omega)))
            clear b S1 S2
            go_wp2_with fail
            refine hK.out _ _ (HBD.out) (fun hS => ?_)
            clear hK K
            try simp only [Act.put, List.setIfInBounds_toArray, List.set_cons_zero, List.set_cons_succ]
            refine tk (i := 20) (v := ?_) rfl (by rfl) ?_ (by assumption) ?_
            rotate_left
            · intro w hSw
              go_simp
              with_reducible rfl
            change wpAnyH _ _ _ _ _ _ _ (Act.put _ (some 41) _) _
            simp only [Act.put, List.setIfInBounds_toArray, List.set_cons_zero, List.set_cons_succ]
            refine tk (i := 21) (v := ?_) rfl (by rfl) ?_ (by assumption) ?_
            rotate_left
            · intro w hSw
              go_simp
              with_reducible rfl
            change wpAnyH _ _ _ _ _ _ _ (Act.put _ (some 42) _) _
            simp only [Act.put, List.setIfInBounds_toArray, List.set_cons_zero, List.set_cons_succ]
            refine tk (i := 22) (v := ?_) rfl (by rfl) ?_ (by assumption) ?_
            rotate_left
            · intro w hSw
              go_simp
              with_reducible rfl
            change wpAnyH _ _ _ _ _ _ _ (Act.put _ (some 43) _) _
            simp only [Act.put, List.setIfInBounds_toArray, List.set_cons_zero, List.set_cons_succ]
            refine tk (i := 23) (v := ?_) rfl (by rfl) ?_ (by assumption) ?_
            rotate_left
            · intro w hSw
              go_simp
              with_reducible rfl
            change wpAnyH _ _ _ _ _ _ _ (Act.put _ (some 44) _) _
            simp only [Act.put, List.setIfInBounds_toArray, List.set_cons_zero, List.set_cons_succ]
            refine tk (i := 24) (v := ?_) rfl (by rfl) ?_ (by assumption) ?_
            rotate_left
            · intro w hSw
              go_simp
              with_reducible rfl
            change wpAnyH _ _ _ _ _ _ _ (Act.put _ (some 45) _) _
            simp only [Act.put, List.setIfInBounds_toArray, List.set_cons_zero, List.set_cons_succ]
            refine tk (i := 25) (v := ?_) rfl (by rfl) ?_ (by assumption) ?_
            rotate_left
            · intro w hSw
              obtain ⟨e0, e1, e2, e3, e4, e5, e6, e7, e8, e9⟩ := cells10 (HCI.out _ hSw)
              go_simp
              with_reducible rfl
            change wpAnyH _ _ _ _ _ _ _ (Act.put _ (some 46) _) _
            simp only [Act.put, List.setIfInBounds_toArray, List.set_cons_zero, List.set_cons_succ]
            refine tk (i := 27) (v := ?_) rfl (by rfl) ?_ (by assumption) ?_
            rotate_left
            · intro w hSw
              go_simp
              with_reducible rfl
            change wpAnyH _ _ _ _ _ _ _ (Act.put _ (some 48) _) _
            simp only [Act.put, List.setIfInBounds_toArray, List.set_cons_zero, List.set_cons_succ]
            refine tk (i := 28) (v := ?_) rfl (by rfl) ?_ (by assumption) ?_
            rotate_left
            · intro w hSw
              go_simp
              with_reducible rfl
            change wpAnyH _ _ _ _ _ _ _ (Act.put _ (some 49) _) _
            simp only [Act.put, List.setIfInBounds_toArray, List.set_cons_zero, List.set_cons_succ]
            refine tk (i := 29) (v := ?_) rfl (by rfl) ?_ (by assumption) ?_
            rotate_left
            · intro w hSw
              go_simp
              with_reducible rfl
            change wpAnyH _ _ _ _ _ _ _ (Act.put _ (some 50) _) _
            simp only [Act.put, List.setIfInBounds_toArray, List.set_cons_zero, List.set_cons_succ]
            refine tk (i := 30) (v := ?_) rfl (by rfl) ?_ (by assumption) ?_
            rotate_left
            · intro w hSw
              obtain ⟨e0, e1, e2, e3, e4, e5, e6, e7, e8, e9⟩ := cells10 (HCI.out _ hSw)
              go_simp
              with_reducible rfl
            change wpAnyH _ _ _ _ _ _ _ (Act.put _ (some 51) _) _
            simp only [Act.put, List.setIfInBounds_toArray, List.set_cons_zero, List.set_cons_succ]
            refine wpAnyH_ready (rs := [26]) (by kernel_rfl) (by simp) ?_
            refine AllReadyH.cons rfl (fun K hK => ?_) AllReadyH.nil
            go_simp
            refine (CD.out w3 HBD.out).mono ?_
            rintro e w4 ⟨b, vc, rfl, s⟩
            have S1 := Lib.hid (s.at ar_len)
            replace HBD := Lib.hid (HBD.out.trans (b.mono (by have := HBD.out.size; have := HM.out; omega)))
            clear b s
            go_wp2_with fail
            refine hK.out _ _ (HBD.out) (fun hS => ?_)
            clear hK K
            try simp only [Act.put, List.setIfInBounds_toArray, List.set_cons_zero, List.set_cons_succ]
            refine wpAnyH_ready (rs := [31]) (by kernel_rfl) (by simp) ?_
            refine AllReadyH.cons rfl (fun K hK => ?_) AllReadyH.nil
            go_simp
            refine (CE.out w4 HBD.out).mono ?_
            rintro e w5 ⟨b, vd, rfl, s⟩
            have S2 := Lib.hid (s.at ar_len)
            replace S1 := Lib.hid (S1.out.keep b)
            replace HBD := Lib.hid (HBD.out.trans (b.mono (by have := HBD.out.size; have := HM.out; omega)))
            clear b s
            go_wp2_with fail
            refine hK.out _ _ (HBD.out) (fun hS => ?_)
            clear hK K
            try simp only [Act.put, List.setIfInBounds_toArray, List.set_cons_zero, List.set_cons_succ]
            refine wpAnyH_ready (rs := [32]) (by kernel_rfl) (by simp) ?_
            refine AllReadyH.cons rfl (fun K hK => ?_) AllReadyH.nil
            go_simp
            refine (samea_any (defsF f.x) (defsF f.x) _ _ w5 S1.out S2.out).mono ?_
            rintro e w6 ⟨rfl, b⟩
            rw [(eqB_iff (defsF f.x) (defsF f.x)).2 rfl]
            replace HBD := Lib.hid (HBD.out.trans (b.mono (by have := HBD.out.size; have := HM.out; omega)))
            clear b S1 S2
            go_wp2_with fail
            refine hK.out _ _ (HBD.out) (fun hS => ?_)
            clear hK K
            try simp only [Act.put, List.setIfInBounds_toArray, List.set_cons_zero, List.set_cons_succ]
            refine tk (i := 33) (v := ?_) rfl (by rfl) ?_ (by assumption) ?_
            rotate_left
            · intro w hSw
              go_simp
              with_reducible rfl
            change wpAnyH _ _ _ _ _ _ _ (Act.put _ (some 54) _) _
            simp only [Act.put, List.setIfInBounds_toArray, List.set_cons_zero, List.set_cons_succ]
            refine tk (i := 34) (v := ?_) rfl (by rfl) ?_ (by assumption) ?_
            rotate_left
            · intro w hSw
              go_simp
              with_reducible rfl
            change wpAnyH _ _ _ _ _ _ _ (Act.put _ (some 55) _) _
            simp only [Act.put, List.setIfInBounds_toArray, List.set_cons_zero, List.set_cons_succ]
            refine tk (i := 35) (v := ?_) rfl (by rfl) ?_ (by assumption) ?_
            rotate_left
            · intro w hSw
              go_simp
              with_reducible rfl
            change wpAnyH _ _ _ _ _ _ _ (Act.put _ (some 56) _) _
            simp only [Act.put, List.setIfInBounds_toArray, List.set_cons_zero, List.set_cons_succ]
            refine wpAnyH_done (by kernel_rfl) ?_ _
            go_wp2_with fail
            go_roundw
            case rel => exact ⟨(j : Int) + 1, by omega, by omega, by go_num, HBD⟩
            case measure => simp [intOf]; omega
          · obtain rfl : i = (n : Int) := by omega
            clear hin
            go_upto_region 8 with fail
            refine wp_region_held_drew (S := (fun w' => Below m w w')) (by kernel_rfl) (HB3.out.drew) (fun hS => ?_)
            have HBD := Lib.hid HB3.out.drew
            clear HB3
            generalize w3.drew = w0 at *
            refine tk (i := 0) (v := ?_) rfl (by rfl) ?_ (by assumption) ?_
            rotate_left
            · intro w hSw
              go_simp
              with_reducible rfl
            change wpAnyH _ _ _ _ _ _ _ (Act.put _ (some 21) _) _
            simp only [Act.put, List.setIfInBounds_toArray, List.set_cons_zero, List.set_cons_succ]
            refine tk (i := 1) (v := ?_) rfl (by rfl) ?_ (by assumption) ?_
            rotate_left
            · intro w hSw
              go_simp
              with_reducible rfl
            change wpAnyH _ _ _ _ _ _ _ (Act.put _ (some 22) _) _
            simp only [Act.put, List.setIfInBounds_toArray, List.set_cons_zero, List.set_cons_succ]
            refine tk (i := 2) (v := ?_) rfl (by rfl) ?_ (by assumption) ?_
            rotate_left
            · intro w hSw
              go_simp
              with_reducible rfl
            change wpAnyH _ _ _ _ _ _ _ (Act.put _ (some 23) _) _
            simp only [Act.put, List.setIfInBounds_toArray, List.set_cons_zero, List.set_cons_succ]
            refine tk (i := 3) (v := ?_) rfl (by rfl) ?_ (by assumption) ?_
            rotate_left
            · intro w hSw
              go_simp
              with_reducible rfl
            change wpAnyH _ _ _ _ _ _ _ (Act.put _ (some 24) _) _
            simp only [Act.put, List.setIfInBounds_toArray, List.set_cons_zero, List.set_cons_succ]
            refine tk (i := 4) (v := ?_) rfl (by rfl) ?_ (by assumption) ?_
            rotate_left
            · intro w hSw
              go_simp
              with_reducible rfl
            change wpAnyH _ _ _ _ _ _ _ (Act.put _ (some 25) _) _
            simp only [Act.put, List.setIfInBounds_toArray, List.set_cons_zero, List.set_cons_succ]
            refine tk (i := 5) (v := ?_) rfl (by rfl) ?_ (by assumption) ?_
            rotate_left
            · intro w hSw
              go_simp
              with_reducible rfl
            change wpAnyH _ _ _ _ _ _ _ (Act.put _ (some 26) _) _
            simp only [Act.put, List.setIfInBounds_toArray, List.set_cons_zero, List.set_cons_succ]
            refine tk (i := 6) (v := ?_) rfl (by rfl) ?_ (by assumption) ?_
            rotate_left
            · intro w hSw
              go_simp
              with_reducible rfl
            change wpAnyH _ _ _ _ _ _ _ (Act.put _ (some 27) _) _
            simp only [Act.put, List.setIfInBounds_toArray, List.set_cons_zero, List.set_cons_succ]
            refine tk (i := 7) (v := ?_) rfl (by rfl) ?_ (by assumption) ?_
            rotate_left
            · intro w hSw
              go_simp
              with_reducible rfl
            change wpAnyH _ _ _ _ _ _ _ (Act.put _ (some 28) _) _
            simp only [Act.put, List.setIfInBounds_toArray, List.set_cons_zero, List.set_cons_succ]
            refine tk (i := 8) (v := ?_) rfl (by rfl) ?_ (by assumption) ?_
            rotate_left
            · intro w hSw
              go_simp
              with_reducible rfl
            change wpAnyH _ _ _ _ _ _ _ (Act.put _ (some 29) _) _
            simp only [Act.put, List.setIfInBounds_toArray, List.set_cons_zero, List.set_cons_succ]
            refine tks (i := 9) rfl (by rfl) (by assumption) ?_
            change wpAnyH _ _ _ _ _ _ _ (Act.put _ (some 30) _) _
            simp only [Act.put, List.setIfInBounds_toArray, List.set_cons_zero, List.set_cons_succ]
            refine tks (i := 10) rfl (by rfl) (by assumption) ?_
            change wpAnyH _ _ _ _ _ _ _ (Act.put _ (some 31) _) _
            simp only [Act.put, List.setIfInBounds_toArray, List.set_cons_zero, List.set_cons_succ]
            refine tks (i := 11) rfl (by rfl) (by assumption) ?_
            change wpAnyH _ _ _ _ _ _ _ (Act.put _ (some 32) _) _
            simp only [Act.put, List.setIfInBounds_toArray, List.set_cons_zero, List.set_cons_succ]
            refine tks (i := 12) rfl (by rfl) (by assumption) ?_
            change wpAnyH _ _ _ _ _ _ _ (Act.put _ (some 33) _) _
            simp only [Act.put, List.setIfInBounds_toArray, List.set_cons_zero, List.set_cons_succ]
            refine tks (i := 13) rfl (by rfl) (by assumption) ?_
            change wpAnyH _ _ _ _ _ _ _ (Act.put _ (some 34) _) _
            simp only [Act.put, List.setIfInBounds_toArray, List.set_cons_zero, List.set_cons_succ]
            refine tks (i := 14) rfl (by rfl) (by assumption) ?_
            change wpAnyH _ _ _ _ _ _ _ (Act.put _ (some 35) _) _
            simp only [Act.put, List.setIfInBounds_toArray, List.set_cons_zero, List.set_cons_succ]
            refine tks (i := 15) rfl (by rfl) (by assumption) ?_
            change wpAnyH _ _ _ _ _ _ _ (Act.put _ (some 36) _) _
            simp only [Act.put, List.setIfInBounds_toArray, List.set_cons_zero, List.set_cons_succ]
            refine tks (i := 16) rfl (by rfl) (by assumption) ?_
            change wpAnyH _ _ _ _ _ _ _ (Act.put _ (some 37) _) _
            simp only [Act.put, List.setIfInBounds_toArray, List.set_cons_zero, List.set_cons_succ]
            refine tks (i := 17) rfl (by rfl) (by assumption) ?_
            change wpAnyH _ _ _ _ _ _ _ (Act.put _ (some 38) _) _
            simp only [Act.put, List.setIfInBounds_toArray, List.set_cons_zero, List.set_cons_succ]
            refine tks (i := 18) rfl (by rfl) (by assumption) ?_
            change wpAnyH _ _ _ _ _ _ _ (Act.put _ (some 39) _) _
            simp only [Act.put, List.setIfInBounds_toArray, List.set_cons_zero, List.set_cons_succ]
            refine tks (i := 19) rfl (by rfl) (by assumption) ?_
            change wpAnyH _ _ _ _ _ _ _ (Act.put _ (some 40) _) _
            simp only [Act.put, List.setIfInBounds_toArray, List.set_cons_zero, List.set_cons_succ]
            refine tks (i := 20) rfl (by rfl) (by assumption) ?_
            change wpAnyH _ _ _ _ _ _ _ (Act.put _ (some 41) _) _
            simp only [Act.put, List.setIfInBounds_toArray, List.set_cons_zero, List.set_cons_succ]
            refine tks (i := 21) rfl (by rfl) (by assumption) ?_
            change wpAnyH _ _ _ _ _ _ _ (Act.put _ (some 42) _) _
            simp only [Act.put, List.setIfInBounds_toArray, List.set_cons_zero, List.set_cons_succ]
            refine tks (i := 22) rfl (by rfl) (by assumption) ?_
            change wpAnyH _ _ _ _ _ _ _ (Act.put _ (some 43) _) _
            simp only [Act.put, List.setIfInBounds_toArray, List.set_cons_zero, List.set_cons_succ]
            refine tks (i := 23) rfl (by rfl) (by assumption) ?_
            change wpAnyH _ _ _ _ _ _ _ (Act.put _ (some 44) _) _
            simp only [Act.put, List.setIfInBounds_toArray, List.set_cons_zero, List.set_cons_succ]
            refine tks (i := 24) rfl (by rfl) (by assumption) ?_
            change wpAnyH _ _ _ _ _ _ _ (Act.put _ (some 45) _) _
            simp only [Act.put, List.setIfInBounds_toArray, List.set_cons_zero, List.set_cons_succ]
            refine tks (i := 25) rfl (by rfl) (by assumption) ?_
            change wpAnyH _ _ _ _ _ _ _ (Act.put _ (some 46) _) _
            simp only [Act.put, List.setIfInBounds_toArray, List.set_cons_zero, List.set_cons_succ]
            refine tks (i := 26) rfl (by rfl) (by assumption) ?_
            change wpAnyH _ _ _ _ _ _ _ (Act.put _ (some 47) _) _
            simp only [Act.put, List.setIfInBounds_toArray, List.set_cons_zero, List.set_cons_succ]
            refine tks (i := 27) rfl (by rfl) (by assumption) ?_
            change wpAnyH _ _ _ _ _ _ _ (Act.put _ (some 48) _) _
            simp only [Act.put, List.setIfInBounds_toArray, List.set_cons_zero, List.set_cons_succ]
            refine tks (i := 28) rfl (by rfl) (by assumption) ?_
            change wpAnyH _ _ _ _ _ _ _ (Act.put _ (some 49) _) _
            simp only [Act.put, List.setIfInBounds_toArray, List.set_cons_zero, List.set_cons_succ]
            refine tks (i := 29) rfl (by rfl) (by assumption) ?_
            change wpAnyH _ _ _ _ _ _ _ (Act.put _ (some 50) _) _
            simp only [Act.put, List.setIfInBounds_toArray, List.set_cons_zero, List.set_cons_succ]
            refine tks (i := 30) rfl (by rfl) (by assumption) ?_
            change wpAnyH _ _ _ _ _ _ _ (Act.put _ (some 51) _) _
            simp only [Act.put, List.setIfInBounds_toArray, List.set_cons_zero, List.set_cons_succ]
            refine tks (i := 31) rfl (by rfl) (by assumption) ?_
            change wpAnyH _ _ _ _ _ _ _ (Act.put _ (some 52) _) _
            simp only [Act.put, List.setIfInBounds_toArray, List.set_cons_zero, List.set_cons_succ]
            refine tks (i := 32) rfl (by rfl) (by assumption) ?_
            change wpAnyH _ _ _ _ _ _ _ (Act.put _ (some 53) _) _
            simp only [Act.put, List.setIfInBounds_toArray, List.set_cons_zero, List.set_cons_succ]
            refine tks (i := 33) rfl (by rfl) (by assumption) ?_
            change wpAnyH _ _ _ _ _ _ _ (Act.put _ (some 54) _) _
            simp only [Act.put, List.setIfInBounds_toArray, List.set_cons_zero, List.set_cons_succ]
            refine tks (i := 34) rfl (by rfl) (by assumption) ?_
            change wpAnyH _ _ _ _ _ _ _ (Act.put _ (some 55) _) _
            simp only [Act.put, List.setIfInBounds_toArray, List.set_cons_zero, List.set_cons_succ]
            refine tk (i := 35) (v := ?_) rfl (by rfl) ?_ (by assumption) ?_
            rotate_left
            · intro w hSw
              go_simp
              with_reducible rfl
            change wpAnyH _ _ _ _ _ _ _ (Act.put _ (some 56) _) _
            simp only [Act.put, List.setIfInBounds_toArray, List.set_cons_zero, List.set_cons_succ]
            refine wpAnyH_done (by kernel_rfl) ?_ _
            go_wp2_with fail
            go_roundw
            case rel => exact ⟨(n : Int) + 1, by omega, by omega, by go_num, HBD⟩
            case measure => simp [intOf]
        · obtain rfl : i = -1 := by omega
          clear h0
          go_upto_region 8 with fail
          refine wp_region_held_drew (S := (fun w' => Below m w w')) (by kernel_rfl) (HB3.out.drew) (fun hS => ?_)
          have HBD := Lib.hid HB3.out.drew
          clear HB3
          generalize w3.drew = w0 at *
          refine tk (i := 0) (v := ?_) rfl (by rfl) ?_ (by assumption) ?_
          rotate_left
          · intro w hSw
            go_simp
            with_reducible rfl
          change wpAnyH _ _ _ _ _ _ _ (Act.put _ (some 21) _) _
          simp only [Act.put, List.setIfInBounds_toArray, List.set_cons_zero, List.set_cons_succ]
          refine tk (i := 1) (v := ?_) rfl (by rfl) ?_ (by assumption) ?_
          rotate_left
          · intro w hSw
            go_simp
            with_reducible rfl
          change wpAnyH _ _ _ _ _ _ _ (Act.put _ (some 22) _) _
          simp only [Act.put, List.setIfInBounds_toArray, List.set_cons_zero, List.set_cons_succ]
          refine tk (i := 2) (v := ?_) rfl (by rfl) ?_ (by assumption) ?_
          rotate_left
          · intro w hSw
            go_simp
            with_reducible rfl
          change wpAnyH _ _ _ _ _ _ _ (Act.put _ (some 23) _) _
          simp only [Act.put, List.setIfInBounds_toArray, List.set_cons_zero, List.set_cons_succ]
          refine tks (i := 3) rfl (by rfl) (by assumption) ?_
          change wpAnyH _ _ _ _ _ _ _ (Act.put _ (some 24) _) _
          simp only [Act.put, List.setIfInBounds_toArray, List.set_cons_zero, List.set_cons_succ]
          refine tks (i := 4) rfl (by rfl) (by assumption) ?_
          change wpAnyH _ _ _ _ _ _ _ (Act.put _ (some 25) _) _
          simp only [Act.put, List.setIfInBounds_toArray, List.set_cons_zero, List.set_cons_succ]
          refine tks (i := 5) rfl (by rfl) (by assumption) ?_
          change wpAnyH _ _ _ _ _ _ _ (Act.put _ (some 26) _) _
          simp only [Act.put, List.setIfInBounds_toArray, List.set_cons_zero, List.set_cons_succ]
          refine tks (i := 6) rfl (by rfl) (by assumption) ?_
          change wpAnyH _ _ _ _ _ _ _ (Act.put _ (some 27) _) _
          simp only [Act.put, List.setIfInBounds_toArray, List.set_cons_zero, List.set_cons_succ]
          refine tk (i := 7) (v := ?_) rfl (by rfl) ?_ (by assumption) ?_
          rotate_left
          · intro w hSw
            go_simp
            with_reducible rfl
          change wpAnyH _ _ _ _ _ _ _ (Act.put _ (some 28) _) _
          simp only [Act.put, List.setIfInBounds_toArray, List.set_cons_zero, List.set_cons_succ]
          refine tk (i := 8) (v := ?_) rfl (by rfl) ?_ (by assumption) ?_
          rotate_left
          · intro w hSw
            go_simp
            with_reducible rfl
          change wpAnyH _ _ _ _ _ _ _ (Act.put _ (some 29) _) _
          simp only [Act.put, List.setIfInBounds_toArray, List.set_cons_zero, List.set_cons_succ]
          refine tks (i := 9) rfl (by rfl) (by assumption) ?_
          change wpAnyH _ _ _ _ _ _ _ (Act.put _ (some 30) _) _
          simp only [Act.put, List.setIfInBounds_toArray, List.set_cons_zero, List.set_cons_succ]
          refine tks (i := 10) rfl (by rfl) (by assumption) ?_
          change wpAnyH _ _ _ _ _ _ _ (Act.put _ (some 31) _) _
          simp only [Act.put, List.setIfInBounds_toArray, List.set_cons_zero, List.set_cons_succ]
          refine tks (i := 11) rfl (by rfl) (by assumption) ?_
          change wpAnyH _ _ _ _ _ _ _ (Act.put _ (some 32) _) _
          simp only [Act.put, List.setIfInBounds_toArray, List.set_cons_zero, List.set_cons_succ]
          refine tks (i := 12) rfl (by rfl) (by assumption) ?_
          change wpAnyH _ _ _ _ _ _ _ (Act.put _ (some 33) _) _
          simp only [Act.put, List.setIfInBounds_toArray, List.set_cons_zero, List.set_cons_succ]
          refine tks (i := 13) rfl (by rfl) (by assumption) ?_
          change wpAnyH _ _ _ _ _ _ _ (Act.put _ (some 34) _) _
          simp only [Act.put, List.setIfInBounds_toArray, List.set_cons_zero, List.set_cons_succ]
          refine tks (i := 14) rfl (by rfl) (by assumption) ?_
          change wpAnyH _ _ _ _ _ _ _ (Act.put _ (some 35) _) _
          simp only [Act.put, List.setIfInBounds_toArray, List.set_cons_zero, List.set_cons_succ]
          refine tks (i := 15) rfl (by rfl) (by assumption) ?_
          change wpAnyH _ _ _ _ _ _ _ (Act.put _ (some 36) _) _
          simp only [Act.put, List.setIfInBounds_toArray, List.set_cons_zero, List.set_cons_succ]
          refine tks (i := 16) rfl (by rfl) (by assumption) ?_
          change wpAnyH _ _ _ _ _ _ _ (Act.put _ (some 37) _) _
          simp only [Act.put, List.setIfInBounds_toArray, List.set_cons_zero, List.set_cons_succ]
          refine tks (i := 17) rfl (by rfl) (by assumption) ?_
          change wpAnyH _ _ _ _ _ _ _ (Act.put _ (some 38) _) _
          simp only [Act.put, List.setIfInBounds_toArray, List.set_cons_zero, List.set_cons_succ]
          refine tks (i := 18) rfl (by rfl) (by assumption) ?_
          change wpAnyH _ _ _ _ _ _ _ (Act.put _ (some 39) _) _
          simp only [Act.put, List.setIfInBounds_toArray, List.set_cons_zero, List.set_cons_succ]
          refine tks (i := 19) rfl (by rfl) (by assumption) ?_
          change wpAnyH _ _ _ _ _ _ _ (Act.put _ (some 40) _) _
          simp only [Act.put, List.setIfInBounds_toArray, List.set_cons_zero, List.set_cons_succ]
          refine tks (i := 20) rfl (by rfl) (by assumption) ?_
          change wpAnyH _ _ _ _ _ _ _ (Act.put _ (some 41) _) _
          simp only [Act.put, List.setIfInBounds_toArray, List.set_cons_zero, List.set_cons_succ]
          refine tks (i := 21) rfl (by rfl) (by assumption) ?_
          change wpAnyH _ _ _ _ _ _ _ (Act.put _ (some 42) _) _
          simp only [Act.put, List.setIfInBounds_toArray, List.set_cons_zero, List.set_cons_succ]
          refine tks (i := 22) rfl (by rfl) (by assumption) ?_
          change wpAnyH _ _ _ _ _ _ _ (Act.put _ (some 43) _) _
          simp only [Act.put, List.setIfInBounds_toArray, List.set_cons_zero, List.set_cons_succ]
          refine tks (i := 23) rfl (by rfl) (by assumption) ?_
          change wpAnyH _ _ _ _ _ _ _ (Act.put _ (some 44) _) _
          simp only [Act.put, List.setIfInBounds_toArray, List.set_cons_zero, List.set_cons_succ]
          refine tks (i := 24) rfl (by rfl) (by assumption) ?_
          change wpAnyH _ _ _ _ _ _ _ (Act.put _ (some 45) _) _
          simp only [Act.put, List.setIfInBounds_toArray, List.set_cons_zero, List.set_cons_succ]
          refine tks (i := 25) rfl (by rfl) (by assumption) ?_
          change wpAnyH _ _ _ _ _ _ _ (Act.put _ (some 46) _) _
          simp only [Act.put, List.setIfInBounds_toArray, List.set_cons_zero, List.set_cons_succ]
          refine tks (i := 26) rfl (by rfl) (by assumption) ?_
          change wpAnyH _ _ _ _ _ _ _ (Act.put _ (some 47) _) _
          simp only [Act.put, List.setIfInBounds_toArray, List.set_cons_zero, List.set_cons_succ]
          refine tks (i := 27) rfl (by rfl) (by assumption) ?_
          change wpAnyH _ _ _ _ _ _ _ (Act.put _ (some 48) _) _
          simp only [Act.put, List.setIfInBounds_toArray, List.set_cons_zero, List.set_cons_succ]
          refine tks (i := 28) rfl (by rfl) (by assumption) ?_
          change wpAnyH _ _ _ _ _ _ _ (Act.put _ (some 49) _) _
          simp only [Act.put, List.setIfInBounds_toArray, List.set_cons_zero, List.set_cons_succ]
          refine tks (i := 29) rfl (by rfl) (by assumption) ?_
          change wpAnyH _ _ _ _ _ _ _ (Act.put _ (some 50) _) _
          simp only [Act.put, List.setIfInBounds_toArray, List.set_cons_zero, List.set_cons_succ]
          refine tks (i := 30) rfl (by rfl) (by assumption) ?_
          change wpAnyH _ _ _ _ _ _ _ (Act.put _ (some 51) _) _
          simp only [Act.put, List.setIfInBounds_toArray, List.set_cons_zero, List.set_cons_succ]
          refine tks (i := 31) rfl (by rfl) (by assumption) ?_
          change wpAnyH _ _ _ _ _ _ _ (Act.put _ (some 52) _) _
          simp only [Act.put, List.setIfInBounds_toArray, List.set_cons_zero, List.set_cons_succ]
          refine tks (i := 32) rfl (by rfl) (by assumption) ?_
          change wpAnyH _ _ _ _ _ _ _ (Act.put _ (some 53) _) _
          simp only [Act.put, List.setIfInBounds_toArray, List.set_cons_zero, List.set_cons_succ]
          refine tks (i := 33) rfl (by rfl) (by assumption) ?_
          change wpAnyH _ _ _ _ _ _ _ (Act.put _ (some 54) _) _
          simp only [Act.put, List.setIfInBounds_toArray, List.set_cons_zero, List.set_cons_succ]
          refine tks (i := 34) rfl (by rfl) (by assumption) ?_
          change wpAnyH _ _ _ _ _ _ _ (Act.put _ (some 55) _) _
          simp only [Act.put, List.setIfInBounds_toArray, List.set_cons_zero, List.set_cons_succ]
          refine tk (i := 35) (v := ?_) rfl (by rfl) ?_ (by assumption) ?_
          rotate_left
          · intro w hSw
            go_simp
            with_reducible rfl
          change wpAnyH _ _ _ _ _ _ _ (Act.put _ (some 56) _) _
          simp only [Act.put, List.setIfInBounds_toArray, List.set_cons_zero, List.set_cons_succ]
          refine wpAnyH_done (by kernel_rfl) ?_ _
          go_wp2_with fail
          go_roundw
          case rel => exact ⟨0, by omega, by omega, by go_num, HBD⟩
          case measure => simp [intOf]; omega
      · go_wp2_with fail
        refine (CA.out wr HB.out).mono ?_
        rintro e w2 ⟨rfl, b2⟩
        have B2 : Hid (Below w.heap.size w w2) := Lib.hid (by have h1 := HB.out.trans (b2.mono (by have := HB.out.size; have := HM.out; omega)); rwa [HM.out] at h1)
        clear b2
        go_wp2_with fail
        go_ret
        exact ⟨rfl, B2.out⟩
end Go.Proofs.YtekfnonjhcfdmaaDoor
