/- The reference's Live. -/
import Derived.Test.YtekfnonjhcfdmaaDoorLive
import Derived.Test.YtekfnonjhcfdmaaDoorBef
import Derived.Test.YtekfnonjhcfdmaaDoorRreach
import Derived.Test.YtekfnonjhcfdmaaDoorRtries
namespace Go.Proofs.YtekfnonjhcfdmaaDoor
open Go.RowKit Go.Rt Go.Rw

/-- Live's answer is one. -/
theorem LvSpec.one {l : List In} {fr : List Int} {kd : Int} {R R' : List (List Int)} {er er' : Int} (h : LvSpec l fr kd R er) (k : LvSpec l fr kd R' er') : R = R' ∧ er = er' := by
  rcases h with ⟨h0, h1, h2⟩ | ⟨h0, h⟩
  · rcases k with ⟨_, k1, k2⟩ | ⟨k0, _⟩
    · exact ⟨h1.trans k1.symm, h2.trans k2.symm⟩
    · exact absurd h0 k0
  · rcases k with ⟨k0, _⟩ | ⟨_, k⟩
    · exact absurd k0 h0
    · rcases h with ⟨h1, h2, h3⟩ | ⟨h1, h2, Q, h3, h4⟩
      · rcases k with ⟨_, k2, k3⟩ | ⟨_, k2, U, k3, _⟩
        · rw [h3] at k3
          cases k3
          exact ⟨h2.trans k2.symm, rfl⟩
        · rw [triesF_shut k2 k3] at h3
          exact absurd (congrArg Prod.snd h3).symm h1
      · rcases k with ⟨k1, _, k3⟩ | ⟨k1, _, U, k3, k4⟩
        · rw [triesF_shut h2 h3] at k3
          exact absurd (congrArg Prod.snd k3).symm k1
        · refine ⟨?_, h1.trans k1.symm⟩
          have hTU : ∀ i, Rch l fr i → (Q i).getD [] = (U i).getD [] := fun i hr => Fits.one h3.fits k3.fits i hr
          have hl : R.length = R'.length := h4.1.trans k4.1.symm
          refine List.ext_getElem hl (fun i a b => ?_)
          obtain ⟨p1, p2⟩ := h4.2 i a
          obtain ⟨q1, q2⟩ := k4.2 i b
          exact up_ext _ _ p1 q1 (fun n => by
            rw [p2, q2]
            exact ⟨Lv.fit hTU, Lv.fit fun i hr => (hTU i hr).symm⟩)
def missL (Ml n : Nat) (S : Nat → List Int) : Nat := sumN (fun i => Ml - (S i).length) n
def missW (Ml n go : Nat) (W : World) : Nat := sumN (fun i => Ml - lenS ((W.cell? ⟨go, i, none⟩).getD undef)) n
theorem missW_eq {Ml n go : Nat} {W : World} {S : Nat → List Int} (h : OutS W go n S) : missW Ml n go W = missL Ml n S := by
  unfold missW missL
  refine sumN_congr _ fun i hi => ?_
  obtain ⟨sv, cv, e, _⟩ := h.get hi
  rw [e]
  rfl
theorem upd_same {α : Type} (f : Nat → α) (i : Nat) (v : α) (h : v = f i) : upd f i v = f := by
  funext k
  unfold upd
  split
  · rename_i e
    rw [e, h]
  · rfl
theorem missL_lt {Ml n : Nat} {S : Nat → List Int} {i : Nat} (hi : i < n) {L : List Int} (h1 : (S i).length < L.length) (h2 : L.length ≤ Ml) : missL Ml n (upd S i L) < missL Ml n S := by
  refine sumN_lt n (fun k _ => ?_) ⟨i, hi, ?_⟩
  · by_cases e : k = i
    · subst e
      rw [upd_at]
      omega
    · rw [upd_ne _ _ e]
      exact Nat.le_refl _
  · rw [upd_at]
    omega
theorem SlC.far {w w' : World} {go : Nat} {Vs : List Value} (hb : Blk w go 23 Vs.toArray) (hv : ∀ i (h : i < Vs.length), ∃ s n c, Vs[i] = .slice s n c) {v : Value} {L : List Int} (k : SlC w v L) (o : Only [go] w w') : SlC w' v L := by
  refine ⟨?_, k.2⟩
  rcases k.1 with k | ⟨b, of, c, e1, h2, h3, h4⟩
  · exact .inl k
  · by_cases h0 : L = []
    · subst h0
      exact .inl ⟨rfl, _, _, e1⟩
    · have hl := List.length_pos_iff.2 h0
      have hc := h4 0 0 hl (by omega)
      simp only [inC, List.getElem?_cons_zero] at hc
      have hb : b ∉ [go] := by
        intro hm
        simp only [List.mem_cons, List.not_mem_nil, or_false] at hm
        subst hm
        rw [hb.cell, List.getElem?_toArray, List.getElem?_eq_some_iff] at hc
        obtain ⟨hi, hc⟩ := hc
        obtain ⟨_, _, _, e⟩ := hv _ hi
        rw [e] at hc
        cases hc
      have hbl := o.block b h3 hb
      refine .inr ⟨b, of, c, e1, h2, Nat.lt_of_lt_of_le h3 o.size, fun i j hi hj => ?_⟩
      rw [← h4 i j hi hj]
      unfold World.cell?
      dsimp only
      rw [hbl]
theorem OutS.set {w : World} {go n : Nat} {S : Nat → List Int} (h : OutS w go n S) {i : Nat} (_ : i < n) {v : Value} {L : List Int} (hv : SlC w v L) : OutS (w.setCell ⟨go, i, none⟩ v) go n (upd S i L) := by
  obtain ⟨Vs, h1, h2, h3⟩ := h
  have ho : Only [go] w (w.setCell ⟨go, i, none⟩ v) := Only.setCell w ⟨go, i, none⟩ _ (by simp)
  have hf : ∀ i (h : i < Vs.length), ∃ s n c, Vs[i] = .slice s n c := fun i h => by
    obtain ⟨s, c, e, _⟩ := (h3 i h).2
    exact ⟨s, _, c, e⟩
  refine ⟨Vs.set i v, by rw [List.length_set]; exact h1, ?_, fun k hk => ?_⟩
  · have := h2.set_ i v
    rwa [List.setIfInBounds_toArray] at this
  · rw [List.getElem_set]
    by_cases e : i = k
    · subst e
      rw [if_pos rfl, upd_at]
      exact hv.far h2 hf ho
    · rw [if_neg e, upd_ne _ _ (fun q => e q.symm)]
      exact (h3 k (by rwa [List.length_set] at hk)).far h2 hf ho
theorem OutS.ls {w : World} {go n : Nat} {S : Nat → List Int} (h : OutS w go n S) (hn : n ≤ 9223372036854775807) : LsAt w ((List.range n).map S) (.slice (some ⟨go, 0, none⟩) n n) := by
  obtain ⟨Vs, h1, h2, h3⟩ := h
  refine ⟨Vs, ?_, by rw [h1]; simp, fun i a b => ?_⟩
  · have := blk_slAt (cap := n) h2 (by rw [h1]; exact hn)
    rwa [h1] at this
  · rw [List.getElem_map, List.getElem_range]
    exact (h3 i a).1
/-- Within a pass: nothing has grown, or something has. -/
structure PH (l : List In) (fr : List Int) (T : Nat → List Int) (kd : Int) (Ml : Nat) (S S' : Nat → List Int) (z : Int) (ch : Bool) : Prop where
  no : ch = false → S' = S ∧ ∀ (j : Nat) (hj : j < l.length), z < j → Rch l fr j → befF l kd S j l[j] (T j) = S j
  yes : ch = true → missL Ml l.length S' < missL Ml l.length S
theorem PH.start (l : List In) (fr : List Int) (T : Nat → List Int) (kd : Int) (Ml : Nat) (S : Nat → List Int) : PH l fr T kd Ml S S ((l.length : Int) - 1) false := ⟨fun _ => ⟨rfl, fun j hj h => by omega⟩, fun h => by cases h⟩
theorem PH.skip {l : List In} {fr : List Int} {T : Nat → List Int} {kd : Int} {Ml : Nat} {S S' : Nat → List Int} {i : Nat} {ch : Bool} (h : PH l fr T kd Ml S S' i ch) (hr : ¬ Rch l fr i) : PH l fr T kd Ml S S' ((i : Int) - 1) ch :=
  ⟨fun e => ⟨(h.no e).1, fun j hj hz hj2 => by
    by_cases e2 : j = i
    · subst e2
      exact absurd hj2 hr
    · exact (h.no e).2 j hj (by omega) hj2⟩, h.yes⟩
theorem PH.same {l : List In} {fr : List Int} {T : Nat → List Int} {kd : Int} {Ml : Nat} {S S' : Nat → List Int} {i : Nat} {ch : Bool} (h : PH l fr T kd Ml S S' i ch) (hi : i < l.length) (hb : befF l kd S' i l[i] (T i) = S' i) : PH l fr T kd Ml S S' ((i : Int) - 1) ch :=
  ⟨fun e => ⟨(h.no e).1, fun j hj hz hj2 => by
    by_cases e2 : j = i
    · subst e2
      rw [(h.no e).1] at hb
      exact hb
    · exact (h.no e).2 j hj (by omega) hj2⟩, h.yes⟩
theorem PH.grow {l : List In} {fr : List Int} {T : Nat → List Int} {kd : Int} {Ml : Nat} {S S' : Nat → List Int} {i : Nat} {ch : Bool} (h : PH l fr T kd Ml S S' i ch) (hi : i < l.length) {L : List Int} (h1 : (S' i).length < L.length) (h2 : L.length ≤ Ml) : PH l fr T kd Ml S (upd S' i L) ((i : Int) - 1) true :=
  ⟨fun e => (by cases e), fun _ => by
    have := missL_lt hi h1 h2
    cases ch with
    | true => exact Nat.lt_trans this (h.yes rfl)
    | false =>
      rw [← (h.no rfl).1]
      exact this⟩
def intC : Value → Int
  | .int _ z => z
  | _ => 0
def booC : Value → Nat
  | .bool true => 1
  | _ => 0
def badK (kd : Int) : Bool := decide (kd ≠ 1) && (decide (kd ≠ 2) && decide (kd ≠ 4))
set_option maxRecDepth 100000 in
set_option maxHeartbeats 8000000 in
theorem rlive13 (l : List In) (fr : List Int) (v fv : Value) (kd : Int) (w : World) (h : InsAt w l v) (hfv : SlAt w 1 inC fv fr) (hb1 : l.length ≤ 1048576) (hb2 : ∀ x ∈ l, x.cases.length ≤ 1048576) (hb3 : ∀ x ∈ l, x.src.length ≤ 1048576) (hb4 : ∀ x ∈ l, x.segs.length ≤ 1048576)
    (hb5 : (argsF l).length ≤ 1000000000) (hb6 : fr.length + owe l (fun _ => false) ≤ 100000000) : Calls Tryd.prog 13 #[v, fv, .int .i64 kd] w (LiR l fr kd w) := by
  obtain ⟨_, sa, cap, rfl⟩ := h.form
  obtain ⟨n, hn⟩ : ∃ q, q = l.length := ⟨_, rfl⟩
  obtain ⟨m, hm⟩ : ∃ q, q = w.heap.size := ⟨_, rfl⟩
  have C29 := Lib.hid (rtries29 l fr (.slice sa l.length cap) fv w h hfv hb1 hb2)
  have C28 := Lib.hid (fun (W : World) (hW : Below m w W) => rreach28 l fr (.slice sa l.length cap) fv W (h.keep (by rw [← hm]; exact hW)) (hfv.keep (by rw [← hm]; exact hW)) hb1 hb2 hb6)
  have C39 : Hid (∀ (W : World) (_ : Below m w W) (i : Nat) (hi : i < l.length) (S : Nat → List Int) (t : List Int) (go : Nat) (tv : Value) (_ : OutS W go n S) (_ : SlAt W 1 inC tv t) (_ : ∀ j, Up (S j)) (_ : ∀ j, ∀ x ∈ S j, x ∈ gat kd (argsF l)),
      Calls Tryd.prog 39 #[.slice sa l.length cap, .int .i64 i, .int .i64 kd, .slice (some ⟨go, 0, none⟩) n n, tv] W (RdR (befF l kd S i l[i] t) W)) := Lib.hid (fun W hW i hi S t go tv ho ht hup hM =>
    before39 l i kd S t go n _ tv W (gat kd (argsF l)) (h.keep (by rw [← hm]; exact hW)) hi ho hn ht hup hM (uses_named hi) (Nat.le_trans (gat_len kd _) hb5) hb1 hb2 hb3 hb4)
  have HML : Hid ((gat kd (argsF l)).length ≤ 1000000000) := Lib.hid (Nat.le_trans (gat_len kd _) hb5)
  rw [← hn] at hb1 C29 C28 ⊢
  have C39' : Hid (∀ (W : World) (_ : Below m w W) (i : Nat) (hi : i < l.length) (S : Nat → List Int) (t : List Int) (go : Nat) (tv : Value) (_ : OutS W go n S) (_ : SlAt W 1 inC tv t) (_ : ∀ j, Up (S j)) (_ : ∀ j, ∀ x ∈ S j, x ∈ gat kd (argsF l)),
      Calls Tryd.prog 39 #[.slice sa n cap, .int .i64 i, .int .i64 kd, .slice (some ⟨go, 0, none⟩) n n, tv] W (RdR (befF l kd S i l[i] t) W)) := Lib.hid (by
    have := C39.out
    rw [hn]
    rw [hn] at this
    exact this)
  obtain ⟨Ml, hMl⟩ : ∃ q, q = (gat kd (argsF l)).length := ⟨_, rfl⟩
  have HMl := Lib.hid hMl
  have HN := Lib.hid hn
  have HM := Lib.hid hm
  have mk3 := fun (W : World) => mk26 n (by omega) W
  obtain ⟨fr0, hfr0⟩ : ∃ q, q = fr.length := ⟨_, rfl⟩
  obtain ⟨hf0, sf, cf, ef⟩ := hfv.len
  rw [← hfr0] at ef hf0
  subst ef
  clear C39 h hfv hn hm hb2 hb3 hb4 hb5 hb6 hMl hfr0
  go_enter Tryd.func13, Tryd.ntmps13
  go_upto_region 1 with fail
  go_cut [24] from 15 (fun z wx => z = .bool (badK kd) ∧ w = wx)
  case first =>
    by_cases h1 : kd = 1
    · subst h1
      go_wp2_with fail
      go_meet
      exact ⟨rfl, rfl⟩
    · by_cases h2 : kd = 2
      · subst h2
        go_wp2_with fail
        go_meet
        exact ⟨rfl, rfl⟩
      · by_cases h4 : kd = 4
        · subst h4
          go_wp2_with fail
          go_meet
          exact ⟨rfl, rfl⟩
        · have e1 := i64_bne kd 1 h1
          have e2 := i64_bne kd 2 h2
          have e4 := i64_bne kd 4 h4
          have eb := Lib.hid (show badK kd = true by unfold badK; simp [h1, h2, h4])
          clear h1 h2 h4
          go_wp2_with fail
          go_meet
          exact ⟨by rw [eb.out], rfl⟩
  case rest =>
    obtain ⟨rfl, rfl⟩ := hcut
    obtain ⟨bk, hbk⟩ : ∃ q, badK kd = q := ⟨_, rfl⟩
    rw [hbk]
    cases bk with
    | true =>
      have HLV : Hid (LvSpec l fr kd [] 2) := Lib.hid (.inl ⟨by
        unfold badK at hbk
        simp only [Bool.and_eq_true, decide_eq_true_eq] at hbk
        exact ⟨hbk.1, hbk.2.1, hbk.2.2⟩, rfl, rfl⟩)
      clear hbk
      go_wp2_with fail
      exact bodyPost_ret (results_tt (a := 6) (b := 7) rfl _ _ _ _ rfl rfl) rfl ⟨Below.refl _ _, .slice none 0 0, [], 2, rfl, ls_nil _, HLV.out⟩
    | false =>
      have HKD : Hid (¬ (kd ≠ 1 ∧ kd ≠ 2 ∧ kd ≠ 4)) := Lib.hid (fun hh => by
        unfold badK at hbk
        simp [hh.1, hh.2.1, hh.2.2] at hbk)
      clear hbk
      go_wp2_with fail
      refine C29.out.mono ?_
      rintro e w1 ⟨b1, u1, R, er, rfl, L1, t1⟩
      have B1 : Hid (Below m w w1) := Lib.hid (by rw [HM.out]; exact b1)
      have HTF := Lib.hid t1
      have HL1 := Lib.hid L1
      clear b1 L1 t1 C29
      by_cases he : er = 0
      · subst he
        have hok : (∀ k, k ∈ fr → inR l k = true) ∧ ∃ Q, Shut l fr Q ∧ R = (List.range l.length).map fun i => (Q i).getD [] := by
          rcases triesF_ok HTF.out with ⟨h, _⟩ | ⟨_, h1, h2⟩
          · exact absurd rfl h
          · exact ⟨h1, h2⟩
        obtain ⟨hin, Q, hsh, hRq⟩ := hok
        have HIN := Lib.hid hin
        have HSH := Lib.hid hsh
        have HRQ := Lib.hid hRq
        clear hin hsh hRq
        go_wp2_with fail
        refine (C28.out w1 B1.out).mono ?_
        rintro e w2 ⟨b2, g2, Qr, rfl, k2, _, r2⟩
        rw [← HN.out] at k2 ⊢
        have B2 : Hid (Below m w w2) := Lib.hid (B1.out.trans (b2.mono (by have := B1.out.size; have := HM.out; omega)))
        have HL2 := Lib.hid (HL1.out.keep b2)
        have HK2 := Lib.hid k2
        have HR2 := Lib.hid r2
        clear b2 k2 r2 HL1 C28
        obtain ⟨hR0, st, ct, et⟩ := HL2.out.form
        have hRl : R.length = n := by rw [HRQ.out, List.length_map, List.length_range, HN.out]
        rw [hRl] at et hR0
        subst et
        have B3 := Lib.hid ((Below.refl w2.heap.size w2).alloc (Nat.le_refl _) (.cells (Array.replicate n (.slice none 0 0)) 23))
        have X3 := Lib.hid (Blk.new w2 23 (Array.replicate n (.slice none 0 0)))
        obtain ⟨go, hgo⟩ : ∃ q, q = w2.heap.size := ⟨_, rfl⟩
        have HT2 : Hid (∀ W, Below go w2 W → ∀ i, i < n → ∃ si ci, W.cell? ⟨(st.getD ⟨0, 0, none⟩).block, (st.getD ⟨0, 0, none⟩).off + i, none⟩ = some (.slice si ((Q i).getD []).length ci) ∧ SlAt W 1 inC (.slice si ((Q i).getD []).length ci) ((Q i).getD []) ∧ ∃ q, st = some ⟨(st.getD ⟨0, 0, none⟩).block, (st.getD ⟨0, 0, none⟩).off, q⟩ ∧ q = none) := Lib.hid (fun W hW i hi => by
          rw [hgo] at hW
          obtain ⟨Vs, h1, h2, h3⟩ := HL2.out.keep hW
          have hvl : Vs.length = n := h2.trans hRl
          obtain ⟨bt, ot, e, _, hc⟩ := h1.get (by omega)
          subst e
          have hi2 : i < Vs.length := by omega
          have k1 := hc i 0 hi2 (by omega)
          have k2 := h3 i hi2 (by rw [hRl]; exact hi)
          have e3 : R[i]'(by rw [hRl]; exact hi) = (Q i).getD [] := by simp [HRQ.out]
          rw [e3] at k2
          obtain ⟨_, si, ci, e4⟩ := k2.len
          rw [e4] at k2
          simp only [vlC, List.getElem?_cons_zero, Nat.add_zero, Nat.mul_one, e4] at k1
          exact ⟨si, ci, k1, k2, none, rfl, rfl⟩)
        have HK3 : Hid (∀ W, Below go w2 W → ∀ i, i < n → W.cell? ⟨g2, i, none⟩ = some (.bool (Qr i))) := Lib.hid (fun W hW i hi => by
          have := HK2.out.below hW (by rw [hgo]; exact HK2.out.lt)
          exact seen_cell this hi)
        have HBW : Hid (∀ W, Below go w2 W → Below m w W) := Lib.hid (fun W hW => B2.out.trans (hW.mono (by rw [hgo]; have := B2.out.size; have := HM.out; omega)))
        have HO3 : Hid (OutS (w2.alloc (.cells (Array.replicate n (.slice none 0 0)) 23)) go n (fun _ => [])) := Lib.hid ⟨List.replicate n (.slice none 0 0), by simp, by rw [hgo]; exact blk_replicate X3.out, fun i hi => by rw [List.getElem_replicate]; exact nil_slc _⟩
        rw [← hgo] at B3
        have HGO := Lib.hid hgo
        have HGI : Hid (GI l fr (fun i => (Q i).getD []) kd (fun _ => [])) := Lib.hid (GI.start _ _ _ _)
        have HCL : Hid (true = false → ∀ i (hi : i < l.length), Rch l fr i → befF l kd (fun _ => []) i l[i] ((Q i).getD []) = []) := Lib.hid (fun h => by cases h)
        have HMN : Hid (∀ (S : Nat → List Int), GI l fr (fun i => (Q i).getD []) kd S → ∀ j, ∀ x ∈ S j, x ∈ gat kd (argsF l)) := Lib.hid (fun S hS j x hx => (hS.sound j x hx).named)
        go_upto_region 8 with fail
        rw [← hgo]
        generalize w2.alloc (.cells (Array.replicate n (.slice none 0 0)) 23) = w3 at B3 HO3 ⊢
        clear hgo X3 mk3 HL2 HK2 B1
        go_wp2_with fail
        go_loopw [12] (fun z W => ∃ (ch : Bool) (S : Nat → List Int), z = .bool ch ∧ Hid (OutS W go n S) ∧ Hid (GI l fr (fun i => (Q i).getD []) kd S) ∧ Hid (Below go w2 W) ∧ Hid (ch = false → ∀ i (hi : i < l.length), Rch l fr i → befF l kd S i l[i] ((Q i).getD []) = S i)) (fun z W => 2 * missW Ml n go W + booC z)
        case atStart => exact ⟨true, _, rfl, HO3, HGI, B3, HCL⟩
        case round =>
          obtain ⟨ch, S, rfl, HO, HG, HB, HC⟩ := hrel
          clear HO3 HGI B3 HCL
          cases ch with
          | false =>
            have HLS := Lib.hid (HO.out.ls (by omega))
            have HLV : Hid (LvSpec l fr kd ((List.range n).map S) 0) := Lib.hid (.inr ⟨HKD.out, .inr ⟨rfl, HIN.out, Q, HSH.out, by rw [List.length_map, List.length_range, HN.out], fun i hi => by
              rw [List.getElem_map, List.getElem_range]
              exact ⟨HG.out.up i, fun x => HG.out.fin (HC.out rfl) i x⟩⟩⟩)
            have HBE := Lib.hid (HBW.out wr HB.out)
            clear HC
            go_wp2_with fail
            exact bodyPost_ret (results_tt (a := 6) (b := 7) rfl _ _ _ _ rfl rfl) rfl ⟨by rw [← HM.out]; exact HBE.out, _, _, 0, rfl, HLS.out, HLV.out⟩
          | true =>
            have HMS := Lib.hid (missW_eq (Ml := Ml) HO.out)
            have HPH : Hid (PH l fr (fun i => (Q i).getD []) kd Ml S S ((n : Int) - 1) false) := Lib.hid (by rw [HN.out]; exact PH.start _ _ _ _ _ _)
            clear HC
            go_wp2_with fail
            go_loopw [12, 13] (fun z12 z W => ∃ (ch : Bool) (S' : Nat → List Int) (i : Nat), i ≤ n ∧ z12 = .bool ch ∧ z = .int .i64 ((i : Int) - 1) ∧ Hid (OutS W go n S') ∧ Hid (GI l fr (fun i => (Q i).getD []) kd S') ∧ Hid (Below go w2 W) ∧ Hid (PH l fr (fun i => (Q i).getD []) kd Ml S S' ((i : Int) - 1) ch)) (fun _ z _ => (intC z + 1).toNat)
            case atStart => exact ⟨false, S, n, Nat.le_refl _, rfl, rfl, HO, HG, HB, HPH⟩
            case round =>
              obtain ⟨ch, S', i1, hi1, rfl, rfl, HO1, HG1, HB1, HP1⟩ := hrel
              clear HO HG HB HPH
              by_cases h0 : i1 = 0
              · subst h0
                have HM2 := Lib.hid (missW_eq (Ml := Ml) HO1.out)
                have HCF : Hid (ch = false → ∀ i (hi : i < l.length), Rch l fr i → befF l kd S' i l[i] ((Q i).getD []) = S' i) := Lib.hid (fun e i hi hr => by
                  have := HP1.out.no e
                  rw [this.1]
                  exact this.2 i hi (by simp; omega) hr)
                have HME : Hid (2 * missL Ml n S' + booC (.bool ch) < 2 * missL Ml n S + booC (.bool true)) := Lib.hid (by
                  cases ch with
                  | true =>
                    have := HP1.out.yes rfl
                    rw [← HN.out] at this
                    omega
                  | false =>
                    rw [(HP1.out.no rfl).1]
                    simp [booC])
                clear HP1
                go_wp2_with fail
                go_roundw
                case rel => exact ⟨ch, S', rfl, HO1, HG1, HB1, HCF⟩
                case measure => rw [HM2.out, HMS.out]; exact HME.out
              · obtain ⟨i, rfl⟩ : ∃ i, i1 = i + 1 := ⟨i1 - 1, by omega⟩
                have hin : i < n := by omega
                have hil : i < l.length := by rw [← HN.out]; exact hin
                have hini : (i : Int) < (n : Int) := by omega
                rw [show ((i + 1 : Nat) : Int) - 1 = (i : Int) by omega] at HP1 ⊢
                clear h0
                have qr := HK3.out wr HB1.out i hin
                cases hq : Qr i with
                | false =>
                  rw [hq] at qr
                  have HP2 := Lib.hid (HP1.out.skip (fun hr => by rw [(HR2.out i).2 hr] at hq; cases hq))
                  clear hq HP1
                  go_wp2_with fail
                  go_roundw
                  case rel => exact ⟨ch, S', i, by omega, rfl, by go_num, HO1, HG1, HB1, HP2⟩
                  case measure => simp [intC]
                | true =>
                  rw [hq] at qr
                  have HRI := Lib.hid ((HR2.out i).1 hq)
                  obtain ⟨si, ci, qo, hsi⟩ := HO1.out.get hin
                  obtain ⟨sj, cj, qt, hsj, q0, est, hq0⟩ := HT2.out wr HB1.out i hin
                  subst hq0
                  obtain ⟨bt, ot, rfl⟩ : ∃ bt ot, st = some ⟨bt, ot, none⟩ := ⟨_, _, est⟩
                  simp only [Option.getD_some] at qt
                  have CB := Lib.hid (C39'.out wr (HBW.out wr HB1.out) i hil S' ((Q i).getD []) go _ HO1.out hsj HG1.out.up (HMN.out S' HG1.out))
                  clear est hq hsj
                  obtain ⟨nj, hnj⟩ : ∃ q, q = ((Q i).getD []).length := ⟨_, rfl⟩
                  rw [← hnj] at qt CB
                  obtain ⟨ni, hni⟩ : ∃ q, q = (S' i).length := ⟨_, rfl⟩
                  rw [← hni] at qo hsi
                  have HNI := Lib.hid hni
                  obtain ⟨L, hL⟩ : ∃ q, q = befF l kd S' i l[i] ((Q i).getD []) := ⟨_, rfl⟩
                  rw [← hL] at CB
                  have HLL := Lib.hid hL
                  clear hnj hni hsi hL
                  go_wp2_with fail
                  refine CB.out.mono ?_
                  rintro e w6 ⟨b6, u6, rfl, s6⟩
                  have HG7 := Lib.hid (HG1.out.step hil HRI.out)
                  rw [← HLL.out] at HG7
                  have HLM : Hid (L.length ≤ Ml) := Lib.hid (by
                    have h1 := HG7.out.up i
                    have h2 := HMN.out _ HG7.out i
                    rw [upd_at] at h1 h2
                    rw [HMl.out]
                    exact up_len _ _ h1 h2)
                  have HSA : Hid (L.length ≤ (S' i).length → L = S' i) := Lib.hid (fun h => by
                    rw [HLL.out] at h ⊢
                    exact addS_same _ (HG1.out.up i) h)
                  have HO6 := HO1.out.keep b6
                  obtain ⟨sx, cx, qo6, _⟩ := HO6.get hin
                  rw [← HNI.out] at qo6
                  have qf6 : w6.frozen? ⟨go, i, none⟩ = false := by
                    obtain ⟨_, _, k, _⟩ := HO6
                    exact k.frozen i
                  have HO7 := Lib.hid (HO6.set hin s6)
                  obtain ⟨s7, c7, e7, _⟩ := s6.2
                  subst e7
                  have HZ6 : Hid (go ≤ wr.heap.size) := Lib.hid (Nat.le_trans (by rw [HGO.out]; exact Nat.le_refl _) HB1.out.size)
                  have HB7 := Lib.hid ((HB1.out.trans (b6.mono HZ6.out)).setCell (p := ⟨go, i, none⟩) (Nat.le_refl go) (.slice s7 L.length c7))
                  have HQ7 : Hid (∃ s c, (w6.setCell ⟨go, i, none⟩ (.slice s7 L.length c7)).cell? ⟨go, i, none⟩ = some (.slice s L.length c)) := Lib.hid (by
                    obtain ⟨s, c, h, _⟩ := HO7.out.get hin
                    rw [upd_at] at h
                    exact ⟨s, c, h⟩)
                  obtain ⟨NL, hNL⟩ : ∃ q, q = L.length := ⟨_, rfl⟩
                  rw [← hNL] at HO7 HB7 HQ7 ⊢
                  have HNL := Lib.hid hNL
                  have hNL8 : NL ≤ 1000000000 := by have := HLM.out; have := HML.out; have := HMl.out; omega
                  clear b6 s6 HO6 CB qo qt hNL HO1 HB1
                  go_upto_region 17 with fail
                  clear qo6 qf6 qr
                  generalize w6.setCell ⟨go, i, none⟩ (.slice s7 NL c7) = w7 at HO7 HB7 HQ7 ⊢
                  obtain ⟨s8, c8, q7⟩ := HQ7.out
                  by_cases hg : ni < NL
                  · have hgi : (ni : Int) < (NL : Int) := by omega
                    have HP2 := Lib.hid (HP1.out.grow hil (L := L) (by rw [← HNI.out, ← HNL.out]; exact hg) HLM.out)
                    clear HP1 hg
                    cases ch
                    all_goals
                      go_wp2_with fail
                      go_roundw
                      case rel => exact ⟨true, _, i, by omega, rfl, by go_num, HO7, HG7, HB7, HP2⟩
                      case measure => simp [intC]
                  · have hgi : ¬ (ni : Int) < (NL : Int) := by omega
                    have hsame := HSA.out (by rw [← HNI.out, ← HNL.out]; omega)
                    have HP2 := Lib.hid (HP1.out.same hil (by rw [← HLL.out]; exact hsame))
                    have hu := upd_same S' i L hsame
                    rw [hu] at HO7 HG7
                    clear HP1 hg hsame hu
                    cases ch
                    case true =>
                      go_wp2_with fail
                      go_roundw
                      case rel => exact ⟨true, _, i, by omega, rfl, by go_num, HO7, HG7, HB7, HP2⟩
                      case measure => simp [intC]
                    case false =>
                      go_wp2_with fail
                      go_roundw
                      case rel => exact ⟨false, _, i, by omega, rfl, by go_num, HO7, HG7, HB7, HP2⟩
                      case measure => simp [intC]
      · have hne : (er != 0) = true := i64_bne er 0 he
        have HLV : Hid (LvSpec l fr kd [] er) := Lib.hid (.inr ⟨HKD.out, .inl ⟨he, rfl, by
          rcases triesF_ok HTF.out with ⟨_, h⟩ | ⟨h, _⟩
          · rw [← h]; exact HTF.out
          · exact absurd h he⟩⟩)
        clear he
        go_wp2_with fail
        exact bodyPost_ret (results_tt (a := 6) (b := 7) rfl _ _ _ _ rfl rfl) rfl ⟨by rw [← HM.out]; exact B1.out, .slice none 0 0, [], er, rfl, ls_nil _, HLV.out⟩
end Go.Proofs.YtekfnonjhcfdmaaDoor
