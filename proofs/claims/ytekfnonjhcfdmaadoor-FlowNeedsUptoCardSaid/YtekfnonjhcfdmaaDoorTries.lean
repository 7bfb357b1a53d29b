/- flow.Tries. -/
import Derived.Test.YtekfnonjhcfdmaaDoorNests
import Derived.Test.YtekfnonjhcfdmaaDoorFix1
import Derived.Test.YtekfnonjhcfdmaaDoorWalk1
namespace Go.Proofs.YtekfnonjhcfdmaaDoor
open Go.RowKit Go.Shelf Go.Rt Go.Rw

theorem sl_form2 {α : Type} {W : World} {B t m : Nat} {c : α → List Value} {v : Value} {L : List α} (h : Sl W B t m c v L) : ∃ sa co, v = .slice sa L.length co := by
  rcases h.form with ⟨rfl, rfl⟩ | ⟨g, cap, rfl, _⟩
  · exact ⟨_, _, rfl⟩
  · exact ⟨_, _, rfl⟩
/-- Fewer than n numbers below n. -/
theorem pigeon : ∀ (n k : Nat) (f : Nat → Nat), (∀ m, m ≤ k → f m < n) → (∀ a b, a ≤ k → b ≤ k → f a = f b → a = b) → k < n
  | 0, k, f, h, _ => absurd (h 0 (Nat.zero_le _)) (by omega)
  | n + 1, 0, _, _, _ => by omega
  | n + 1, k + 1, f, h, hi => by
    have := pigeon n k (fun m => if f m = n then f (k + 1) else f m) (fun m hm => by
      try dsimp only
      split
      · rename_i e
        have h1 := h (k + 1) (Nat.le_refl _)
        have h2 : f (k + 1) ≠ n := fun e2 => by have := hi m (k + 1) (by omega) (Nat.le_refl _) (e.trans e2.symm); omega
        omega
      · rename_i e
        have := h m (by omega)
        omega) (fun a b ha hb hab => by
      try dsimp only at hab
      split at hab
      · rename_i e
        split at hab
        · rename_i e2
          exact hi a b (by omega) (by omega) (e.trans e2.symm)
        · have := hi (k + 1) b (Nat.le_refl _) (by omega) hab
          omega
      · split at hab
        · have := hi a (k + 1) (by omega) (Nat.le_refl _) hab
          omega
        · exact hi a b (by omega) (by omega) hab)
    omega
/-- No more handlers are open than there are instructions. -/
theorem Shut.len {l : List In} {fr : List Int} {Q : Nat → Option (List Int)} (h : Shut l fr Q) (i : Nat) : ((Q i).getD []).length ≤ l.length := by
  have hF := h.fits
  have hall : ∀ i, Rch l fr i → ∀ m, m ≤ ((Q i).getD []).length → ∃ j, Rch l fr j ∧ ((Q j).getD []).length = m := by
    intro i hr
    induction hr with
    | entry i h1 h2 =>
      intro m hm
      have := hF.entry i h1 h2
      try dsimp only at this
      rw [this] at hm
      exact ⟨i, .entry i h1 h2, by rw [this]; simp at hm ⊢; omega⟩
    | step i j hi hr hj ht ih =>
      intro m hm
      obtain ⟨o, ho, hq⟩ := hF.step i hi hr
      have e := hq j hj ht
      try dsimp only at e ho
      by_cases hle : m ≤ ((Q i).getD []).length
      · exact ih m hle
      · refine ⟨j, .step i j hi hr hj ht, ?_⟩
        rw [e] at hm ⊢
        unfold aftF at ho
        split at ho
        · cases ho
          simp at hm ⊢
          omega
        · split at ho
          · split at ho
            · cases ho
            · cases ho
              simp at hm
              omega
          · cases ho
            omega
    | hand i j hi hr hj h1 h2 ih =>
      intro m hm
      have e := hF.hand i j hi hr hj h1 h2
      try dsimp only at e
      rw [e] at hm
      exact ih m hm
  cases e : Q i with
  | none => simp
  | some t =>
    have hr := (h.rch i).2 ⟨t, e⟩
    have hA := hall i hr
    rw [e] at hA
    have hc : ∀ m, ∃ j, m ≤ t.length → (Rch l fr j ∧ ((Q j).getD []).length = m) := fun m => by
      by_cases hm : m ≤ t.length
      · obtain ⟨j, hj⟩ := hA m hm
        exact ⟨j, fun _ => hj⟩
      · exact ⟨0, fun h => absurd h hm⟩
    have := pigeon l.length t.length (fun m => (hc m).choose) (fun m hm => ((hc m).choose_spec hm).1.lt) (fun a b ha hb hab => by
      have h1 := ((hc a).choose_spec ha).2
      have h2 := ((hc b).choose_spec hb).2
      try dsimp only at hab
      rw [hab] at h1
      exact h1.symm.trans h2)
    simp
    omega
/-- The lists that are returned, the first i of n. -/
structure OutG (r : Nat → List Int) (n go i : Nat) (Vs : List Value) (W : World) : Prop where
  len : Vs.length = n
  arr : Blk W go 23 Vs.toArray
  done : ∀ j, j < i → ∃ v, Vs[j]? = some v ∧ Sl W 0 3 1 inC v (r j)
theorem OutG.start (r : Nat → List Int) {n go : Nat} {W : World} (h : Blk W go 23 (Array.replicate n (.slice none 0 0))) : OutG r n go 0 (List.replicate n (.slice none 0 0)) W :=
  ⟨by simp, by simpa using h, fun j h => by omega⟩
theorem OutG.below {r : Nat → List Int} {n go i : Nat} {Vs : List Value} {W W' : World} (h : OutG r n go i Vs W) (hb : Below W.heap.size W W') : OutG r n go i Vs W' :=
  ⟨h.len, h.arr.below hb h.arr.lt, fun j hj => by obtain ⟨v, h1, h2⟩ := h.done j hj; exact ⟨v, h1, h2.below hb (fun g hg => (h2.lt g hg).2)⟩⟩
theorem OutG.next {r : Nat → List Int} {n go i z : Nat} {Vs : List Value} {W : World} (h : OutG r n go i Vs W) (hi : i < n) {v : Value} (hv : Sl W z 3 1 inC v (r i)) : OutG r n go (i + 1) (Vs.set i v) (W.setCell ⟨go, i, none⟩ v) := by
  have ho : Only [go] W (W.setCell ⟨go, i, none⟩ v) := Only.setCell W _ _ (by simp)
  refine ⟨by rw [List.length_set]; exact h.len, by have := h.arr.set_ i v; rwa [List.setIfInBounds_toArray] at this, fun j hj => ?_⟩
  by_cases e : j = i
  · subst e
    exact ⟨v, List.getElem?_set_self (by rw [h.len]; exact hi), (hv.mono (Nat.zero_le _)).only ho (sl_off_blk hv h.arr (by decide))⟩
  · obtain ⟨u, h1, h2⟩ := h.done j (by omega)
    exact ⟨u, by rw [List.getElem?_set_ne (Ne.symm e)]; exact h1, h2.only ho (sl_off_blk h2 h.arr (by decide))⟩
theorem OutG.ls {r : Nat → List Int} {n go : Nat} {Vs : List Value} {W : World} (h : OutG r n go n Vs W) (hn : n ≤ 9223372036854775807) : LsAt W ((List.range n).map r) (.slice (some ⟨go, 0, none⟩) n n) := by
  refine ⟨Vs, ?_, by rw [h.len]; simp, fun i a b => ?_⟩
  · have := blk_slAt (cap := n) h.arr (by rw [h.len]; exact hn)
    rwa [h.len] at this
  · have hin : i < n := by rw [← h.len]; exact a
    obtain ⟨v, h1, h2⟩ := h.done i hin
    rw [List.getElem?_eq_getElem a] at h1
    cases h1
    rw [List.getElem_map, List.getElem_range]
    exact h2.at in_len
set_option maxRecDepth 100000 in
set_option maxHeartbeats 8000000 in
theorem list46b (r : List Int) (u : Value) (w : World) (h : NestAt w r u) (hl : r.length ≤ 9000000000000) : Calls Tryd.prog 46 #[u] w (NsR r.reverse w) := by
  have H := Lib.hid h
  clear h
  go_enter Tryd.func46, Tryd.ntmps46
  go_wp2_with fail
  go_loopw [0, 3] (fun u z wr => ∃ (s q : List Int) (sa : Option Addr) (co : Nat), Hid (r = q ++ s) ∧ Hid (NestAt wr s u) ∧ z = .slice sa q.length co ∧ Hid (Sl wr w.heap.size 3 1 inC (.slice sa q.length co) q) ∧ Hid (Below w.heap.size w wr)) (fun u z _ => match z with | .slice _ n _ => r.length - n | _ => 0)
  case atStart => exact ⟨r, [], none, 0, Lib.hid rfl, H, rfl, Lib.hid (Sl.nil _ _ _ _ _), Lib.hid (Below.refl _ _)⟩
  case round =>
    obtain ⟨s, q, sa, co, hr, hn, rfl, hs, hb⟩ := hrel
    clear H
    cases s with
    | nil =>
      obtain rfl : _ = Value.pointer none := hn.out
      have HQ : Hid (r.reverse = q.reverse) := Lib.hid (by rw [hr.out, List.append_nil])
      have hql : q.length ≤ 9000000000000 := by have := congrArg List.length hr.out; simp at this; omega
      go_wp2_with fail
      refine (rev62 hs.out (by omega)).mono ?_
      rintro e w1 ⟨rfl, s1, g1⟩
      have B1 := Lib.hid (hb.out.grown g1 hb.out.size (fun j hj => (hs.out.lt j hj).1))
      have S1 := Lib.hid s1
      clear s1 g1 hs
      go_wp2_with fail
      go_ret
      exact ⟨B1.out, _, rfl, by rw [HQ.out]; exact S1.out⟩
    | cons a s =>
      obtain ⟨b, o, rfl, h2, h3⟩ := hn.out
      have hql : q.length + 1 ≤ 9000000000000 := by have := congrArg List.length hr.out; simp at this; omega
      have c0 := h2.cell 0
      simp only [List.getElem?_toArray, List.getElem?_cons_zero] at c0
      have hwb := hb.out.size
      obtain ⟨g, cap, W2, hrun, sl2, hgrow, _⟩ := sl_push_in (hs.out.only (bs := []) (Only.alloc [] wr (.cells #[.int .i64 a] 3)) (fun g hg hm => by cases hm)) a wr.heap.size (Blk.new wr 3 _) (by omega) (by simp; omega)
      have K2 : Keep71 wr W2 := fun g' cs hg => (hgrow.block g' (by have := hg.lt; simp; omega) (fun e => by
        rcases hs.out.2 with ⟨q1, _⟩ | ⟨g2, cap2, cur, q1, _, q3, _⟩
        · rw [q1] at e
          simp [Value.ownBlock] at e
        · rw [q1] at e
          simp only [Value.ownBlock, Option.some.injEq] at e
          subst e
          have := hg.symm.trans q3
          simp at this)).trans (hg.alloc _)
      have B2 : Hid (Below w.heap.size w W2) := Lib.hid (hb.out.trans (((Below.refl w.heap.size wr).alloc hwb _).grown hgrow (by simp; omega) (fun j hj => (hs.out.lt j hj).1)))
      have c1 := (K2 _ _ h2).cell 1
      simp only [List.getElem?_toArray, List.getElem?_cons_zero, List.getElem?_cons_succ] at c1
      have N2 := Lib.hid (h3.keep K2)
      have SL2 := Lib.hid sl2
      have HRN := Lib.hid hrun
      clear hrun sl2 hgrow K2 h2 h3 hn hs hb
      go_wp2_with (at_builtin; refine wpList_append_run rfl _ _ 23 23 rfl rfl rfl HRN.out ?_)
      go_roundw
      case rel => exact ⟨s, q ++ [a], some ⟨g, 0, none⟩, cap, Lib.hid (by rw [hr.out]; simp), N2, by simp, by simpa using SL2, B2⟩
      case measure => have := congrArg List.length hr.out; simp at this; simp; omega
/-- What Tries returns. -/
def TrR (l : List In) (fr : List Int) (w : World) (e : Ending) (w' : World) : Prop := Below w.heap.size w w' ∧ ∃ (v : Value) (R : List (List Int)) (er : Int), e = .returned (.tuple #[v, .int .i64 er]) ∧ LsAt w' R v ∧ triesF l fr = (R, er)
set_option maxRecDepth 100000 in
set_option maxHeartbeats 8000000 in
theorem tries26 (l : List In) (fr : List Int) (v fv : Value) (w : World) (h : InsAt w l v) (hfv : SlAt w 1 inC fv fr) (hb1 : l.length ≤ 8000000000000) (hb2 : ∀ x ∈ l, x.cases.length ≤ 8999999999998) :
    Calls Tryd.prog 26 #[v, fv] w (TrR l fr w) := by
  obtain ⟨_, sa, cap, rfl⟩ := h.form
  obtain ⟨n, hn⟩ : ∃ n, n = l.length := ⟨_, rfl⟩
  rw [← hn] at h hb1 ⊢
  have HN := Lib.hid hn
  have C32 := Lib.hid (nests32 l fr (.slice sa n cap) fv w h hfv (by omega) hb2)
  clear h hfv hn hb2
  go_enter Tryd.func26, Tryd.ntmps26
  go_wp2_with fail
  refine C32.out.mono ?_
  rintro e W1 ⟨b1, hcase⟩
  have B1 := Lib.hid b1
  rcases hcase with ⟨er, her, htr, rfl⟩ | ⟨gB, gS, Q, T, hin, hsh, rfl, hse, htl, hbf, hne, hgB, hgS⟩
  · have HTR := Lib.hid htr
    have her2 := i64_bne er 0 her
    clear her htr b1
    go_wp2_with fail
    exact bodyPost_ret (results_tt (a := 4) (b := 5) rfl _ _ _ _ rfl rfl) rfl ⟨B1.out, _, [], er, rfl, ⟨[], .inl ⟨rfl, _, _, rfl⟩, rfl, fun i h => by simp at h⟩, HTR.out⟩
  · rw [← HN.out]
    have HBF := Lib.hid hbf
    have HTL : Hid (T.length = n) := Lib.hid (by rw [htl, HN.out])
    have HNE := Lib.hid hne
    have HLEN : Hid (∀ i, ((Q i).getD []).length ≤ n) := Lib.hid (fun i => by rw [HN.out]; exact hsh.len i)
    have HTR : Hid (triesF l fr = ((List.range n).map fun i => (Q i).getD [], 0)) := Lib.hid (by rw [HN.out]; exact triesF_shut hin hsh)
    have mk := fun (W : World) => mk26 n (by omega) W
    clear hse htl hbf hne hin hsh hgB hgS b1 C32
    go_upto_region 5 with fail
    clear mk
    obtain ⟨go, hgo⟩ : ∃ q, q = W1.heap.size := ⟨_, rfl⟩
    have bb : Below W1.heap.size W1 (W1.alloc (.cells (Array.replicate n (.slice none 0 0)) 23)) := (Below.refl _ _).alloc (Nat.le_refl _) _
    have HO2 : Hid (OutG (fun i => (Q i).getD []) n go 0 (List.replicate n (.slice none 0 0)) (W1.alloc (.cells (Array.replicate n (.slice none 0 0)) 23))) := Lib.hid (OutG.start _ (by rw [hgo]; exact Blk.new W1 23 _))
    have HB2 := Lib.hid (HBF.out.below bb HBF.out.lt)
    have HN2 : Hid (∀ (i : Nat) (h : i < T.length), NestAt (W1.alloc (.cells (Array.replicate n (.slice none 0 0)) 23)) ((Q i).getD []).reverse T[i]) := Lib.hid (fun i h => (HNE.out i h).keep (Keep71.below bb (Nat.le_refl _)))
    have B2 : Hid (Below w.heap.size w (W1.alloc (.cells (Array.replicate n (.slice none 0 0)) 23)) ∧ w.heap.size ≤ go) := Lib.hid ⟨B1.out.alloc B1.out.size _, by rw [hgo]; exact B1.out.size⟩
    generalize W1.alloc (.cells (Array.replicate n (.slice none 0 0)) 23) = V2 at HO2 HB2 HN2 B2 ⊢
    rw [← hgo]
    clear hgo bb HBF HNE B1
    have HOF : Hid (∀ W, Only [go] V2 W → Blk W gB 69 T.toArray ∧ Keep71 V2 W ∧ Below w.heap.size w W) := Lib.hid (fun W ho => ⟨HB2.out.only ho (fun hm => blk_ne HB2.out HO2.out.arr (by decide) (List.mem_singleton.1 hm)), fun g cs hg => hg.only ho (fun hm => blk_ne hg HO2.out.arr (by decide) (List.mem_singleton.1 hm)), B2.out.1.trans (ho.below (by simpa using B2.out.2) B2.out.1.size)⟩)
    go_wp2_with fail
    go_loopw [27] (fun z W => ∃ (i : Nat) (Vs : List Value), i ≤ n ∧ z = .int .i64 (i : Int) ∧ Hid (OutG (fun i => (Q i).getD []) n go i Vs W) ∧ Hid (Only [go] V2 W)) (fun z _ => n - (intOf z).toNat)
    case atStart => exact ⟨0, _, Nat.zero_le _, rfl, HO2, Lib.hid (Only.refl _ _)⟩
    case round =>
      obtain ⟨i, Vs, hi, rfl, HO, HW⟩ := hrel
      clear HO2
      by_cases hlt : i < n
      · have hlti : (i : Int) < (n : Int) := by omega
        have hiT : i < T.length := by rw [HTL.out]; exact hlt
        obtain ⟨tv, htv⟩ : ∃ u, u = T[i] := ⟨_, rfl⟩
        have ct : wr.cell? ⟨gB, i, none⟩ = some tv := by rw [(HOF.out wr HW.out).1.cell i, List.getElem?_toArray, List.getElem?_eq_getElem hiT, htv]
        have C46 := Lib.hid (list46b ((Q i).getD []).reverse tv wr (by rw [htv]; exact (HN2.out i hiT).keep (HOF.out wr HW.out).2.1) (by rw [List.length_reverse]; have := HLEN.out i; omega))
        clear htv
        go_wp2_with fail
        refine C46.out.mono ?_
        rintro e W3 ⟨b3, v3, rfl, s3⟩
        rw [List.reverse_reverse] at s3
        obtain ⟨sv, cv, rfl⟩ := sl_form2 s3
        obtain ⟨nv, hnv⟩ : ∃ q, q = ((Q i).getD []).length := ⟨_, rfl⟩
        rw [← hnv] at s3 ⊢
        have HO3 := Lib.hid ((HO.out.below b3).next hlt s3)
        have HA := Lib.hid (HO.out.below b3).arr
        have HW3 : Hid (Only [go] V2 (W3.setCell ⟨go, i, none⟩ (.slice sv nv cv))) := Lib.hid ((HW.out.trans (Only.of_below b3)).trans (Only.setCell W3 _ _ (by simp)))
        obtain ⟨u, hu⟩ : ∃ u, Vs[i]? = some u := ⟨_, List.getElem?_eq_getElem (by rw [HO.out.len]; exact hlt)⟩
        have cg := HA.out.cell i
        rw [List.getElem?_toArray, hu] at cg
        have fg := HA.out.frozen i
        clear b3 s3 hnv ct HO HW C46 hu HA
        go_upto_region 9 with fail
        generalize W3.setCell ⟨go, i, none⟩ (.slice sv nv cv) = W4 at HO3 HW3 ⊢
        clear cg fg
        go_wp2_with fail
        go_roundw
        case rel => exact ⟨i + 1, _, by omega, by go_num, HO3, HW3⟩
        case measure => simp [intOf]; omega
      · have hlti : ¬ (i : Int) < (n : Int) := by omega
        obtain rfl : n = i := by omega
        clear hlt
        go_wp2_with fail
        exact bodyPost_ret (results_tt (a := 4) (b := 5) rfl _ _ _ _ rfl rfl) rfl ⟨(HOF.out wr HW.out).2.2, _, _, 0, rfl, HO.out.ls (by omega), HTR.out⟩
end Go.Proofs.YtekfnonjhcfdmaaDoor
