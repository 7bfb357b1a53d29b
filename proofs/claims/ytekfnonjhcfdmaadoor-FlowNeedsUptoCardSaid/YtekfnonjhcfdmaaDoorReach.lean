/- flow.Reach. -/
import Derived.Test.YtekfnonjhcfdmaaDoorFam1
import Derived.Test.YtekfnonjhcfdmaaDoorWalk1
import Derived.Test.YtekfnonjhcfdmaaDoorNests
namespace Go.Proofs.YtekfnonjhcfdmaaDoor
open Go.RowKit Go.Shelf Go.Rt Go.Rw
attribute [local go_sem] Oper.semAt_some

/-- What Reach returns. -/
def ReR (l : List In) (fr : List Int) (w : World) (e : Ending) (w' : World) : Prop := Below w.heap.size w w' ∧ ∃ (gS : Nat) (Q : Nat → Bool), e = .returned (.slice (some ⟨gS, 0, none⟩) l.length l.length) ∧
  Blk w' gS 4 ((List.range l.length).map fun i => Value.bool (Q i)).toArray ∧ w.heap.size ≤ gS ∧ ∀ i, Q i = true ↔ Rch l fr i
/-- What a round over the targets keeps. -/
structure RgJ (l : List In) (fr : List Int) (w : World) (A0 Bs Bo Bp gS D b o n jn : Nat) (f : Im) (lv FV : Value) (Ds : List Nat) (QR : Nat → Bool) (mu : Nat) (Q : Nat → Bool) (O : List Int) (k : Nat) (W : World) : Prop where
  rs : RS A0 Bs Bo gS w.heap.size lv n ([D - 2, D - 1] ++ (Ds ++ [Bp])) Q O W
  off : OffO Bo [D, D + 1] W
  pre : TPre (D - 2) (D - 1) b (o + jn * 10) f jn W
  bp : Boxed W Bp 81 FV
  ds : ∀ E ∈ Ds, W.heap[E]? = some (.deferred (some []))
  below : Below w.heap.size w W
  si : RI l fr Q O jn
  le : LeB QR Q
  done : ∀ (i : Nat) (hi : i < (targF f.x jn).length) (j : Nat), i < k → (targF f.x jn)[i] = j → j < l.length → Q j = true
  cnt : 2 * unB Q n + O.length ≤ mu
theorem RgJ.only {l : List In} {fr : List Int} {w : World} {A0 Bs Bo Bp gS D b o n jn : Nat} {f : Im} {lv FV : Value} {Ds : List Nat} {QR : Nat → Bool} {mu : Nat} {Q : Nat → Bool} {O : List Int} {k : Nat} {W W' : World}
    (h : RgJ l fr w A0 Bs Bo Bp gS D b o n jn f lv FV Ds QR mu Q O k W) (ho : Only [D, D + 1] W W') (hD : w.heap.size + 2 ≤ D) (hlt : A0 < D ∧ Bs < D ∧ Bo < D ∧ gS < D) (hF : ∀ r ∈ Ds ++ [Bp], r < D) (hb : b < w.heap.size) (hc : SlAt w 2 csC f.cv f.x.cases) :
    RgJ l fr w A0 Bs Bo Bp gS D b o n jn f lv FV Ds QR mu Q O k W' := by
  have hn : ∀ r, r < D → r ∉ [D, D + 1] := fun r hr => nin2 hr
  obtain ⟨n1, n2⟩ := h.rs.only (m := D) ho (by intro r hr; simp at hr; omega) h.off hlt
  have hz := h.below.size
  exact ⟨n1, n2, h.pre.later hc hb hz ho (by intro r hr; simp at hr; omega) (hn _ (by omega)) (hn _ (by omega)), (ho.block _ h.bp.lt (hn _ (hF _ (by simp)))).trans h.bp, fun E hE => (ho.block _ (Array.getElem?_eq_some_iff.1 (h.ds E hE)).1 (hn _ (hF _ (by simp [hE])))).trans (h.ds E hE), h.below.trans (ho.below (by intro r hr; simp at hr; omega) hz), h.si, h.le, h.done, h.cnt⟩
set_option maxRecDepth 100000 in
set_option maxHeartbeats 8000000 in
theorem reach27 (l : List In) (fr : List Int) (v fv : Value) (w : World) (h : InsAt w l v) (hfv : SlAt w 1 inC fv fr) (hb1 : l.length ≤ 9000000000000) :
    Calls Tryd.prog 27 #[v, fv] w (ReR l fr w) := by
  obtain ⟨_, sa, cap, rfl⟩ := h.form
  obtain ⟨_, sf, cf, ef⟩ := hfv.len
  obtain ⟨n, hn⟩ : ∃ n, n = l.length := ⟨_, rfl⟩
  obtain ⟨nf, hnf⟩ : ∃ n, n = fr.length := ⟨_, rfl⟩
  rw [← hnf] at ef
  subst ef
  rw [← hn] at h hb1 ⊢
  have HH := Lib.hid h
  have HN := Lib.hid hn
  have HNF := Lib.hid hnf
  have HFV := Lib.hid hfv
  clear h hfv hn hnf
  refine (callsIn_wide (n := 3)).1 ?_
  refine callsIn_of_wp_marks Tryd.func27 rfl trivial ?_ rfl
  refine wpIn_wide.2 ?_
  refine wp_mono (Q := bodyNP Fence.wide 3 Tryd.prog Tryd.f27 (ReR l fr w)) ?_ bodyNP_le
  simp only [Tryd.ntmps27, List.size_toArray, List.length_cons, List.length_nil, Nat.reduceAdd, Nat.reduceSub, Array.replicate_succ, Array.replicate_zero, List.push_toArray, List.append_toArray, List.nil_append, List.cons_append]
  have mk2 := fun (W : World) => mk47 n (by omega) W
  have z0 : (w.alloc (.cells #[.slice sa n cap] 22)).heap.size = w.heap.size + 1 := World.size_alloc _ _
  have wa4 : Blk (((((w.alloc (.cells #[.slice sa n cap] 22)).alloc (.cells (Array.replicate n (.bool false)) 4)).alloc (.cells #[.slice (some ⟨w.heap.size + 1, 0, none⟩) n n] 47)).alloc (.cells #[.slice none 0 0] 23)).alloc (.cells #[.nilFunc] 81)) (w.heap.size + 1 + 1 + 1 + 1) 81 #[.nilFunc] := by
    have := Blk.new ((((w.alloc (.cells #[.slice sa n cap] 22)).alloc (.cells (Array.replicate n (.bool false)) 4)).alloc (.cells #[.slice (some ⟨w.heap.size + 1, 0, none⟩) n n] 47)).alloc (.cells #[.slice none 0 0] 23)) 81 #[.nilFunc]
    rwa [World.size_alloc, World.size_alloc, World.size_alloc, World.size_alloc] at this
  have wa3 : Blk (((((w.alloc (.cells #[.slice sa n cap] 22)).alloc (.cells (Array.replicate n (.bool false)) 4)).alloc (.cells #[.slice (some ⟨w.heap.size + 1, 0, none⟩) n n] 47)).alloc (.cells #[.slice none 0 0] 23)).alloc (.cells #[.nilFunc] 81)) (w.heap.size + 1 + 1 + 1) 23 #[.slice none 0 0] := by
    have := Blk.new (((w.alloc (.cells #[.slice sa n cap] 22)).alloc (.cells (Array.replicate n (.bool false)) 4)).alloc (.cells #[.slice (some ⟨w.heap.size + 1, 0, none⟩) n n] 47)) 23 #[.slice none 0 0]
    rw [World.size_alloc, World.size_alloc, World.size_alloc] at this
    exact this.alloc _
  have wa2 : Blk (((((w.alloc (.cells #[.slice sa n cap] 22)).alloc (.cells (Array.replicate n (.bool false)) 4)).alloc (.cells #[.slice (some ⟨w.heap.size + 1, 0, none⟩) n n] 47)).alloc (.cells #[.slice none 0 0] 23)).alloc (.cells #[.nilFunc] 81)) (w.heap.size + 1 + 1) 47 #[.slice (some ⟨w.heap.size + 1, 0, none⟩) n n] := by
    have := Blk.new ((w.alloc (.cells #[.slice sa n cap] 22)).alloc (.cells (Array.replicate n (.bool false)) 4)) 47 #[.slice (some ⟨w.heap.size + 1, 0, none⟩) n n]
    rw [World.size_alloc, World.size_alloc] at this
    exact (this.alloc _).alloc _
  have wa1 : Blk (((((w.alloc (.cells #[.slice sa n cap] 22)).alloc (.cells (Array.replicate n (.bool false)) 4)).alloc (.cells #[.slice (some ⟨w.heap.size + 1, 0, none⟩) n n] 47)).alloc (.cells #[.slice none 0 0] 23)).alloc (.cells #[.nilFunc] 81)) (w.heap.size + 1) 4 (Array.replicate n (.bool false)) := by
    have := Blk.new (w.alloc (.cells #[.slice sa n cap] 22)) 4 (Array.replicate n (.bool false))
    rw [World.size_alloc] at this
    exact ((this.alloc _).alloc _).alloc _
  have wa0 : Blk (((((w.alloc (.cells #[.slice sa n cap] 22)).alloc (.cells (Array.replicate n (.bool false)) 4)).alloc (.cells #[.slice (some ⟨w.heap.size + 1, 0, none⟩) n n] 47)).alloc (.cells #[.slice none 0 0] 23)).alloc (.cells #[.nilFunc] 81)) w.heap.size 22 #[.slice sa n cap] := ((((Blk.new w 22 _).alloc _).alloc _).alloc _).alloc _
  have wab : Below w.heap.size w (((((w.alloc (.cells #[.slice sa n cap] 22)).alloc (.cells (Array.replicate n (.bool false)) 4)).alloc (.cells #[.slice (some ⟨w.heap.size + 1, 0, none⟩) n n] 47)).alloc (.cells #[.slice none 0 0] 23)).alloc (.cells #[.nilFunc] 81)) := (((((Below.refl _ w).alloc (Nat.le_refl _) _).alloc (by simp) _).alloc (by simp; omega) _).alloc (by simp; omega) _).alloc (by simp; omega) _
  have wf := wa4.frozen 0
  have wcl := wa4.cell 0
  simp only [List.getElem?_toArray, List.getElem?_cons_zero] at wcl
  obtain ⟨w1, hw1⟩ : ∃ W, (((((w.alloc (.cells #[.slice sa n cap] 22)).alloc (.cells (Array.replicate n (.bool false)) 4)).alloc (.cells #[.slice (some ⟨w.heap.size + 1, 0, none⟩) n n] 47)).alloc (.cells #[.slice none 0 0] 23)).alloc (.cells #[.nilFunc] 81)).setCell ⟨w.heap.size + 1 + 1 + 1 + 1, 0, none⟩ (.func (.func 47) #[] #[.pointer (some ⟨w.heap.size, 0, none⟩), .pointer (some ⟨w.heap.size + 1 + 1, 0, none⟩), .pointer (some ⟨w.heap.size + 1 + 1 + 1, 0, none⟩)]) = W := ⟨_, rfl⟩
  have X4 : Hid (Boxed w1 (w.heap.size + 1 + 1 + 1 + 1) 81 (.func (.func 47) #[] #[.pointer (some ⟨w.heap.size, 0, none⟩), .pointer (some ⟨w.heap.size + 1 + 1, 0, none⟩), .pointer (some ⟨w.heap.size + 1 + 1 + 1, 0, none⟩)])) := Lib.hid (by rw [← hw1]; exact Boxed.set _ wa4)
  have X3 : Hid (Boxed w1 (w.heap.size + 1 + 1 + 1) 23 (.slice none 0 0)) := Lib.hid (by rw [← hw1]; exact wa3.far (p := ⟨w.heap.size + 1 + 1 + 1 + 1, 0, none⟩) (by simp) _)
  have X2 : Hid (Boxed w1 (w.heap.size + 1 + 1) 47 (.slice (some ⟨w.heap.size + 1, 0, none⟩) n n)) := Lib.hid (by rw [← hw1]; exact wa2.far (p := ⟨w.heap.size + 1 + 1 + 1 + 1, 0, none⟩) (by show _ ≠ w.heap.size + 1 + 1 + 1 + 1; omega) _)
  have X1 : Hid (Blk w1 (w.heap.size + 1) 4 (Array.replicate n (.bool false))) := Lib.hid (by rw [← hw1]; exact wa1.far (p := ⟨w.heap.size + 1 + 1 + 1 + 1, 0, none⟩) (by show _ ≠ w.heap.size + 1 + 1 + 1 + 1; omega) _)
  have X0 : Hid (Boxed w1 w.heap.size 22 (.slice sa n cap)) := Lib.hid (by rw [← hw1]; exact wa0.far (p := ⟨w.heap.size + 1 + 1 + 1 + 1, 0, none⟩) (by show _ ≠ w.heap.size + 1 + 1 + 1 + 1; omega) _)
  have B1 : Hid (Below w.heap.size w w1) := Lib.hid (by rw [← hw1]; exact wab.setCell (p := ⟨w.heap.size + 1 + 1 + 1 + 1, 0, none⟩) (show w.heap.size ≤ (⟨w.heap.size + 1 + 1 + 1 + 1, 0, none⟩ : Addr).block by simp; omega) _)
  have Z1 : Hid (w1.heap.size = w.heap.size + 5) := Lib.hid (by rw [← hw1]; simp [World.setCell])
  clear wa0 wa1 wa2 wa3 wa4 wab z0
  go_upto_region 4 with fail
  clear hw1 wf wcl mk2
  obtain ⟨Bp, hBp⟩ : ∃ q, q = w.heap.size + 1 + 1 + 1 + 1 := ⟨_, rfl⟩
  rw [← hBp] at X4 ⊢
  obtain ⟨Bo, hBo⟩ : ∃ q, q = w.heap.size + 1 + 1 + 1 := ⟨_, rfl⟩
  rw [← hBo] at X4 X3 ⊢
  obtain ⟨Bs, hBs⟩ : ∃ q, q = w.heap.size + 1 + 1 := ⟨_, rfl⟩
  rw [← hBs] at X4 X2 ⊢
  obtain ⟨gS, hgS⟩ : ∃ q, q = w.heap.size + 1 := ⟨_, rfl⟩
  rw [← hgS] at X2 X1 ⊢
  obtain ⟨A0, hA0⟩ : ∃ q, q = w.heap.size := ⟨_, rfl⟩
  rw [← hA0] at X4 X0 ⊢
  obtain ⟨FV, hFV⟩ : ∃ q, q = Value.func (.func 47) #[] #[.pointer (some ⟨A0, 0, none⟩), .pointer (some ⟨Bs, 0, none⟩), .pointer (some ⟨Bo, 0, none⟩)] := ⟨_, rfl⟩
  rw [← hFV] at X4
  have HFVx := Lib.hid hFV
  have RS1 : Hid (RS A0 Bs Bo gS w.heap.size (.slice sa n cap) n [Bp] (fun _ => false) [] w1) := Lib.hid (by
    have z1 := Z1.out
    refine ⟨X0.out, X2.out, ?_, ⟨_, X3.out, Sl.nil _ _ _ _ _, fun g hg => by simp [Value.ownBlock] at hg⟩, ⟨by omega, by omega, by omega⟩, ?_⟩
    · have := blk_replicate X1.out
      simpa [List.map_const'] using this
    · intro r hr
      simp only [List.mem_singleton] at hr
      subst hr
      omega)
  have HLO : Hid (w.heap.size ≤ gS) := Lib.hid (by omega)
  have HBP : Hid (w.heap.size ≤ Bp) := Lib.hid (by omega)
  clear hFV hBp hBo hBs hgS hA0 X0 X1 X2 X3
  go_wp2_with fail
  go_loopw [20] (fun z wr => ∃ (k : Nat) (Q : Nat → Bool) (O : List Int), k ≤ nf ∧ z = .int .i64 (k : Int) ∧ Hid (RS A0 Bs Bo gS w.heap.size (.slice sa n cap) n [Bp] Q O wr) ∧ Hid (Boxed wr Bp 81 FV) ∧ Hid (Below w.heap.size w wr) ∧ Hid (RI l fr Q O (-1)) ∧ Hid (∀ (j : Nat) (i : Nat) (hj : j < fr.length), j < k → fr[j] = i → i < l.length → Q i = true)) (fun z _ => nf - (intOf z).toNat)
  case atStart => exact ⟨0, fun _ => false, [], Nat.zero_le _, rfl, RS1, X4, B1, Lib.hid (RI.start l fr), Lib.hid (fun _ _ _ h => by omega)⟩
  case round =>
    obtain ⟨k, Q, O, hk, rfl, HRS, HBX, HB, HRI, HE⟩ := hrel
    clear RS1 X4 B1
    by_cases hlt : k < nf
    · have hlti : (k : Int) < (nf : Int) := by omega
      obtain ⟨bf, of, rfl, hbf, hcf⟩ := HFV.out.get (by rw [← HNF.out]; omega)
      have hkf : k < fr.length := by rw [← HNF.out]; exact hlt
      have ck := hcf k 0 hkf (by omega)
      obtain ⟨x, hx⟩ : ∃ x, x = fr[k] := ⟨_, rfl⟩
      rw [← hx] at ck
      simp only [inC, List.getElem?_cons_zero, Nat.add_zero, Nat.mul_one] at ck
      have ck' := (HB.out.cell (p := ⟨bf, _, none⟩) hbf).trans ck
      have HX := Lib.hid hx
      have cp := HBX.out.cell
      rw [HFVx.out] at cp
      clear ck hcf hx
      have hOl : O.length + 1 ≤ 10000000000000 := by have := HRI.out.cnt; have := HN.out; omega
      go_wp2_with fail
      refine (push47 wr x HRS.out hOl).mono ?_
      rintro e w2 ⟨rfl, rs2, rk2⟩
      have hP := HRI.out.push x (fun j hj hjl => Rch.entry j (by rw [← hj, HX.out]; exact List.getElem_mem _) hjl)
      rw [← HN.out] at hP
      obtain ⟨si2, le2, ex2, _⟩ := hP
      obtain ⟨Q2, hQ2e⟩ : ∃ q, q = (pushF Q n O x).1 := ⟨_, rfl⟩
      obtain ⟨O2, hO2e⟩ : ∃ q, q = (pushF Q n O x).2 := ⟨_, rfl⟩
      rw [← hQ2e, ← hO2e] at rs2 si2
      rw [← hQ2e] at le2 ex2
      have RS2 := Lib.hid rs2
      have BX2 : Hid (Boxed w2 Bp 81 FV) := Lib.hid ((rk2.keep Bp (by simp)).trans HBX.out)
      have B2 := Lib.hid (HB.out.trans rk2.below)
      have SI2 := Lib.hid si2
      have HE2 : Hid (∀ (j : Nat) (i : Nat) (hj : j < fr.length), j < k + 1 → fr[j] = i → i < l.length → Q2 i = true) := Lib.hid (fun j i hj hjk he hil => by
        rcases Nat.lt_succ_iff_lt_or_eq.1 hjk with q | q
        · exact le2 _ (HE.out j i hj q he hil)
        · subst q
          exact ex2 i (by rw [HX.out]; exact he) (by rw [HN.out]; exact hil))
      clear rs2 rk2 si2 le2 ex2 hQ2e hO2e HRS HBX HB HRI HE HX cp ck'
      go_wp2_with fail
      go_roundw
      case rel => exact ⟨k + 1, Q2, O2, by omega, by go_num, RS2, BX2, B2, SI2, HE2⟩
      case measure => simp [intOf]; omega
    · have hlti : ¬ (k : Int) < (nf : Int) := by omega
      have HEN : Hid (∀ i : Nat, (i : Int) ∈ fr → i < l.length → Q i = true) := Lib.hid (fun i hi hil => by
        obtain ⟨j, hj, e⟩ := List.getElem_of_mem hi
        exact HE.out j i hj (by have := HNF.out; omega) e hil)
      clear HE hlt
      go_wp2_with fail
      refine wp_loop_ghost_k (fun mu a' w' => ∃ (Ds : List Nat) (Q : Nat → Bool) (O : List Int) (x0 x1 x3 x4 x8 x9 x10 x11 x12 x13 x14 x15 x16 x17 x18 x19 x20 x21 x22 x23 x24 x25 x26 x27 x28 x29 x30 x31 x32 x33 x34 x35 x36 x37 x38 x39 x40 x41 x42 x43 x44 x45 x46 x47 x48 x49 x50 x51 x52 x53 x54 x55 x56 x57 x58 x59 x60 x61 : Value), (2 * unB Q n + O.length = mu ∧ Hid Ds.Nodup ∧ Hid (∀ D ∈ Ds, w.heap.size ≤ D) ∧ Hid (RS A0 Bs Bo gS w.heap.size (.slice sa n cap) n (Ds ++ [Bp]) Q O w') ∧ Hid (Boxed w' Bp 81 FV) ∧ Hid (∀ D ∈ Ds, w'.heap[D]? = some (.deferred (some []))) ∧ Hid (Below w.heap.size w w') ∧ Hid (RI l fr Q O (-1)) ∧ Hid (∀ i : Nat, (i : Int) ∈ fr → i < l.length → Q i = true)) ∧ a' = { tmps := #[x0, x1, .pointer (some ⟨A0, 0, none⟩), x3, x4, .pointer (some ⟨Bs, 0, none⟩), .pointer (some ⟨Bo, 0, none⟩), .pointer (some ⟨Bp, 0, none⟩), x8, x9, x10, x11, x12, x13, x14, x15, x16, x17, x18, x19, x20, x21, x22, x23, x24, x25, x26, x27, x28, x29, x30, x31, x32, x33, x34, x35, x36, x37, x38, x39, x40, x41, x42, x43, x44, x45, x46, x47, x48, x49, x50, x51, x52, x53, x54, x55, x56, x57, x58, x59, x60, x61], defers := Ds.map rmark }) (2 * unB Q n + O.length) ?atS ?rnd
      case atS =>
        refine ⟨[], Q, O, ?_⟩
        (repeat apply Exists.intro)
        exact ⟨⟨rfl, Lib.hid List.nodup_nil, Lib.hid (fun _ h => by cases h), HRS, HBX, Lib.hid (fun _ h => by cases h), HB, HRI, HEN⟩, rfl⟩
      case rnd =>
        clear HRS HBX HB HRI HEN
        intro mu a' wr hinv
        obtain ⟨Ds, hinv⟩ := hinv
        obtain ⟨Q, hinv⟩ := hinv
        obtain ⟨O, hinv⟩ := hinv
        obtain ⟨x0, hinv⟩ := hinv
        obtain ⟨x1, hinv⟩ := hinv
        obtain ⟨x3, hinv⟩ := hinv
        obtain ⟨x4, hinv⟩ := hinv
        obtain ⟨x8, hinv⟩ := hinv
        obtain ⟨x9, hinv⟩ := hinv
        obtain ⟨x10, hinv⟩ := hinv
        obtain ⟨x11, hinv⟩ := hinv
        obtain ⟨x12, hinv⟩ := hinv
        obtain ⟨x13, hinv⟩ := hinv
        obtain ⟨x14, hinv⟩ := hinv
        obtain ⟨x15, hinv⟩ := hinv
        obtain ⟨x16, hinv⟩ := hinv
        obtain ⟨x17, hinv⟩ := hinv
        obtain ⟨x18, hinv⟩ := hinv
        obtain ⟨x19, hinv⟩ := hinv
        obtain ⟨x20, hinv⟩ := hinv
        obtain ⟨x21, hinv⟩ := hinv
        obtain ⟨x22, hinv⟩ := hinv
        obtain ⟨x23, hinv⟩ := hinv
        obtain ⟨x24, hinv⟩ := hinv
        obtain ⟨x25, hinv⟩ := hinv
        obtain ⟨x26, hinv⟩ := hinv
        obtain ⟨x27, hinv⟩ := hinv
        obtain ⟨x28, hinv⟩ := hinv
        obtain ⟨x29, hinv⟩ := hinv
        obtain ⟨x30, hinv⟩ := hinv
        obtain ⟨x31, hinv⟩ := hinv
        obtain ⟨x32, hinv⟩ := hinv
        obtain ⟨x33, hinv⟩ := hinv
        obtain ⟨x34, hinv⟩ := hinv
        obtain ⟨x35, hinv⟩ := hinv
        obtain ⟨x36, hinv⟩ := hinv
        obtain ⟨x37, hinv⟩ := hinv
        obtain ⟨x38, hinv⟩ := hinv
        obtain ⟨x39, hinv⟩ := hinv
        obtain ⟨x40, hinv⟩ := hinv
        obtain ⟨x41, hinv⟩ := hinv
        obtain ⟨x42, hinv⟩ := hinv
        obtain ⟨x43, hinv⟩ := hinv
        obtain ⟨x44, hinv⟩ := hinv
        obtain ⟨x45, hinv⟩ := hinv
        obtain ⟨x46, hinv⟩ := hinv
        obtain ⟨x47, hinv⟩ := hinv
        obtain ⟨x48, hinv⟩ := hinv
        obtain ⟨x49, hinv⟩ := hinv
        obtain ⟨x50, hinv⟩ := hinv
        obtain ⟨x51, hinv⟩ := hinv
        obtain ⟨x52, hinv⟩ := hinv
        obtain ⟨x53, hinv⟩ := hinv
        obtain ⟨x54, hinv⟩ := hinv
        obtain ⟨x55, hinv⟩ := hinv
        obtain ⟨x56, hinv⟩ := hinv
        obtain ⟨x57, hinv⟩ := hinv
        obtain ⟨x58, hinv⟩ := hinv
        obtain ⟨x59, hinv⟩ := hinv
        obtain ⟨x60, hinv⟩ := hinv
        obtain ⟨x61, hinv⟩ := hinv
        obtain ⟨⟨hmu, HND, HDL, HRS, HBX, HDS, HB, HRI, HEN⟩, ha⟩ := hinv
        subst ha
        intro J K hJ hK
        rcases List.eq_nil_or_concat O with rfl | ⟨O, y, rfl⟩
        · obtain ⟨v, o1, o2, o3⟩ := HRS.out.op
          have hv : v = .slice none 0 0 ∨ ∃ g cap, v = .slice (some ⟨g, 0, none⟩) 0 cap := by
            rcases o2.form with ⟨e, _⟩ | ⟨g, cap, e, _⟩
            · exact .inl e
            · exact .inr ⟨g, cap, e⟩
          obtain ⟨sb, cb, rfl⟩ : ∃ sb cb, v = .slice sb 0 cb := by
            rcases hv with rfl | ⟨g, cap, rfl⟩
            · exact ⟨_, _, rfl⟩
            · exact ⟨_, _, rfl⟩
          have co := o1.cell
          have cps := HRS.out.bs.cell
          clear hv o1 o2 o3 hJ hK
          go_wp2_with fail
          have hfin := HRI.out.fin HEN.out
          refine leaves_marks Ds wr HND.out HDS.out fun w' ho => ?_
          have hk : ∀ {A : Nat} {t : TypeId} {cs : Array Value}, Blk wr A t cs → Blk w' A t cs := fun {A t cs} h => h.only ho (fun hm => not_mark (HDS.out A hm) h rfl)
          have hse := hk HRS.out.seen
          rw [HN.out] at hse
          exact ⟨.slice (some ⟨gS, 0, none⟩) n n, results_tmp (fn := Tryd.f27) (t := 4) rfl _ _ _, HB.out.trans (ho.below HDL.out HB.out.size), gS, Q, by rw [HN.out], hse, HLO.out, hfin⟩
        · rw [List.concat_eq_append] at *
          obtain ⟨g, ca, q1, q2, q3, q4, q5, q6⟩ := HRS.out.pop
          obtain ⟨jn, hy, hjl, hqj, hfj, si⟩ := HRI.out.pop
          subst hy
          obtain ⟨q, hq⟩ : ∃ q, q = O.length := ⟨_, rfl⟩
          rw [← hq] at q1 q2 q4 q5 q6
          have co := q1.cell
          have fo := q1.frozen
          have q2' : (q : Int) ≤ (ca : Int) := by omega
          have q0 : (0 : Int) ≤ (q : Int) := by omega
          have HQL := Lib.hid hq
          have RS2 := Lib.hid q5
          have RK2 := Lib.hid q6
          have HSI2 := Lib.hid si
          have HQJ := Lib.hid hqj
          have HFJ := Lib.hid hfj
          have HJL := Lib.hid hjl
          have HMU := Lib.hid hmu
          have hjn : jn < n := by rw [HN.out]; exact hjl
          have hq3 : q + 1 ≤ ca := q2
          clear q1 q5 q6 si hqj hfj hjl hq hmu HRI
          go_upto_region 12 with fail
          generalize wr.setCell ⟨Bo, 0, none⟩ (.slice (some ⟨g, 0, none⟩) q ca) = wR at RS2 RK2 ⊢
          have hzA := RK2.out.below.size
          have hjni : (jn : Int) < (n : Int) := by omega
          obtain ⟨b, o, rfl, hb, hc⟩ := HH.out.get (Nat.lt_of_le_of_lt (Nat.zero_le _) HJL.out)
          obtain ⟨f, hf, hfa, hcell⟩ := hc jn HJL.out
          have HFX := Lib.hid hf
          have HFA := Lib.hid hfa
          have HCL := Lib.hid hcell
          clear hc hf hfa hcell q2 q3 q4 co fo
          have BBR := Lib.hid (HB.out.trans RK2.out.below)
          have XR : Hid (Boxed wR Bp 81 FV) := Lib.hid ((RK2.out.keep Bp (by simp)).trans HBX.out)
          have DSR : Hid (∀ E ∈ Ds, wR.heap[E]? = some (.deferred (some []))) := Lib.hid (fun E hE => (RK2.out.keep E (by simp [hE])).trans (HDS.out E hE))
          clear HRS HBX HDS HB
          have NSRl := RS2.out.lts
          have hszr := BBR.out.size
          have clr := RS2.out.l.cell
          obtain ⟨D, hD⟩ : ∃ q, q = wR.heap.size + 2 := ⟨_, rfl⟩
          obtain ⟨wS, hwS⟩ : ∃ W, (wR.alloc (.cells #[.pointer (some ⟨b, o + jn * 10, none⟩)] 67)).alloc (.cells #[.int .i64 jn] 3) = W := ⟨_, rfl⟩
          have BS : Hid (Below wR.heap.size wR wS) := Lib.hid (by rw [← hwS]; exact ((Below.refl _ wR).alloc (Nat.le_refl _) _).alloc (by simp) _)
          have ZS : Hid (wS.heap.size = D) := Lib.hid (by rw [← hwS, hD]; simp)
          have XS1 : Hid (Boxed wS (D - 2) 67 (.pointer (some ⟨b, o + jn * 10, none⟩))) := Lib.hid (by rw [← hwS, hD, Nat.add_sub_cancel]; exact (Boxed.new wR 67 _).alloc _)
          have XS2 : Hid (Boxed wS (D - 1) 3 (.int .i64 jn)) := Lib.hid (by rw [← hwS, hD]; have := Boxed.new (wR.alloc (.cells #[.pointer (some ⟨b, o + jn * 10, none⟩)] 67)) 3 (.int .i64 jn); rw [World.size_alloc] at this; exact this)
          have HD := Lib.hid hD
          go_wp2_with fail
          refine (callsIn_wide.1 (targ36 Fence.wide 1 trivial rfl b (o + jn * 10) jn wR)).mono ?_
          rintro e wS' ⟨rfl, hwS'⟩
          rw [hwS] at hwS'
          obtain rfl : wS = wS' := hwS'.symm
          clear hwS hD clr
          go_wp2_with fail
          have hF0 : ∀ r ∈ Ds ++ [Bp], r < wR.heap.size := fun r hr => (RS2.out.fr r hr).1
          have I0 : RgJ l fr w A0 Bs Bo Bp gS D b o n jn f (.slice (some ⟨b, o, none⟩) n cap) FV Ds Q (2 * unB Q n + O.length) Q O 0 wS := by
            have hDv := HD.out
            have hzS := ZS.out
            have ns1 := RS2.out.below BS.out (Nat.le_refl _)
            have offS : OffO Bo [D - 2, D - 1] wS := by
              obtain ⟨v', o1, o2', _⟩ := RS2.out.op
              intro v hv
              have := ((BS.out.block _ o1.lt).trans o1).symm.trans hv
              simp only [Option.some.injEq, Obj.cells.injEq, Array.mk.injEq, List.cons.injEq, and_true] at this
              subst this
              intro g' hg' hm
              have := (o2'.lt g' hg').2
              simp at hm
              omega
            refine ⟨?_, ns1.off [D, D + 1] (by intro r hr; simp at hr; omega), ⟨XS1.out, XS2.out, fun j hj => ?_, HFA.out.cases.keep (BBR.out.trans (BS.out.mono hszr))⟩, (BS.out.block _ XR.out.lt).trans XR.out, fun E hE => (BS.out.block E (hF0 E (by simp [hE]))).trans (DSR.out E hE), BBR.out.trans (BS.out.mono hszr), HSI2.out, LeB.refl _, fun i hi j h => by omega, Nat.le_refl _⟩
            · exact ns1.more [D - 2, D - 1] offS (by intro r hr; simp only [List.mem_cons, List.not_mem_nil, or_false] at hr; omega)
            · rw [← HCL.out j hj]
              exact (BBR.out.trans (BS.out.mono hszr)).cell (p := ⟨b, _, none⟩) hb
          have eD1 : wR.heap.size = D - 2 := by have := HD.out; omega
          have eD2 : D - 2 + 1 = D - 1 := by have := HD.out; omega
          rw [eD1, eD2]
          have hDlt : A0 < D ∧ Bs < D ∧ Bo < D ∧ gS < D := by have := HD.out; omega
          have hD2 : w.heap.size + 2 ≤ D := by have := HD.out; omega
          have hFD : ∀ r ∈ Ds ++ [Bp], r < D := fun r hr => by have := hF0 r hr; have := HD.out; omega
          have IP := Lib.hid I0
          have HDLT := Lib.hid hDlt
          have HD2 := Lib.hid hD2
          have HFD := Lib.hid hFD
          clear I0 hF0 NSRl hDlt hFD eD1 eD2
          refine (wpIn_wide (n := 3)).1 ?_
          refine' wpIn_rangeFunc_P (F := Fence.wide) (n := 3) rfl (by omega) (gf := 59) (lb := #[.pointer (some ⟨D - 2, 0, none⟩), .pointer (some ⟨D - 1, 0, none⟩)]) rfl trivial (enters_of Tryd.func59 (by kernel_rfl) rfl)
            (targ_reads Fence.wide (3 - 1) trivial rfl (by omega) (D - 2) (D - 1) b (o + jn * 10) f jn (by omega) (by omega))
            (fun _ => rfl)
            (fun k W => ∃ Q' O', RgJ l fr w A0 Bs Bo Bp gS D b o n jn f (.slice (some ⟨b, o, none⟩) n cap) FV Ds Q (2 * unB Q n + O.length) Q' O' k W) (fun _ _ _ => False) ?abides (fun _ _ _ _ h _ => h) (fun _ _ h => by obtain ⟨_, _, h⟩ := h; exact h.pre) ⟨_, _, IP.out⟩
            _ ?assign ?body ?done ?stop
          case assign =>
            intro l' x W K hK
            gi_wp2
            exact hK
          case abides =>
            rw [ZS.out]
            rintro k A B ⟨Q', O', h⟩ ho
            exact ⟨Q', O', h.only ho HD2.out HDLT.out HFD.out hb HFA.out.cases⟩
          case body =>
            rw [ZS.out]
            rintro l' k hk W ⟨Q', O', hI⟩ hz
            have hkx : k < (targF f.x jn).length := hk
            obtain ⟨x, hx⟩ : ∃ x, x = (targF f.x jn)[k] := ⟨_, rfl⟩
            rw [← hx]
            have HX := Lib.hid hx
            have HI := Lib.hid hI
            have nsF := hI.rs.more [D, D + 1] hI.off (by
              intro r hr
              have := HDLT.out
              simp only [List.mem_cons, List.not_mem_nil, or_false] at hr
              omega)
            have cpp := hI.bp.cell
            rw [HFVx.out] at cpp
            have hOl : O'.length + 1 ≤ 10000000000000 := by have := hI.si.cnt; have := HN.out; omega
            have hP := hI.si.push x (fun j hj hjl => Rch.step jn j HJL.out HFJ.out hjl (by rw [← HFX.out, ← hj, hx]; exact List.getElem_mem _))
            rw [← HN.out] at hP
            have CP := Lib.hid (CallsIn.inRound l' ((callsIn_wide (n := 0)).2 (push47 W x nsF hOl)))
            have HP := Lib.hid hP
            clear hx hI nsF hP hOl
            gi_wp2
            refine ⟨trivial, ?_⟩
            refine CP.out.mono ?_
            rintro e W2 ⟨rfl, ns2, nk2⟩
            have B2 := Lib.hid (HI.out.below.trans nk2.below)
            have K2 : Hid (∀ r ∈ [D, D + 1] ++ ([D - 2, D - 1] ++ (Ds ++ [Bp])), W2.heap[r]? = W.heap[r]?) := Lib.hid nk2.keep
            obtain ⟨Q2, hQ2⟩ : ∃ q, q = (pushF Q' n O' x).1 := ⟨_, rfl⟩
            obtain ⟨O2, hO2⟩ : ∃ q, q = (pushF Q' n O' x).2 := ⟨_, rfl⟩
            rw [← hQ2, ← hO2] at ns2 HP
            obtain ⟨si2, le2, ex2, cn2⟩ := HP.out
            have PR2 : TPre (D - 2) (D - 1) b (o + jn * 10) f jn W2 := by
              have hp := HI.out.pre
              refine ⟨(K2.out _ (by simp)).trans hp.b1, (K2.out _ (by simp)).trans hp.b2, fun j hj => ?_, HFA.out.cases.keep B2.out⟩
              rw [← HCL.out j hj]
              exact B2.out.cell (p := ⟨b, _, none⟩) hb
            have fin : Hid (RgJ l fr w A0 Bs Bo Bp gS D b o n jn f (.slice (some ⟨b, o, none⟩) n cap) FV Ds Q (2 * unB Q n + O.length) Q2 O2 (k + 1) W2) := Lib.hid ⟨ns2.less.1, ns2.less.2, PR2, (K2.out _ (by simp)).trans HI.out.bp, fun E hE => (K2.out E (by simp [hE])).trans (HI.out.ds E hE), B2.out, si2, HI.out.le.trans le2, fun i hi j hik he hjl => by
              rcases Nat.lt_succ_iff_lt_or_eq.1 hik with q' | q'
              · exact le2 _ (HI.out.done i hi j q' he hjl)
              · subst q'
                exact ex2 j (by rw [HX.out]; exact he) (by rw [HN.out]; exact hjl), by have := HI.out.cnt; omega⟩
            have KD : Hid (W2.heap[D]? = W.heap[D]? ∧ W2.heap[D + 1]? = W.heap[D + 1]?) := Lib.hid ⟨K2.out _ (by simp), K2.out _ (by simp)⟩
            clear hQ2 hO2 ns2 nk2 K2 CP si2 le2 ex2 cn2 PR2 HP HI B2
            gi_wp2
            exact ⟨KD.out, Q2, O2, fin.out⟩
          case stop =>
            intro c k W _ _ h _
            exact h.elim
          case done =>
            rw [ZS.out]
            rintro W hz ⟨Q', O', hI⟩ hDm
            have hnD : D ∉ Ds := fun hm => by have := HFD.out D (by simp [hm]); omega
            have RSW : Hid (RS A0 Bs Bo gS w.heap.size (.slice (some ⟨b, o, none⟩) n cap) n ((D :: Ds) ++ [Bp]) Q' O' W) := Lib.hid (by
              have h1 := hI.rs.less.1.more [D] (fun v hv g' hg' hm => hI.off v hv g' hg' (by simp only [List.mem_singleton] at hm; simp [hm])) (by
                intro r hr
                have := HDLT.out
                simp only [List.mem_singleton] at hr
                omega)
              simpa using h1)
            have BXW := Lib.hid hI.bp
            have DSW : Hid (∀ E ∈ D :: Ds, W.heap[E]? = some (.deferred (some []))) := Lib.hid (fun E hE => by
              rcases List.mem_cons.1 hE with rfl | hE
              · exact hDm
              · exact hI.ds E hE)
            have BBW := Lib.hid hI.below
            have SIW := Lib.hid hI.si
            have LEW := Lib.hid hI.le
            have CNW := Lib.hid hI.cnt
            have TW : Hid (∀ j : Nat, j < l.length → (j : Int) ∈ targF f.x jn → Q' j = true) := Lib.hid (fun j hj hm => by
              obtain ⟨i, hi', e⟩ := List.getElem_of_mem hm
              exact hI.done i hi' j hi' e hj)
            have HND2 : Hid ((D :: Ds).Nodup) := Lib.hid (List.nodup_cons.2 ⟨hnD, HND.out⟩)
            have HDL2 : Hid (∀ E ∈ D :: Ds, w.heap.size ≤ E) := Lib.hid (fun E hE => by
              rcases List.mem_cons.1 hE with rfl | hE
              · have := HD2.out; omega
              · exact HDL.out E hE)
            have clW := RSW.out.l.cell
            have CH := Lib.hid (hand48 l (.slice (some ⟨b, o, none⟩) n cap) W (HH.out.keep BBW.out) jn HJL.out)
            clear hI hnD hDm
            go_wp2_with fail
            refine CH.out.mono ?_
            rintro e W2 ⟨rfl, b2⟩
            have RS3 := Lib.hid (RSW.out.below b2 (Nat.le_refl _))
            have BX3 : Hid (Boxed W2 Bp 81 FV) := Lib.hid ((b2.block Bp BXW.out.lt).trans BXW.out)
            have DS3 : Hid (∀ E ∈ D :: Ds, W2.heap[E]? = some (.deferred (some []))) := Lib.hid (fun E hE => (b2.block E (Array.getElem?_eq_some_iff.1 (DSW.out E hE)).1).trans (DSW.out E hE))
            have BB3 := Lib.hid (BBW.out.trans (b2.mono BBW.out.size))
            have hOl : O'.length + 1 ≤ 10000000000000 := by have := SIW.out.cnt; have := HN.out; omega
            obtain ⟨goal, hgo⟩ : ∃ q, q = (l[jn]'HJL.out).to := ⟨_, rfl⟩
            obtain ⟨z, hzb⟩ : ∃ z, z = handB (l[jn]'HJL.out).op (l[jn]'HJL.out).to l.length := ⟨_, rfl⟩
            rw [← hzb, ← hgo]
            have HGO := Lib.hid hgo
            have HZB := Lib.hid hzb
            have HEN2 : Hid (∀ i : Nat, (i : Int) ∈ fr → i < l.length → Q' i = true) := Lib.hid (fun i h1 h2 => LEW.out _ (HEN.out i h1 h2))
            have HMU2 : Hid (2 * unB Q' n + O'.length < mu) := Lib.hid (by have h2 := CNW.out; have h3 := HMU.out; have h4 := HQL.out; simp only [List.length_append, List.length_cons, List.length_nil] at h3; omega)
            clear hgo hzb b2 RSW BXW DSW BBW clW CH
            cases z with
            | false =>
              have hdon : DonB l Q' jn := fun hi => ⟨fun j hj h1 h2 => by
                have := HZB.out
                unfold handB at this
                rw [h1, h2] at this
                simp at this
                omega, fun j hj hm => TW.out j hj (by rw [HFX.out]; exact hm)⟩
              have SI4 := Lib.hid (SIW.out.done hdon)
              clear hdon SIW
              go_wp2_with fail
              refine Handed.intro (2 * unB Q' n + O'.length) HMU2.out (hJ _ _ _ ?_)
              refine ⟨D :: Ds, Q', O', ?_⟩
              (repeat apply Exists.intro)
              exact ⟨⟨rfl, HND2, HDL2, RS3, BX3, DS3, BB3, SI4, HEN2⟩, rfl⟩
            | true =>
              have cpp := BX3.out.cell
              rw [HFVx.out] at cpp
              go_wp2_with fail
              refine (push47 W2 goal RS3.out hOl).mono ?_
              rintro e W3 ⟨rfl, rs3, rk3⟩
              have hop : (l[jn]'HJL.out).op = 28 := by
                have := HZB.out
                unfold handB at this
                simp at this
                exact this.1
              have hP := SIW.out.push goal (fun j hj hjl => Rch.hand jn j HJL.out HFJ.out hjl hop (by rw [← HGO.out, hj]))
              rw [← HN.out] at hP
              obtain ⟨si2, le2, ex2, cn2⟩ := hP
              obtain ⟨Q2, hQ2⟩ : ∃ q, q = (pushF Q' n O' goal).1 := ⟨_, rfl⟩
              obtain ⟨O2, hO2⟩ : ∃ q, q = (pushF Q' n O' goal).2 := ⟨_, rfl⟩
              rw [← hQ2, ← hO2] at rs3 si2 cn2
              rw [← hQ2] at le2 ex2
              have hdon : DonB l Q2 jn := fun hi => ⟨fun j hj _ h2 => ex2 j (by rw [HGO.out, h2]) (by rw [HN.out]; exact hj), fun j hj hm => le2 _ (TW.out j hj (by rw [HFX.out]; exact hm))⟩
              have SI4 := Lib.hid (si2.done hdon)
              have RS4 := Lib.hid rs3
              have BX4 : Hid (Boxed W3 Bp 81 FV) := Lib.hid ((rk3.keep Bp (by simp)).trans BX3.out)
              have DS4 : Hid (∀ E ∈ D :: Ds, W3.heap[E]? = some (.deferred (some []))) := Lib.hid (fun E hE => (rk3.keep E (by simp only [List.mem_append]; exact .inl hE)).trans (DS3.out E hE))
              have BB4 := Lib.hid (BB3.out.trans rk3.below)
              have HEN4 : Hid (∀ i : Nat, (i : Int) ∈ fr → i < l.length → Q2 i = true) := Lib.hid (fun i h1 h2 => le2 _ (HEN2.out i h1 h2))
              have HMU4 : Hid (2 * unB Q2 n + O2.length < mu) := Lib.hid (by have := HMU2.out; omega)
              clear hQ2 hO2 rs3 rk3 si2 le2 ex2 cn2 hdon hop cpp SIW RS3 BX3 DS3 BB3 HEN2 HMU2
              go_wp2_with fail
              refine Handed.intro (2 * unB Q2 n + O2.length) HMU4.out (hJ _ _ _ ?_)
              refine ⟨D :: Ds, Q2, O2, ?_⟩
              (repeat apply Exists.intro)
              exact ⟨⟨rfl, HND2, HDL2, RS4, BX4, DS4, BB4, SI4, HEN4⟩, rfl⟩
end Go.Proofs.YtekfnonjhcfdmaaDoor
