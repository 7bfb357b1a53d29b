/- FlowLives: which places are live before each instruction. -/
import Derived.Test.YtekfnonjhcfdmaaDoorClosed
import Derived.Test.YtekfnonjhcfdmaaDoorRlive
import Derived.Test.YtekfnonjhcfdmaaDoorFoot1
namespace Go.Proofs.YtekfnonjhcfdmaaDoor
open Go.RowKit Go.Shelf Go.Rt Go.Rw

set_option maxRecDepth 100000 in
set_option maxHeartbeats 8000000 in
theorem lives3 (l : List In) (fr : List Int) (kd : Int) (v fv : Value) (w : World) (h : InsAt w l v) (hf : SlAt w 1 inC fv fr) (hb1 : l.length ≤ 1048576) (hb2 : ∀ x ∈ l, x.cases.length ≤ 1048576) (hb3 : ∀ x ∈ l, x.src.length ≤ 1048576) (hb4 : ∀ x ∈ l, x.segs.length ≤ 1048576)
    (hb5 : (argsF l).length ≤ 1000000000) (hb6 : fr.length + owe l (fun _ => false) ≤ 100000000) (hT : TabAt 0 Lib.deBruijn64tab w) (hz : 0 < w.heap.size) : Calls Tryd.prog 3 #[v, fv, .int .i64 kd] w (Yes w) := by
  obtain ⟨_, sa, cap, rfl⟩ := h.form
  obtain ⟨hf0, sf, cf, rfl⟩ := hf.len
  have CL := Lib.hid (large_any l (.slice sa l.length cap) (.slice sf fr.length cf) fr.length sf cf w h rfl hf0)
  have CA := Lib.hid (fun (W : World) (hW : Below w.heap.size w W) => awake11 W (tab_below hT hW hz) (Nat.lt_of_lt_of_le hz hW.size))
  have C12 := Lib.hid (fun (W : World) (hW : Below w.heap.size w W) => live12 l fr (.slice sa l.length cap) (.slice sf fr.length cf) kd W (h.keep hW) (hf.keep hW) (by omega) (fun x hx => Nat.le_trans (hb2 x hx) (by omega)) (fun x hx => by have := hb3 x hx; have := hb4 x hx; omega) hb5 (tab_below hT hW hz) (Nat.lt_of_lt_of_le hz hW.size))
  have C13 := Lib.hid (fun (W : World) (hW : Below w.heap.size w W) => rlive13 l fr (.slice sa l.length cap) (.slice sf fr.length cf) kd W (h.keep hW) (hf.keep hW) hb1 hb2 hb3 hb4 hb5 hb6)
  obtain ⟨n, hn⟩ : ∃ q, q = l.length := ⟨_, rfl⟩
  obtain ⟨nf, hnf⟩ : ∃ q, q = fr.length := ⟨_, rfl⟩
  rw [← hn, ← hnf] at CL C12 C13 ⊢
  clear h hf hb1 hb2 hb3 hb4 hb5 hb6 hT hz hn hnf hf0
  go_enter Tryd.func3, Tryd.ntmps3
  go_wp2_with fail
  refine CL.out.mono ?_
  rintro e w1 ⟨b1, b, rfl, _⟩
  have B1 := Lib.hid b1
  clear b1 CL
  cases b with
  | true =>
    go_wp2_with fail
    refine (CA.out w1 B1.out).mono ?_
    rintro e w2 ⟨rfl, b2⟩
    have B2 := Lib.hid (B1.out.trans (b2.mono B1.out.size))
    clear b2
    go_wp2_with fail
    go_ret
    exact ⟨rfl, B2.out⟩
  | false =>
    go_wp2_with fail
    refine (C12.out _ B1.out).mono ?_
    rintro e w4 ⟨b4, u1, R, er, rfl, L1, t1⟩
    have B4 := Lib.hid (B1.out.trans (b4.mono B1.out.size))
    have HL1 := Lib.hid L1
    have HT1 := Lib.hid t1
    clear b4 L1 t1
    go_wp2_with fail
    refine (C13.out w4 B4.out).mono ?_
    rintro e w5 ⟨b5, u2, R2, er2, rfl, L2, t2⟩
    obtain ⟨rfl, rfl⟩ := LvSpec.one HT1.out t2
    have B5 := Lib.hid (B4.out.trans (b5.mono B4.out.size))
    have CS := Lib.hid (samels_any R R u1 u2 w5 (HL1.out.keep b5) L2)
    rw [(eqB_iff R R).2 rfl] at CS
    clear b5 L2 t2 HL1 HT1
    go_wp2_with fail
    refine CS.out.mono ?_
    rintro e w6 ⟨rfl, b6⟩
    have B6 := Lib.hid (B5.out.trans (b6.mono B5.out.size))
    clear b6 CS
    go_wp2_with fail
    refine (CA.out w6 B6.out).mono ?_
    rintro e w7 ⟨rfl, b7⟩
    have B7 := Lib.hid (B6.out.trans (b7.mono B6.out.size))
    clear b7
    go_wp2_with fail
    go_ret
    exact ⟨rfl, B7.out⟩
theorem uses_len (x : In) : (usesF x).length ≤ x.src.length + 2 * x.segs.length + 16 := by
  have h1 := List.length_filter_le placeF (x.src ++ segArgs x.segs)
  rw [List.length_append, segArgs_len] at h1
  have h2 : (moreF x).length ≤ 16 := by
    unfold moreF
    split
    · split
      · rw [regs_len]
        omega
      · simp
    · split <;> simp
  unfold usesF
  rw [List.length_append]
  omega
theorem args_len : ∀ (l : List In), (argsF l).length ≤ 20 * wgtL l
  | [] => by simp [argsF]
  | x :: r => by
    have h1 := args_len r
    have h2 := uses_len x
    have h3 := defs_len x
    unfold argsF at h1 ⊢
    unfold wgtL at h1 ⊢
    rw [List.flatMap_cons, List.length_append, List.length_append, List.map_cons, List.sum_cons]
    unfold wgt
    unfold wgt at h1
    omega
end Go.Proofs.YtekfnonjhcfdmaaDoor
