/- The reference's Uses. -/
import Derived.Test.YtekfnonjhcfdmaaDoorRef1
import Derived.Test.YtekfnonjhcfdmaaDoorUses
import Derived.Test.YtekfnonjhcfdmaaDoorFix1
import Derived.Test.YtekfnonjhcfdmaaDoorNests
import Derived.Deep.CutBlock
namespace Go.Proofs.YtekfnonjhcfdmaaDoor
open Go.RowKit Go.Rt Go.Rw

theorem ar_len (a : Ar) : (arC a).length = 2 := rfl
/-- A literal list is appended. -/
theorem lit35 {W : World} {B : Nat} {v : Value} {L : List Ar} (h : Sl W B 38 2 arC v L) (M : List Ar) (hl : L.length + M.length ≤ 1000000000000) (hb : B ≤ W.heap.size) :
    ∃ (sa : Option Addr) (N co : Nat) (W2 : World), (Builtin.append_ #[35, 35] 35 #[v, .slice (some ⟨W.heap.size, 0, none⟩) M.length M.length]).run Tryd.prog (W.alloc (.cells (M.flatMap arC).toArray 38)) = .ok (.slice sa N co) W2 ∧ Sl W2 B 38 2 arC (.slice sa N co) (L ++ M) ∧ Below B W W2 ∧ N = (L ++ M).length := by
  have h1 := h.only (bs := []) (Only.alloc [] W (.cells (M.flatMap arC).toArray 38)) (fun g hg hm => by cases hm)
  have k1 : SlAt (W.alloc (.cells (M.flatMap arC).toArray 38)) 2 arC (.slice (some ⟨W.heap.size, 0, none⟩) M.length M.length) M := (Sl.lit (base := W.heap.size) W M ar_len (Nat.le_refl _) (by unfold maxLen; omega)).at ar_len
  obtain ⟨sa, co, W2, r, s, g⟩ := apps35 h1 k1 (by omega) (by simp; omega)
  exact ⟨sa, _, co, W2, r, s, ((Below.refl B W).alloc hb _).trans ((grown_only g).below (fun r hr => by rw [Option.mem_toList] at hr; exact (h.lt r hr).1) (by simp; omega)), rfl⟩
theorem segArgs_succ (l : List Sg) (k : Nat) (hk : k < l.length) : segArgs (l.take (k + 1)) = segArgs (l.take k) ++ [l[k].val, l[k].size] := by
  rw [List.take_succ_eq_append_getElem hk]
  unfold segArgs
  rw [List.flatMap_append]
  rfl
set_option maxRecDepth 100000 in
set_option maxHeartbeats 8000000 in
theorem ruses20 (f : Im) (w : World) (hf : ImAt w f) (hb1 : f.x.src.length ≤ 1048576) (hb2 : f.x.segs.length ≤ 1048576) : Calls Tryd.prog 20 #[imV f] w (ArsR (usesF f.x) w) := by
  obtain ⟨_, s1, p1, e1⟩ := hf.src.len
  obtain ⟨_, s2, p2, e2⟩ := hf.cases.len
  obtain ⟨_, s3, p3, e3⟩ := hf.segs.len
  obtain ⟨⟨op, ⟨dk, dn⟩, src, goal, nn, live, name, cas, segs⟩, sv, cv, gv⟩ := f
  dsimp only at e1 e2 e3 hb1 hb2
  have HSRC := hf.src
  have HSEG := hf.segs
  dsimp only at HSRC HSEG
  obtain ⟨n1, hn1⟩ : ∃ n, n = src.length := ⟨_, rfl⟩
  obtain ⟨n2, hn2⟩ : ∃ n, n = cas.length := ⟨_, rfl⟩
  obtain ⟨n3, hn3⟩ : ∃ n, n = segs.length := ⟨_, rfl⟩
  rw [← hn1] at e1 hb1
  rw [← hn2] at e2
  rw [← hn3] at e3 hb2
  subst e1 e2 e3
  replace HSRC := Lib.hid HSRC
  replace HSEG := Lib.hid HSEG
  have HN1 := Lib.hid hn1
  have HN3 := Lib.hid hn3
  clear hn2 hn1 hn3 hf
  unfold imV
  dsimp only
  obtain ⟨R, hR⟩ : ∃ R, R = usesF ⟨op, ⟨dk, dn⟩, src, goal, nn, live, name, cas, segs⟩ := ⟨_, rfl⟩
  rw [← hR]
  unfold usesF moreF at hR
  dsimp only at hR
  replace hR := Lib.hid hR
  have CA := Lib.hid (fun (a : Ar) => place44 a)
  have CX := Lib.hid (fun (n : Int) (W : World) => x45 n W)
  unfold arV at CA CX
  dsimp only at CX
  have X := Lib.hid (Blk.new w 42 #[.int .i64 op, .int .i64 dk, .int .i64 dn, .slice s1 n1 p1, .int .i64 goal, .int .i64 nn, .int .i64 live, .string name, .slice s2 n2 p2, .slice s3 n3 p3])
  have B := Lib.hid ((Below.refl w.heap.size w).alloc (Nat.le_refl _) (.cells #[.int .i64 op, .int .i64 dk, .int .i64 dn, .slice s1 n1 p1, .int .i64 goal, .int .i64 nn, .int .i64 live, .string name, .slice s2 n2 p2, .slice s3 n3 p3] 42))
  obtain ⟨m, hm⟩ : ∃ q, q = w.heap.size := ⟨_, rfl⟩
  have HM := Lib.hid hm
  have HZ1 : Hid ((w.alloc (.cells #[.int .i64 op, .int .i64 dk, .int .i64 dn, .slice s1 n1 p1, .int .i64 goal, .int .i64 nn, .int .i64 live, .string name, .slice s2 n2 p2, .slice s3 n3 p3] 42)).heap.size = m + 1) := Lib.hid (by rw [World.size_alloc, hm])
  rw [← hm] at X B
  go_enter Tryd.func20, Tryd.ntmps20
  go_upto_region 1 with fail
  rw [← hm]
  generalize w.alloc (.cells #[.int .i64 op, .int .i64 dk, .int .i64 dn, .slice s1 n1 p1, .int .i64 goal, .int .i64 nn, .int .i64 live, .string name, .slice s2 n2 p2, .slice s3 n3 p3] 42) = w1 at X B HZ1 ⊢
  clear hm
  have q2 : w1.cell? ⟨m, 3, none⟩ = some (.slice s1 n1 p1) := X.out.cell 3
  obtain ⟨sx, cx, w3, hr1, s4, g3⟩ := apps35 (Sl.nil w1 (m + 1) 38 2 arC) (HSRC.out.keep (by rw [← HM.out]; exact B.out)) (by have := HN1.out; simp only [List.length_nil]; omega) (by have := HZ1.out; omega)
  have b3 : Below (m + 1) w1 w3 := (grown_only g3).below (fun r hr => by simp [Value.ownBlock] at hr) (by have := HZ1.out; omega)
  rw [List.nil_append] at hr1 s4
  rw [← HN1.out] at hr1 s4
  have HR1 := Lib.hid hr1
  have HS3 : Hid (Sl w3 (m + 1) 38 2 arC (.slice sx n1 cx) (src ++ segArgs (segs.take 0))) := Lib.hid (by simpa [segArgs] using s4)
  have HB3 := Lib.hid (B.out.trans (b3.mono (by omega)))
  have HX3 := Lib.hid (show Blk w3 m 42 #[.int .i64 op, .int .i64 dk, .int .i64 dn, .slice s1 n1 p1, .int .i64 goal, .int .i64 nn, .int .i64 live, .string name, .slice s2 n2 p2, .slice s3 n3 p3] from (b3.block m (by omega)).trans X.out)
  clear hr1 s4 b3 g3 B X
  go_upto_region 3 with (at_builtin; refine wpList_append_run rfl _ _ 35 35 rfl rfl rfl HR1.out ?_)
  clear q2 HR1
  go_wp2_with fail
  go_loopw [3, 4] (fun z3 z4 wr => ∃ (k : Nat) (S : Option Addr) (N C : Nat), k ≤ n3 ∧ z4 = .int .i64 (k : Int) ∧ z3 = .slice S N C ∧ Hid (N = n1 + 2 * k) ∧ Hid (Sl wr (m + 1) 38 2 arC (.slice S N C) (src ++ segArgs (segs.take k))) ∧ Hid (Blk wr m 42 #[.int .i64 op, .int .i64 dk, .int .i64 dn, .slice s1 n1 p1, .int .i64 goal, .int .i64 nn, .int .i64 live, .string name, .slice s2 n2 p2, .slice s3 n3 p3]) ∧ Hid (Below m w wr)) (fun _ z _ => n3 - (intOf z).toNat)
  case atStart => exact ⟨0, _, _, _, Nat.zero_le _, rfl, rfl, Lib.hid rfl, HS3, HX3, HB3⟩
  case round =>
    obtain ⟨k, S, N, C, hk, rfl, rfl, HNS, HS, HX, HB⟩ := hrel
    clear HS3 HX3 HB3
    by_cases hkn : k < n3
    · as_aux_lemma =>
      have hkni : (k : Int) < (n3 : Int) := by omega
      have hkl : k < segs.length := by rw [← HN3.out]; exact hkn
      obtain ⟨b', o', es, hb', hc'⟩ := HSEG.out.get (by omega)
      obtain ⟨a, ha⟩ : ∃ a, a = segs[k] := ⟨_, rfl⟩
      have hst := segArgs_succ segs k hkl
      have hlt : (src ++ segArgs (segs.take k)).length = n1 + 2 * k := by
        have := segArgs_len (segs.take k)
        rw [List.length_take] at this
        rw [List.length_append, this, ← HN1.out]
        omega
      have hcc := fun j hj => hc' k j hkl hj
      rw [← ha] at hst hcc
      obtain ⟨ty, ⟨vk, vn⟩, ⟨zk, zn⟩, li⟩ := a
      have HTK : Hid (src ++ (segArgs (segs.take k) ++ [⟨vk, vn⟩, ⟨zk, zn⟩]) = src ++ segArgs (segs.take (k + 1))) := Lib.hid (by rw [hst])
      have HLT := Lib.hid hlt
      have hbm : b' < m := by rw [HM.out]; exact hb'
      have HZ0 : Hid (m < wr.heap.size) := Lib.hid HX.out.lt
      have hcw := fun j (hj : j < 6) => ((HB.out.cell (p := ⟨b', o' + k * 6 + j, none⟩) hbm).trans (hcc j hj))
      have HCF : Hid (∀ W, Below (m + 1) wr W → W.cell? ⟨m, 9, none⟩ = some (.slice s3 n3 p3) ∧ W.cell? ⟨b', o' + k * 6 + 1, none⟩ = some (.int .i64 vk) ∧ W.cell? ⟨b', o' + k * 6 + 2, none⟩ = some (.int .i64 vn) ∧ W.cell? ⟨b', o' + k * 6 + 3, none⟩ = some (.int .i64 zk) ∧ W.cell? ⟨b', o' + k * 6 + 4, none⟩ = some (.int .i64 zn)) := Lib.hid (fun W hW => by
        refine ⟨(hW.cell (p := ⟨m, 9, none⟩) (Nat.lt_succ_self m)).trans (HX.out.cell 9), ?_, ?_, ?_, ?_⟩
        · exact (hW.cell (p := ⟨b', _, none⟩) (Nat.lt_succ_of_lt hbm)).trans (hcw 1 (by omega))
        · exact (hW.cell (p := ⟨b', _, none⟩) (Nat.lt_succ_of_lt hbm)).trans (hcw 2 (by omega))
        · exact (hW.cell (p := ⟨b', _, none⟩) (Nat.lt_succ_of_lt hbm)).trans (hcw 3 (by omega))
        · exact (hW.cell (p := ⟨b', _, none⟩) (Nat.lt_succ_of_lt hbm)).trans (hcw 4 (by omega)))
      clear ha hst hlt hcc hc' hb' hcw hbm hkl
      subst es
      have q9 : wr.cell? ⟨m, 9, none⟩ = some (.slice (some ⟨b', o', none⟩) n3 p3) := HX.out.cell 9
      go_upto_region 6 with fail
      clear q9
      refine wp_region_held_drew (S := (fun w' => Below (m + 1) wr w')) (by kernel_rfl) ((Below.refl (m + 1) wr).drew) (fun hS => ?_)
      have HDS := Lib.hid (show Sl wr.drew (m + 1) 38 2 arC (.slice S N C) _ from HS.out.same (Nat.le_refl _) (fun _ _ => rfl))
      have HDB := Lib.hid HB.out.drew
      have HDX := Lib.hid (show Blk wr.drew m 42 #[.int .i64 op, .int .i64 dk, .int .i64 dn, .slice s1 n1 p1, .int .i64 goal, .int .i64 nn, .int .i64 live, .string name, .slice s2 n2 p2, .slice (some ⟨b', o', none⟩) n3 p3] from HX.out)
      clear HS HB HX
      generalize wr.drew = w0 at *
      refine tk (i := 0) (v := ?_) rfl (by rfl) ?_ (by assumption) ?_
      rotate_left
      · intro w hSw
        go_simp
        with_reducible rfl
      change wpAnyH _ _ _ _ _ _ _ (Act.put _ (some 19) _) _
      simp only [Act.put, List.setIfInBounds_toArray, List.set_cons_zero, List.set_cons_succ]
      refine tk (i := 1) (v := ?_) rfl (by rfl) ?_ (by assumption) ?_
      rotate_left
      · intro w hSw
        go_simp
        with_reducible rfl
      change wpAnyH _ _ _ _ _ _ _ (Act.put _ (some 20) _) _
      simp only [Act.put, List.setIfInBounds_toArray, List.set_cons_zero, List.set_cons_succ]
      refine tk (i := 2) (v := ?_) rfl (by rfl) ?_ (by assumption) ?_
      rotate_left
      · intro w hSw
        obtain ⟨y0, y1, y2, y3, y4⟩ := HCF.out _ hSw
        go_simp
        with_reducible rfl
      change wpAnyH _ _ _ _ _ _ _ (Act.put _ (some 21) _) _
      simp only [Act.put, List.setIfInBounds_toArray, List.set_cons_zero, List.set_cons_succ]
      refine tk (i := 3) (v := ?_) rfl (by rfl) ?_ (by assumption) ?_
      rotate_left
      · intro w hSw
        go_simp
        with_reducible rfl
      change wpAnyH _ _ _ _ _ _ _ (Act.put _ (some 22) _) _
      simp only [Act.put, List.setIfInBounds_toArray, List.set_cons_zero, List.set_cons_succ]
      refine tk (i := 4) (v := ?_) rfl (by rfl) ?_ (by assumption) ?_
      rotate_left
      · intro w hSw
        go_simp
        with_reducible rfl
      change wpAnyH _ _ _ _ _ _ _ (Act.put _ (some 23) _) _
      simp only [Act.put, List.setIfInBounds_toArray, List.set_cons_zero, List.set_cons_succ]
      refine tk (i := 5) (v := ?_) rfl (by rfl) ?_ (by assumption) ?_
      rotate_left
      · intro w hSw
        go_simp
        with_reducible rfl
      change wpAnyH _ _ _ _ _ _ _ (Act.put _ (some 24) _) _
      simp only [Act.put, List.setIfInBounds_toArray, List.set_cons_zero, List.set_cons_succ]
      refine tk (i := 6) (v := ?_) rfl (by rfl) ?_ (by assumption) ?_
      rotate_left
      · intro w hSw
        obtain ⟨y0, y1, y2, y3, y4⟩ := HCF.out _ hSw
        go_simp
        with_reducible rfl
      change wpAnyH _ _ _ _ _ _ _ (Act.put _ (some 25) _) _
      simp only [Act.put, List.setIfInBounds_toArray, List.set_cons_zero, List.set_cons_succ]
      refine tk (i := 7) (v := ?_) rfl (by rfl) ?_ (by assumption) ?_
      rotate_left
      · intro w hSw
        go_simp
        with_reducible rfl
      change wpAnyH _ _ _ _ _ _ _ (Act.put _ (some 26) _) _
      simp only [Act.put, List.setIfInBounds_toArray, List.set_cons_zero, List.set_cons_succ]
      refine tk (i := 8) (v := ?_) rfl (by rfl) ?_ (by assumption) ?_
      rotate_left
      · intro w hSw
        obtain ⟨y0, y1, y2, y3, y4⟩ := HCF.out _ hSw
        go_simp
        with_reducible rfl
      change wpAnyH _ _ _ _ _ _ _ (Act.put _ (some 27) _) _
      simp only [Act.put, List.setIfInBounds_toArray, List.set_cons_zero, List.set_cons_succ]
      refine tk (i := 9) (v := ?_) rfl (by rfl) ?_ (by assumption) ?_
      rotate_left
      · intro w hSw
        go_simp
        with_reducible rfl
      change wpAnyH _ _ _ _ _ _ _ (Act.put _ (some 28) _) _
      simp only [Act.put, List.setIfInBounds_toArray, List.set_cons_zero, List.set_cons_succ]
      refine tk (i := 10) (v := ?_) rfl (by rfl) ?_ (by assumption) ?_
      rotate_left
      · intro w hSw
        go_simp
        with_reducible rfl
      change wpAnyH _ _ _ _ _ _ _ (Act.put _ (some 29) _) _
      simp only [Act.put, List.setIfInBounds_toArray, List.set_cons_zero, List.set_cons_succ]
      refine tk (i := 11) (v := ?_) rfl (by rfl) ?_ (by assumption) ?_
      rotate_left
      · intro w hSw
        go_simp
        with_reducible rfl
      change wpAnyH _ _ _ _ _ _ _ (Act.put _ (some 30) _) _
      simp only [Act.put, List.setIfInBounds_toArray, List.set_cons_zero, List.set_cons_succ]
      refine tk (i := 12) (v := ?_) rfl (by rfl) ?_ (by assumption) ?_
      rotate_left
      · intro w hSw
        obtain ⟨y0, y1, y2, y3, y4⟩ := HCF.out _ hSw
        go_simp
        with_reducible rfl
      change wpAnyH _ _ _ _ _ _ _ (Act.put _ (some 31) _) _
      simp only [Act.put, List.setIfInBounds_toArray, List.set_cons_zero, List.set_cons_succ]
      clear HCF
      obtain ⟨sx2, N2, cx2, w4, hr2, s5, b4, hN2⟩ := lit35 HDS.out [⟨vk, vn⟩, ⟨zk, zn⟩] (by have := HNS.out; have := HLT.out; simp only [List.length_cons, List.length_nil]; omega) (by have := HDX.out.lt; omega)
      rw [List.append_assoc, HTK.out] at s5
      have HR2 := Lib.hid hr2
      have HS2 := Lib.hid s5
      have HB2 := Lib.hid (HDB.out.trans (b4.mono (by omega)))
      have HX2 := Lib.hid (show Blk w4 m 42 #[.int .i64 op, .int .i64 dk, .int .i64 dn, .slice s1 n1 p1, .int .i64 goal, .int .i64 nn, .int .i64 live, .string name, .slice s2 n2 p2, .slice (some ⟨b', o', none⟩) n3 p3] from (b4.block m (by omega)).trans HDX.out)
      have HN2 : Hid (N2 = n1 + 2 * (k + 1)) := Lib.hid (by rw [hN2, List.length_append, HLT.out]; simp only [List.length_cons, List.length_nil]; omega)
      have HBZ := Lib.hid (hS.trans b4)
      clear hr2 s5 b4 hN2 HDS HDB HDX HTK HLT
      refine wpAnyH_ready (rs := [13]) (by kernel_rfl) (by simp) ?_
      refine AllReadyH.cons rfl (fun K hK => ?_) AllReadyH.nil
      go_simp
      refine hK.out _ _ (hS.alloc (by have := HX2.out.lt; have := hS.size; have := HZ0.out; omega) _) (fun hS => ?_)
      clear hK K
      try simp only [Act.put, List.setIfInBounds_toArray, List.set_cons_zero, List.set_cons_succ]
      refine wpAnyH_ready (rs := [14]) (by kernel_rfl) (by simp) ?_
      refine AllReadyH.cons rfl (fun K hK => ?_) AllReadyH.nil
      refine step_append_run rfl _ _ 35 35 rfl rfl rfl HR2.out ?_
      change K (Act.put _ (some 33) _) _
      refine hK.out _ _ (HBZ.out) (fun hS => ?_)
      clear hK K
      try simp only [Act.put, List.setIfInBounds_toArray, List.set_cons_zero, List.set_cons_succ]
      refine wpAnyH_ready (rs := [15]) (by kernel_rfl) (by simp) ?_
      refine AllReadyH.cons rfl (fun K hK => ?_) AllReadyH.nil
      go_simp
      refine hK.out _ _ (HBZ.out) (fun hS => ?_)
      clear hK K
      try simp only [Act.put, List.setIfInBounds_toArray, List.set_cons_zero, List.set_cons_succ]
      refine wpAnyH_done (by kernel_rfl) ?_ _
      go_wp2_with fail
      go_roundw
      case rel => exact ⟨k + 1, _, _, _, by omega, by go_num, rfl, HN2, HS2, HX2, HB2⟩
      case measure => simp [intOf]; omega
    · as_aux_lemma =>
      have hkni : ¬ (k : Int) < (n3 : Int) := by omega
      have hke : k = segs.length := by rw [← HN3.out]; omega
      have HS1 : Hid (Sl wr (m + 1) 38 2 arC (.slice S N C) (src ++ segArgs segs)) := by have := HS; rwa [hke, List.take_length] at this
      obtain ⟨A, hA⟩ : ∃ q, q = src ++ segArgs segs := ⟨_, rfl⟩
      rw [← hA] at HS1 hR
      have HNA : Hid (N = A.length) := Lib.hid (by rw [hA, List.length_append, segArgs_len, HNS.out, HN1.out, hke])
      have hNB : N ≤ 3145728 := by have := HNS.out; omega
      have q9 : wr.cell? ⟨m, 9, none⟩ = some (.slice s3 n3 p3) := HX.out.cell 9
      obtain ⟨z1, hz1⟩ : ∃ q, q = wr.heap.size := ⟨_, rfl⟩
      have HAT := Lib.hid (HS1.out.at ar_len)
      have HZW := Lib.hid hz1
      have HBW := Lib.hid (Below.refl z1 wr)
      have HO0 : Hid (Sl wr z1 38 2 arC (.slice none 0 0) ((A.take 0).filter placeF)) := Lib.hid (by rw [List.take_zero]; exact Sl.nil _ _ _ _ _)
      have HM1 : Hid (w.heap.size ≤ m) := Lib.hid (by rw [HM.out]; exact Nat.le_refl _)
      have HZM : Hid (m < z1) := Lib.hid (by rw [hz1]; exact HX.out.lt)
      clear hke hA HNS HS HS1 hz1
      go_wp2_with fail
      clear q9
      obtain ⟨v1, hv1⟩ : ∃ q, wr = q := ⟨_, rfl⟩
      rw [hv1] at HX HB HAT HZW HBW HO0 ⊢
      clear hv1
      go_loopw [5, 6] (fun z5 z6 wr => ∃ (k : Nat) (S5 : Option Addr) (N5 C5 : Nat), k ≤ N ∧ z6 = .int .i64 (k : Int) ∧ z5 = .slice S5 N5 C5 ∧ Hid (Sl wr z1 38 2 arC (.slice S5 N5 C5) ((A.take k).filter placeF)) ∧ Hid (Below z1 v1 wr)) (fun _ z _ => N - (intOf z).toNat)
      case atStart => exact ⟨0, _, _, _, Nat.zero_le _, rfl, rfl, HO0, HBW⟩
      case round =>
        obtain ⟨j, S5, N5, C5, hj, rfl, rfl, HO, HV⟩ := hrel
        clear HO0 HBW
        by_cases hjn : j < N
        · as_aux_lemma =>
          have hjni : (j : Int) < (N : Int) := by omega
          have hjl : j < A.length := by rw [← HNA.out]; exact hjn
          obtain ⟨b', o', es, hb', hc'⟩ := HAT.out.get (by omega)
          subst es
          obtain ⟨a, ha⟩ : ∃ a, a = A[j] := ⟨_, rfl⟩
          have hts := List.take_succ_eq_append_getElem hjl
          have c0 := (HV.out.cell (p := ⟨b', o' + j * 2 + 0, none⟩) (by rw [HZW.out]; exact hb')).trans (hc' j 0 hjl (by omega))
          have c1 := (HV.out.cell (p := ⟨b', o' + j * 2 + 1, none⟩) (by rw [HZW.out]; exact hb')).trans (hc' j 1 hjl (by omega))
          rw [← ha] at c0 c1 hts
          obtain ⟨ak, an⟩ := a
          simp only [arC, List.getElem?_cons_zero, List.getElem?_cons_succ, Nat.add_zero] at c0 c1
          have HTS := Lib.hid hts
          have hbz := hb'
          have CP := Lib.hid (CA.out ⟨ak, an⟩ wr)
          dsimp only at CP
          obtain ⟨p, hp⟩ : ∃ p, p = placeF ⟨ak, an⟩ := ⟨_, rfl⟩
          rw [← hp] at CP
          have HP := Lib.hid hp
          clear ha hts hp hjl hc' hb'
          go_wp2_with fail
          refine CP.out.mono ?_
          rintro e w2 ⟨rfl, b2⟩
          have HB2 := Lib.hid (HV.out.trans (b2.mono (by have := HV.out.size; have := HZW.out; omega)))
          have HO2 := Lib.hid (HO.out.below b2 (fun g hg => (HO.out.lt g hg).2))
          have d0 := (b2.cell (p := ⟨b', o' + j * 2, none⟩) (by have := HV.out.size; have := HZW.out; show b' < _; omega)).trans c0
          have d1 := (b2.cell (p := ⟨b', o' + j * 2 + 1, none⟩) (by have := HV.out.size; have := HZW.out; show b' < _; omega)).trans c1
          clear b2 CP HV HO c0 c1 hbz
          cases p with
          | false =>
            have HO3 := Lib.hid HO2.out
            rw [show (A.take j).filter placeF = (A.take (j + 1)).filter placeF by rw [HTS.out, List.filter_append, List.filter_cons_of_neg (by rw [← HP.out]; simp), List.filter_nil, List.append_nil]] at HO3
            clear HTS HP HO2
            go_wp2_with fail
            go_roundw
            case rel => exact ⟨j + 1, _, _, _, by omega, by go_num, rfl, HO3, HB2⟩
            case measure => simp [intOf]; omega
          | true =>
            obtain ⟨sx2, N2, cx2, w4, hr2, s5, b4, hN2⟩ := lit35 HO2.out [⟨ak, an⟩] (by have h1 := List.length_filter_le placeF (A.take j); have h2 := List.length_take_le j A; simp only [List.length_cons, List.length_nil]; omega) (by have := HB2.out.size; have := HZW.out; omega)
            rw [show (A.take j).filter placeF ++ [⟨ak, an⟩] = (A.take (j + 1)).filter placeF by rw [HTS.out, List.filter_append, List.filter_cons_of_pos (by exact HP.out.symm), List.filter_nil]] at s5
            have HR2 := Lib.hid hr2
            have HS2 := Lib.hid s5
            have HB4 := Lib.hid (HB2.out.trans b4)
            clear HTS HP HO2 hr2 s5 b4 hN2 HB2
            go_wp2_with (at_builtin; refine wpList_append_run rfl _ _ 35 35 rfl rfl rfl HR2.out ?_)
            go_roundw
            case rel => exact ⟨j + 1, _, _, _, by omega, by go_num, rfl, HS2, HB4⟩
            case measure => simp [intOf]; omega
        · as_aux_lemma =>
          have hjni : ¬ (j : Int) < (N : Int) := by omega
          have HO1 := Lib.hid (HO.out.mono (show m + 1 ≤ z1 from HZM.out))
          have hke : j = A.length := by rw [← HNA.out]; omega
          rw [hke, List.take_length] at HO1
          obtain ⟨D, hD⟩ : ∃ q, q = A.filter placeF := ⟨_, rfl⟩
          have HDL : Hid (D.length ≤ 3145728) := Lib.hid (by have h1 := List.length_filter_le placeF A; rw [← hD] at h1; have := HNA.out; omega)
          rw [← hD] at HO1 hR
          have HBJ := Lib.hid (HB.out.trans (HV.out.mono (by have := HM.out; have := HZM.out; omega)))
          have HXJ := Lib.hid (HX.out.below HV.out HZM.out)
          clear hke HO HV hD HB HX HNA HAT
          have HO := Lib.hid HO1.out
          clear HO1
          have q0 : wr.cell? ⟨m, 0, none⟩ = some (.int .i64 op) := HXJ.out.cell 0
          go_upto_if 54 with fail
          clear q0
          go_cut [54, 55] from 999 (fun z _ wx => z = .bool (callOp op) ∧ wr = wx)
          case first =>
            by_cases h15 : op = 15
            · subst h15
              go_wp2_with fail
              go_meet
              exact ⟨rfl, rfl⟩
            have e15 : (op == 15) = false := by rw [beq_eq_false_iff_ne]; exact h15
            by_cases h18 : op = 18
            · subst h18
              go_wp2_with fail
              go_meet
              exact ⟨rfl, rfl⟩
            have e18 : (op == 18) = false := by rw [beq_eq_false_iff_ne]; exact h18
            by_cases h19 : op = 19
            · subst h19
              go_wp2_with fail
              go_meet
              exact ⟨rfl, rfl⟩
            have e19 : (op == 19) = false := by rw [beq_eq_false_iff_ne]; exact h19
            by_cases h20 : op = 20
            · subst h20
              go_wp2_with fail
              go_meet
              exact ⟨rfl, rfl⟩
            have e20 : (op == 20) = false := by rw [beq_eq_false_iff_ne]; exact h20
            by_cases h21 : op = 21
            · subst h21
              go_wp2_with fail
              go_meet
              exact ⟨rfl, rfl⟩
            have e21 : (op == 21) = false := by rw [beq_eq_false_iff_ne]; exact h21
            have g1 : callOp op = false := by unfold callOp; simp [h15, h18, h19, h20, h21]
            replace g1 := Lib.hid g1
            clear h15 h18 h19 h20 h21
            go_wp2_with fail
            go_meet
            exact ⟨by rw [g1.out], rfl⟩
          case rest =>
            obtain ⟨rfl, rfl⟩ := hcut
            obtain ⟨G, hG⟩ : ∃ q, callOp op = q := ⟨_, rfl⟩
            rw [hG] at hR ⊢
            replace hG := Lib.hid hG
            cases G with
            | true =>
              obtain ⟨K, hK⟩ : ∃ q, q = if nn ≤ 16 then nn.toNat else 0 := ⟨_, rfl⟩
              have HKR : Hid (R = D ++ regs K) := Lib.hid (by
                rw [hR.out, hK]
                simp only [if_true]
                split
                · rfl
                · simp [regs])
              have HK1 : Hid (nn ≤ 16 → ((K : Int) = max nn 0)) := Lib.hid (fun h => by rw [hK, if_pos h]; omega)
              have HK2 : Hid (16 < nn → K = 0) := Lib.hid (fun h => by rw [hK, if_neg (by omega)])
              have hK16 : K ≤ 16 := by rw [hK]; split <;> omega
              have HO2 : Hid (Sl wr (m + 1) 38 2 arC (.slice S5 N5 C5) (D ++ regs 0)) := Lib.hid (by have := HO.out; simpa [regs] using this)
              clear hK hR HO
              go_wp2_with fail
              go_loopw [5, 7] (fun z5 z7 wr => ∃ (k : Nat) (S5 : Option Addr) (N5 C5 : Nat), k ≤ K ∧ z7 = .int .i64 (k : Int) ∧ z5 = .slice S5 N5 C5 ∧ Hid (Sl wr (m + 1) 38 2 arC (.slice S5 N5 C5) (D ++ regs k)) ∧ Hid (Blk wr m 42 #[.int .i64 op, .int .i64 dk, .int .i64 dn, .slice s1 n1 p1, .int .i64 goal, .int .i64 nn, .int .i64 live, .string name, .slice s2 n2 p2, .slice s3 n3 p3]) ∧ Hid (Below m w wr)) (fun _ z _ => K - (intOf z).toNat)
              case atStart => exact ⟨0, _, _, _, Nat.zero_le _, rfl, rfl, HO2, HXJ, HBJ⟩
              case round =>
                obtain ⟨k2, S6, N6, C6, hk2, rfl, rfl, HP, HXP, HBP⟩ := hrel
                clear HO2 HXJ HBJ
                have q5 : wr.cell? ⟨m, 5, none⟩ = some (.int .i64 nn) := HXP.out.cell 5
                by_cases h16 : nn ≤ 16
                · have hkm := HK1.out h16
                  by_cases hkK : k2 < K
                  · have hkKi : (k2 : Int) < nn := by omega
                    have CXK := Lib.hid (CX.out (k2 : Int) wr)
                    clear hkm
                    go_wp2_with fail
                    refine CXK.out.mono ?_
                    rintro e w2 ⟨rfl, b2⟩
                    have HB2 := Lib.hid (HBP.out.trans (b2.mono (by have := HBP.out.size; have := HM.out; omega)))
                    have HP2 := Lib.hid (HP.out.below b2 (fun g hg => (HP.out.lt g hg).2))
                    have HX2 := Lib.hid (HXP.out.below b2 HXP.out.lt)
                    clear b2 CXK HBP HP HXP q5
                    obtain ⟨sx2, N2, cx2, w4, hr2, s5, b4, hN2⟩ := lit35 HP2.out [⟨1, (k2 : Int)⟩] (by rw [List.length_append, regs_len]; have := HDL.out; simp only [List.length_cons, List.length_nil]; omega) (by have := HX2.out.lt; omega)
                    rw [List.append_assoc, ← regs_succ] at s5
                    have HR2 := Lib.hid hr2
                    have HS2 := Lib.hid s5
                    have HB4 := Lib.hid (HB2.out.trans (b4.mono (by omega)))
                    have HX4 := Lib.hid (show Blk w4 m 42 #[.int .i64 op, .int .i64 dk, .int .i64 dn, .slice s1 n1 p1, .int .i64 goal, .int .i64 nn, .int .i64 live, .string name, .slice s2 n2 p2, .slice s3 n3 p3] from (b4.block m (by omega)).trans HX2.out)
                    clear HP2 hr2 s5 b4 hN2 HB2 HX2
                    go_wp2_with (at_builtin; refine wpList_append_run rfl _ _ 35 35 rfl rfl rfl HR2.out ?_)
                    go_roundw
                    case rel => exact ⟨k2 + 1, _, _, _, by omega, by go_num, rfl, HS2, HX4, HB4⟩
                    case measure => simp [intOf]; omega
                  · have hkKi : ¬ (k2 : Int) < nn := by omega
                    obtain rfl : R = D ++ regs k2 := by rw [HKR.out]; congr 2; omega
                    have HP2 := Lib.hid (HP.out.mono (Nat.le_succ_of_le HM1.out))
                    clear hkm
                    go_wp2_with fail
                    go_ret
                    exact ⟨by rw [← HM.out]; exact HBP.out, _, rfl, HP2.out⟩
                · have hK0 := HK2.out (by omega)
                  obtain rfl : k2 = 0 := by omega
                  have hkKi : (0 : Int) < nn := by omega
                  obtain rfl : R = D ++ regs 0 := by rw [HKR.out, hK0]
                  have HP2 := Lib.hid (HP.out.mono (Nat.le_succ_of_le HM1.out))
                  clear hK0
                  simp only [Int.cast_ofNat_Int]
                  go_wp2_with fail
                  go_ret
                  exact ⟨by rw [← HM.out]; exact HBP.out, _, rfl, HP2.out⟩
            | false =>
              by_cases h26 : op = 26
              · subst h26
                obtain rfl : R = D ++ [⟨1, 0⟩] := by rw [hR.out]; simp
                have CXK := Lib.hid (CX.out 0 wr)
                go_wp2_with fail
                refine CXK.out.mono ?_
                rintro e w2 ⟨rfl, b2⟩
                have HB2 := Lib.hid (HBJ.out.trans (b2.mono (by have := HBJ.out.size; have := HM.out; omega)))
                have HP2 := Lib.hid (HO.out.below b2 (fun g hg => (HO.out.lt g hg).2))
                have HWZ : Hid (m + 1 ≤ w2.heap.size) := Lib.hid (by have := HXJ.out.lt; have := b2.size; omega)
                clear b2 CXK HO
                obtain ⟨sx2, N2, cx2, w4, hr2, s5, b4, hN2⟩ := lit35 HP2.out [⟨1, 0⟩] (by have := HDL.out; simp only [List.length_cons, List.length_nil]; omega) (by have := HWZ.out; omega)
                have HR2 := Lib.hid hr2
                have HS2 := Lib.hid (s5.mono (Nat.le_succ_of_le HM1.out))
                have HB4 := Lib.hid (HB2.out.trans (b4.mono (by omega)))
                clear HP2 hr2 s5 b4 hN2 HB2 HXJ HBJ
                go_wp2_with (at_builtin; refine wpList_append_run rfl _ _ 35 35 rfl rfl rfl HR2.out ?_)
                go_ret
                exact ⟨by rw [← HM.out]; exact HB4.out, _, rfl, HS2.out⟩
              · have e26 : (op == 26) = false := by rw [beq_eq_false_iff_ne]; exact h26
                obtain rfl : R = D := by rw [hR.out]; simp [h26]
                clear h26
                go_wp2_with fail
                go_ret
                exact ⟨by rw [← HM.out]; exact HBJ.out, _, rfl, HO.out.mono (Nat.le_succ_of_le HM1.out)⟩
end Go.Proofs.YtekfnonjhcfdmaaDoor
