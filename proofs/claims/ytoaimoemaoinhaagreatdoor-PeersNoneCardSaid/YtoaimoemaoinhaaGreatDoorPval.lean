/- peers.fields, peers.valid. -/
import Derived.Test.YtoaimoemaoinhaaGreatDoorClos
import Derived.Test.YtoaimoemaoinhaaGreatDoorTsame
import Derived.Test.YtoaimoemaoinhaaGreatDoorValid
namespace Go.Proofs.YtoaimoemaoinhaaGreatDoor
open Go.RowKit Go.Rt Go.Rw

def fldC : Array Value := #[.int .i64 1, .int .i64 6, .func (.func 103) #[] #[], .func (.func 104) #[] #[], .int .i64 2, .int .i64 6, .func (.func 105) #[] #[], .func (.func 106) #[] #[], .int .i64 4, .int .i64 2, .func (.func 107) #[] #[], .func (.func 109) #[] #[], .int .i64 8, .int .i64 2, .func (.func 110) #[] #[], .func (.func 111) #[] #[], .int .i64 16, .int .i64 3, .func (.func 112) #[] #[], .func (.func 113) #[] #[], .int .i64 32, .int .i64 1, .func (.func 114) #[] #[], .func (.func 116) #[] #[], .int .i64 64, .int .i64 0, .func (.func 117) #[] #[], .func (.func 118) #[] #[]]
set_option maxRecDepth 100000 in
set_option maxHeartbeats 8000000 in
theorem fields20 (w : World) : Calls Tryz.prog 61 #[] w fun e w' => e = .returned (.slice (some ⟨w.heap.size, 0, none⟩) 7 7) ∧ w' = w.alloc (.cells fldC 131) := by
  unfold fldC
  go_enter Tryz.func61, Tryz.ntmps61
  go_wp2_with fail
  go_ret
  exact ⟨rfl, rfl⟩
def sameS (s t : Sg) : Bool := decide (s.node = t.node) && (decide (s.name = t.name) && (decide (s.num = t.num) && (eqT s.fr t.fr && (eqT s.tt t.tt && (eqT s.ref t.ref && eqT s.val t.val)))))
set_option maxRecDepth 100000 in
set_option maxHeartbeats 8000000 in
theorem same44 (S S2 : Nat → Prop) (s t : Sg) (x y : Sf) (w : World) (h : SgAt S w s x) (h2 : SgAt S2 w t y) : Calls Tryz.prog 82 #[sgV s x, sgV t y] w fun e w' => e = .returned (.bool (sameS s t)) ∧ Below w.heap.size w w' := by
  obtain ⟨k, fr, tt, node, name, ref, num, val⟩ := s
  obtain ⟨⟨fa, va⟩, ⟨fb, vb⟩, ⟨fc, vc⟩, ⟨fd, vd⟩⟩ := x
  obtain ⟨_, sa, ca, ea⟩ := h.fr.its.2.form
  obtain ⟨_, sb, cb, eb⟩ := h.tt.its.2.form
  obtain ⟨_, sc, cc, ec⟩ := h.ref.its.2.form
  obtain ⟨_, sd, cd, ed⟩ := h.val.its.2.form
  dsimp only at ea eb ec ed
  obtain ⟨na, hna⟩ : ∃ q, q = fr.l.length := ⟨_, rfl⟩
  rw [← hna] at ea
  clear hna
  obtain ⟨nb, hnb⟩ : ∃ q, q = tt.l.length := ⟨_, rfl⟩
  rw [← hnb] at eb
  clear hnb
  obtain ⟨nc, hnc⟩ : ∃ q, q = ref.l.length := ⟨_, rfl⟩
  rw [← hnc] at ec
  clear hnc
  obtain ⟨nd, hnd⟩ : ∃ q, q = val.l.length := ⟨_, rfl⟩
  rw [← hnd] at ed
  clear hnd
  subst ea eb ec ed
  obtain ⟨k', fr', tt', node', name', ref', num', val'⟩ := t
  obtain ⟨⟨fa', va'⟩, ⟨fb', vb'⟩, ⟨fc', vc'⟩, ⟨fd', vd'⟩⟩ := y
  obtain ⟨_, sa', ca', ea'⟩ := h2.fr.its.2.form
  obtain ⟨_, sb', cb', eb'⟩ := h2.tt.its.2.form
  obtain ⟨_, sc', cc', ec'⟩ := h2.ref.its.2.form
  obtain ⟨_, sd', cd', ed'⟩ := h2.val.its.2.form
  dsimp only at ea' eb' ec' ed'
  obtain ⟨na', hna'⟩ : ∃ q, q = fr'.l.length := ⟨_, rfl⟩
  rw [← hna'] at ea'
  clear hna'
  obtain ⟨nb', hnb'⟩ : ∃ q, q = tt'.l.length := ⟨_, rfl⟩
  rw [← hnb'] at eb'
  clear hnb'
  obtain ⟨nc', hnc'⟩ : ∃ q, q = ref'.l.length := ⟨_, rfl⟩
  rw [← hnc'] at ec'
  clear hnc'
  obtain ⟨nd', hnd'⟩ : ∃ q, q = val'.l.length := ⟨_, rfl⟩
  rw [← hnd'] at ed'
  clear hnd'
  subst ea' eb' ec' ed'
  simp only [sgV, sgC, ftC, List.cons_append, List.nil_append]
  have W2 := Lib.hid (((Below.refl w.heap.size w).alloc (Nat.le_refl _) (.cells #[.int .i64 k, .int .i64 fa.k, .int .i64 fa.n, .int .i64 fa.g, .string fa.nm, .string fa.fn, .int .i64 fa.ar, .slice sa na ca, .string fa.bs, .int .i64 fa.bt, .int .i64 fb.k, .int .i64 fb.n, .int .i64 fb.g, .string fb.nm, .string fb.fn, .int .i64 fb.ar, .slice sb nb cb, .string fb.bs, .int .i64 fb.bt, .string node, .string name, .int .i64 fc.k, .int .i64 fc.n, .int .i64 fc.g, .string fc.nm, .string fc.fn, .int .i64 fc.ar, .slice sc nc cc, .string fc.bs, .int .i64 fc.bt, .int .i64 num, .int .i64 fd.k, .int .i64 fd.n, .int .i64 fd.g, .string fd.nm, .string fd.fn, .int .i64 fd.ar, .slice sd nd cd, .string fd.bs, .int .i64 fd.bt] 50)).alloc (by simp) (.cells #[.int .i64 k', .int .i64 fa'.k, .int .i64 fa'.n, .int .i64 fa'.g, .string fa'.nm, .string fa'.fn, .int .i64 fa'.ar, .slice sa' na' ca', .string fa'.bs, .int .i64 fa'.bt, .int .i64 fb'.k, .int .i64 fb'.n, .int .i64 fb'.g, .string fb'.nm, .string fb'.fn, .int .i64 fb'.ar, .slice sb' nb' cb', .string fb'.bs, .int .i64 fb'.bt, .string node', .string name', .int .i64 fc'.k, .int .i64 fc'.n, .int .i64 fc'.g, .string fc'.nm, .string fc'.fn, .int .i64 fc'.ar, .slice sc' nc' cc', .string fc'.bs, .int .i64 fc'.bt, .int .i64 num', .int .i64 fd'.k, .int .i64 fd'.n, .int .i64 fd'.g, .string fd'.nm, .string fd'.fn, .int .i64 fd'.ar, .slice sd' nd' cd', .string fd'.bs, .int .i64 fd'.bt] 50))
  have X := Lib.hid ((Blk.new w 50 #[.int .i64 k, .int .i64 fa.k, .int .i64 fa.n, .int .i64 fa.g, .string fa.nm, .string fa.fn, .int .i64 fa.ar, .slice sa na ca, .string fa.bs, .int .i64 fa.bt, .int .i64 fb.k, .int .i64 fb.n, .int .i64 fb.g, .string fb.nm, .string fb.fn, .int .i64 fb.ar, .slice sb nb cb, .string fb.bs, .int .i64 fb.bt, .string node, .string name, .int .i64 fc.k, .int .i64 fc.n, .int .i64 fc.g, .string fc.nm, .string fc.fn, .int .i64 fc.ar, .slice sc nc cc, .string fc.bs, .int .i64 fc.bt, .int .i64 num, .int .i64 fd.k, .int .i64 fd.n, .int .i64 fd.g, .string fd.nm, .string fd.fn, .int .i64 fd.ar, .slice sd nd cd, .string fd.bs, .int .i64 fd.bt]).alloc (.cells #[.int .i64 k', .int .i64 fa'.k, .int .i64 fa'.n, .int .i64 fa'.g, .string fa'.nm, .string fa'.fn, .int .i64 fa'.ar, .slice sa' na' ca', .string fa'.bs, .int .i64 fa'.bt, .int .i64 fb'.k, .int .i64 fb'.n, .int .i64 fb'.g, .string fb'.nm, .string fb'.fn, .int .i64 fb'.ar, .slice sb' nb' cb', .string fb'.bs, .int .i64 fb'.bt, .string node', .string name', .int .i64 fc'.k, .int .i64 fc'.n, .int .i64 fc'.g, .string fc'.nm, .string fc'.fn, .int .i64 fc'.ar, .slice sc' nc' cc', .string fc'.bs, .int .i64 fc'.bt, .int .i64 num', .int .i64 fd'.k, .int .i64 fd'.n, .int .i64 fd'.g, .string fd'.nm, .string fd'.fn, .int .i64 fd'.ar, .slice sd' nd' cd', .string fd'.bs, .int .i64 fd'.bt] 50))
  have Y := Lib.hid (Blk.new (w.alloc (.cells #[.int .i64 k, .int .i64 fa.k, .int .i64 fa.n, .int .i64 fa.g, .string fa.nm, .string fa.fn, .int .i64 fa.ar, .slice sa na ca, .string fa.bs, .int .i64 fa.bt, .int .i64 fb.k, .int .i64 fb.n, .int .i64 fb.g, .string fb.nm, .string fb.fn, .int .i64 fb.ar, .slice sb nb cb, .string fb.bs, .int .i64 fb.bt, .string node, .string name, .int .i64 fc.k, .int .i64 fc.n, .int .i64 fc.g, .string fc.nm, .string fc.fn, .int .i64 fc.ar, .slice sc nc cc, .string fc.bs, .int .i64 fc.bt, .int .i64 num, .int .i64 fd.k, .int .i64 fd.n, .int .i64 fd.g, .string fd.nm, .string fd.fn, .int .i64 fd.ar, .slice sd nd cd, .string fd.bs, .int .i64 fd.bt] 50)) 50 #[.int .i64 k', .int .i64 fa'.k, .int .i64 fa'.n, .int .i64 fa'.g, .string fa'.nm, .string fa'.fn, .int .i64 fa'.ar, .slice sa' na' ca', .string fa'.bs, .int .i64 fa'.bt, .int .i64 fb'.k, .int .i64 fb'.n, .int .i64 fb'.g, .string fb'.nm, .string fb'.fn, .int .i64 fb'.ar, .slice sb' nb' cb', .string fb'.bs, .int .i64 fb'.bt, .string node', .string name', .int .i64 fc'.k, .int .i64 fc'.n, .int .i64 fc'.g, .string fc'.nm, .string fc'.fn, .int .i64 fc'.ar, .slice sc' nc' cc', .string fc'.bs, .int .i64 fc'.bt, .int .i64 num', .int .i64 fd'.k, .int .i64 fd'.n, .int .i64 fd'.g, .string fd'.nm, .string fd'.fn, .int .i64 fd'.ar, .slice sd' nd' cd', .string fd'.bs, .int .i64 fd'.bt])
  rw [World.size_alloc] at Y
  have H1 := Lib.hid (h.below W2.out (fun b _ h => h))
  have H2 := Lib.hid (h2.below W2.out (fun b _ h => h))
  obtain ⟨R, hR⟩ : ∃ q, q = sameS ⟨k, fr, tt, node, name, ref, num, val⟩ ⟨k', fr', tt', node', name', ref', num', val'⟩ := ⟨_, rfl⟩
  rw [← hR]
  unfold sameS at hR
  dsimp only at hR
  clear h h2
  have HRR := Lib.hid hR
  clear hR
  go_enter Tryz.func82, Tryz.ntmps82
  go_upto_region 1 with fail
  generalize ((w.alloc (.cells #[.int .i64 k, .int .i64 fa.k, .int .i64 fa.n, .int .i64 fa.g, .string fa.nm, .string fa.fn, .int .i64 fa.ar, .slice sa na ca, .string fa.bs, .int .i64 fa.bt, .int .i64 fb.k, .int .i64 fb.n, .int .i64 fb.g, .string fb.nm, .string fb.fn, .int .i64 fb.ar, .slice sb nb cb, .string fb.bs, .int .i64 fb.bt, .string node, .string name, .int .i64 fc.k, .int .i64 fc.n, .int .i64 fc.g, .string fc.nm, .string fc.fn, .int .i64 fc.ar, .slice sc nc cc, .string fc.bs, .int .i64 fc.bt, .int .i64 num, .int .i64 fd.k, .int .i64 fd.n, .int .i64 fd.g, .string fd.nm, .string fd.fn, .int .i64 fd.ar, .slice sd nd cd, .string fd.bs, .int .i64 fd.bt] 50)).alloc (.cells #[.int .i64 k', .int .i64 fa'.k, .int .i64 fa'.n, .int .i64 fa'.g, .string fa'.nm, .string fa'.fn, .int .i64 fa'.ar, .slice sa' na' ca', .string fa'.bs, .int .i64 fa'.bt, .int .i64 fb'.k, .int .i64 fb'.n, .int .i64 fb'.g, .string fb'.nm, .string fb'.fn, .int .i64 fb'.ar, .slice sb' nb' cb', .string fb'.bs, .int .i64 fb'.bt, .string node', .string name', .int .i64 fc'.k, .int .i64 fc'.n, .int .i64 fc'.g, .string fc'.nm, .string fc'.fn, .int .i64 fc'.ar, .slice sc' nc' cc', .string fc'.bs, .int .i64 fc'.bt, .int .i64 num', .int .i64 fd'.k, .int .i64 fd'.n, .int .i64 fd'.g, .string fd'.nm, .string fd'.fn, .int .i64 fd'.ar, .slice sd' nd' cd', .string fd'.bs, .int .i64 fd'.bt] 50)) = w1 at X Y W2 H1 H2 ⊢
  obtain ⟨m, hm⟩ : ∃ q, q = w.heap.size := ⟨_, rfl⟩
  rw [← hm] at X Y ⊢
  have HM := Lib.hid hm
  clear hm
  have p0 := X.out.cell 19
  have p1 := X.out.cell 20
  have p2 := X.out.cell 30
  simp only [List.getElem?_toArray, List.getElem?_cons_zero, List.getElem?_cons_succ] at p0 p1 p2
  have r0 := Y.out.cell 19
  have r1 := Y.out.cell 20
  have r2 := Y.out.cell 30
  simp only [List.getElem?_toArray, List.getElem?_cons_zero, List.getElem?_cons_succ] at r0 r1 r2
  by_cases q0 : node = node'
  · subst q0
    by_cases q1 : name = name'
    · subst q1
      by_cases q2 : num = num'
      · subst q2
        have a0 := X.out.cell 1
        have a1 := X.out.cell 2
        have a2 := X.out.cell 3
        have a3 := X.out.cell 4
        have a4 := X.out.cell 5
        have a5 := X.out.cell 6
        have a6 := X.out.cell 7
        have a7 := X.out.cell 8
        have a8 := X.out.cell 9
        simp only [List.getElem?_toArray, List.getElem?_cons_zero, List.getElem?_cons_succ] at a0 a1 a2 a3 a4 a5 a6 a7 a8
        have b0 := Y.out.cell 1
        have b1 := Y.out.cell 2
        have b2 := Y.out.cell 3
        have b3 := Y.out.cell 4
        have b4 := Y.out.cell 5
        have b5 := Y.out.cell 6
        have b6 := Y.out.cell 7
        have b7 := Y.out.cell 8
        have b8 := Y.out.cell 9
        simp only [List.getElem?_toArray, List.getElem?_cons_zero, List.getElem?_cons_succ] at b0 b1 b2 b3 b4 b5 b6 b7 b8
        have CC := Lib.hid (tsame_any fr fr' S S2 _ _ w1 H1.out.fr H2.out.fr)
        obtain ⟨g, hg⟩ : ∃ q, q = eqT fr fr' := ⟨_, rfl⟩
        rw [← hg] at CC
        have HG3 := Lib.hid hg
        clear hg
        unfold ftV at CC
        dsimp only at CC
        go_wp2_with fail
        refine CC.out.mono ?_
        rintro e w2 ⟨rfl, bb⟩
        clear a0 a1 a2 a3 a4 a5 a6 a7 a8 b0 b1 b2 b3 b4 b5 b6 b7 b8 p0 p1 p2 r0 r1 r2 CC
        replace X := Lib.hid (X.out.below bb X.out.lt)
        replace Y := Lib.hid (Y.out.below bb Y.out.lt)
        replace H1 := Lib.hid (H1.out.below bb (fun b _ h => h))
        replace H2 := Lib.hid (H2.out.below bb (fun b _ h => h))
        replace W2 := Lib.hid (W2.out.trans (bb.mono W2.out.size))
        clear bb
        cases g with
        | false =>
          obtain rfl : R = false := by rw [HRR.out, ← HG3.out]; simp
          go_wp2_with fail
          go_ret
          exact ⟨rfl, W2.out⟩
        | true =>
          have a0 := X.out.cell 10
          have a1 := X.out.cell 11
          have a2 := X.out.cell 12
          have a3 := X.out.cell 13
          have a4 := X.out.cell 14
          have a5 := X.out.cell 15
          have a6 := X.out.cell 16
          have a7 := X.out.cell 17
          have a8 := X.out.cell 18
          simp only [List.getElem?_toArray, List.getElem?_cons_zero, List.getElem?_cons_succ] at a0 a1 a2 a3 a4 a5 a6 a7 a8
          have b0 := Y.out.cell 10
          have b1 := Y.out.cell 11
          have b2 := Y.out.cell 12
          have b3 := Y.out.cell 13
          have b4 := Y.out.cell 14
          have b5 := Y.out.cell 15
          have b6 := Y.out.cell 16
          have b7 := Y.out.cell 17
          have b8 := Y.out.cell 18
          simp only [List.getElem?_toArray, List.getElem?_cons_zero, List.getElem?_cons_succ] at b0 b1 b2 b3 b4 b5 b6 b7 b8
          have CC := Lib.hid (tsame_any tt tt' S S2 _ _ w2 H1.out.tt H2.out.tt)
          obtain ⟨g, hg⟩ : ∃ q, q = eqT tt tt' := ⟨_, rfl⟩
          rw [← hg] at CC
          have HG4 := Lib.hid hg
          clear hg
          unfold ftV at CC
          dsimp only at CC
          go_wp2_with fail
          refine CC.out.mono ?_
          rintro e w3 ⟨rfl, bb⟩
          clear a0 a1 a2 a3 a4 a5 a6 a7 a8 b0 b1 b2 b3 b4 b5 b6 b7 b8 CC
          replace X := Lib.hid (X.out.below bb X.out.lt)
          replace Y := Lib.hid (Y.out.below bb Y.out.lt)
          replace H1 := Lib.hid (H1.out.below bb (fun b _ h => h))
          replace H2 := Lib.hid (H2.out.below bb (fun b _ h => h))
          replace W2 := Lib.hid (W2.out.trans (bb.mono W2.out.size))
          clear bb
          cases g with
          | false =>
            obtain rfl : R = false := by rw [HRR.out, ← HG4.out]; simp
            go_wp2_with fail
            go_ret
            exact ⟨rfl, W2.out⟩
          | true =>
            have a0 := X.out.cell 21
            have a1 := X.out.cell 22
            have a2 := X.out.cell 23
            have a3 := X.out.cell 24
            have a4 := X.out.cell 25
            have a5 := X.out.cell 26
            have a6 := X.out.cell 27
            have a7 := X.out.cell 28
            have a8 := X.out.cell 29
            simp only [List.getElem?_toArray, List.getElem?_cons_zero, List.getElem?_cons_succ] at a0 a1 a2 a3 a4 a5 a6 a7 a8
            have b0 := Y.out.cell 21
            have b1 := Y.out.cell 22
            have b2 := Y.out.cell 23
            have b3 := Y.out.cell 24
            have b4 := Y.out.cell 25
            have b5 := Y.out.cell 26
            have b6 := Y.out.cell 27
            have b7 := Y.out.cell 28
            have b8 := Y.out.cell 29
            simp only [List.getElem?_toArray, List.getElem?_cons_zero, List.getElem?_cons_succ] at b0 b1 b2 b3 b4 b5 b6 b7 b8
            have CC := Lib.hid (tsame_any ref ref' S S2 _ _ w3 H1.out.ref H2.out.ref)
            obtain ⟨g, hg⟩ : ∃ q, q = eqT ref ref' := ⟨_, rfl⟩
            rw [← hg] at CC
            have HG5 := Lib.hid hg
            clear hg
            unfold ftV at CC
            dsimp only at CC
            go_wp2_with fail
            refine CC.out.mono ?_
            rintro e w4 ⟨rfl, bb⟩
            clear a0 a1 a2 a3 a4 a5 a6 a7 a8 b0 b1 b2 b3 b4 b5 b6 b7 b8 CC
            replace X := Lib.hid (X.out.below bb X.out.lt)
            replace Y := Lib.hid (Y.out.below bb Y.out.lt)
            replace H1 := Lib.hid (H1.out.below bb (fun b _ h => h))
            replace H2 := Lib.hid (H2.out.below bb (fun b _ h => h))
            replace W2 := Lib.hid (W2.out.trans (bb.mono W2.out.size))
            clear bb
            cases g with
            | false =>
              obtain rfl : R = false := by rw [HRR.out, ← HG5.out]; simp
              go_wp2_with fail
              go_ret
              exact ⟨rfl, W2.out⟩
            | true =>
              have a0 := X.out.cell 31
              have a1 := X.out.cell 32
              have a2 := X.out.cell 33
              have a3 := X.out.cell 34
              have a4 := X.out.cell 35
              have a5 := X.out.cell 36
              have a6 := X.out.cell 37
              have a7 := X.out.cell 38
              have a8 := X.out.cell 39
              simp only [List.getElem?_toArray, List.getElem?_cons_zero, List.getElem?_cons_succ] at a0 a1 a2 a3 a4 a5 a6 a7 a8
              have b0 := Y.out.cell 31
              have b1 := Y.out.cell 32
              have b2 := Y.out.cell 33
              have b3 := Y.out.cell 34
              have b4 := Y.out.cell 35
              have b5 := Y.out.cell 36
              have b6 := Y.out.cell 37
              have b7 := Y.out.cell 38
              have b8 := Y.out.cell 39
              simp only [List.getElem?_toArray, List.getElem?_cons_zero, List.getElem?_cons_succ] at b0 b1 b2 b3 b4 b5 b6 b7 b8
              have CC := Lib.hid (tsame_any val val' S S2 _ _ w4 H1.out.val H2.out.val)
              obtain ⟨g, hg⟩ : ∃ q, q = eqT val val' := ⟨_, rfl⟩
              rw [← hg] at CC
              have HG6 := Lib.hid hg
              clear hg
              unfold ftV at CC
              dsimp only at CC
              go_wp2_with fail
              refine CC.out.mono ?_
              rintro e w5 ⟨rfl, bb⟩
              clear a0 a1 a2 a3 a4 a5 a6 a7 a8 b0 b1 b2 b3 b4 b5 b6 b7 b8 CC
              replace X := Lib.hid (X.out.below bb X.out.lt)
              replace Y := Lib.hid (Y.out.below bb Y.out.lt)
              replace H1 := Lib.hid (H1.out.below bb (fun b _ h => h))
              replace H2 := Lib.hid (H2.out.below bb (fun b _ h => h))
              replace W2 := Lib.hid (W2.out.trans (bb.mono W2.out.size))
              clear bb
              cases g with
              | false =>
                obtain rfl : R = false := by rw [HRR.out, ← HG6.out]; simp
                go_wp2_with fail
                go_ret
                exact ⟨rfl, W2.out⟩
              | true =>
                obtain rfl : R = true := by rw [HRR.out, ← HG3.out, ← HG4.out, ← HG5.out, ← HG6.out]; simp
                go_wp2_with fail
                go_ret
                exact ⟨rfl, W2.out⟩
      · have d2 : (num == num') = false := by simpa using q2
        obtain rfl : R = false := by rw [HRR.out]; simp [q2]
        clear q2 HRR
        go_wp2_with fail
        go_ret
        exact ⟨rfl, W2.out⟩
    · have d1 : (name.toList == name'.toList) = false := by rw [beq_eq_false_iff_ne]; exact fun h => q1 (bytes_ext h)
      obtain rfl : R = false := by rw [HRR.out]; simp [q1]
      clear q1 HRR
      go_wp2_with fail
      go_ret
      exact ⟨rfl, W2.out⟩
  · have d0 : (node.toList == node'.toList) = false := by rw [beq_eq_false_iff_ne]; exact fun h => q0 (bytes_ext h)
    obtain rfl : R = false := by rw [HRR.out]; simp [q0]
    clear q0 HRR
    go_wp2_with fail
    go_ret
    exact ⟨rfl, W2.out⟩
end Go.Proofs.YtoaimoemaoinhaaGreatDoor
