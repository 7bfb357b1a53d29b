/- PeersX: a part of the proof. No condition beyond the premises of each theorem. -/
import Derived.Test.YtoaimoemaoinhaaGreatDoorQd36
import Derived.Shelf.SlIter.Nil
import Derived.Shelf.SortM.Plain
import Derived.Shelf.SortM.SortNone
import Derived.Ground.GgzProg
import Derived.Ground.SlgmProg
import Derived.Test.YtoaimoemaoinhaaGreatDoorProg
namespace Go.Proofs.YtoaimoemaoinhaaGreatDoor
open Go.RowKit Go.Rt Go.Rw Go.Mp
def noG : GF := fun n _ _ _ => (n, [])
theorem Col.trans {w w1 w2 : World} {base : Nat} {s' : Ds} {n' : Nu} {P P1 : Pb} (hg : P1.g = P.g) (b : Below base w w1) (h : Col w1 base s' n' P1 w2) : Col w base s' n' P w2 := by
 obtain ⟨P', h1, h2, h3⟩ := h
 exact ⟨P', h1.trans hg, h2, b.trans h3⟩
theorem pkt_ok {w : World} {base : Nat} {n : Nd} {a : Nm} (h : NdAt w base n a) {k : ByteArray} (hk : NOk n k) {p : ByteArray} (hp : PkOk p) (hT : Sk.Tabs w) (hb : 2 ≤ base) {R : Nd × List Ev} (hR : pktN noG n k p = (R, 0)) :
  Calls Tryz.prog 19 #[ptrV a.g, .string k, .string p] w (DonePk w base a R 0) := by
 have := packet_any h hk.nd k p hp.1 (by rw [hk.o]; simp) hT hb hk.c noG (fun x m px w1 a1 _ _ hr h7 _ _ => absurd h7 (hp.2 px hr))
 rw [hR] at this
 exact this
set_option maxRecDepth 100000 in
set_option maxHeartbeats 8000000 in
theorem pass_nonea {w : World} {base : Nat} {s : Ds} {n : Nu} {P : Pb} (h : PwAt w base s n P) (hw : s.wa = []) : Calls Tryz.prog 16 #[ptrV P.g, .int .i64 0] w fun e w' => e = .returned (.tuple #[]) ∧ w' = w := by
 have q := h.qa
 rw [hw] at q
 obtain ⟨a0, c0, hv, -, -⟩ := q.form
 have hc : w.cell? ⟨P.g, 2, none⟩ = some (.slice a0 0 c0) := h.cwa rfl hv
 clear h hw q hv
 unfold ptrV
 go_enter Tryz.func16, Tryz.ntmps16
 go_wp2_with fail
 exact bodyPost_ret (v := .tuple #[]) (by simp [results, Tryz.results16, go_sem]) rfl ⟨rfl, rfl⟩
set_option maxRecDepth 100000 in
set_option maxHeartbeats 8000000 in
theorem pass_noneb {w : World} {base : Nat} {s : Ds} {n : Nu} {P : Pb} (h : PwAt w base s n P) (hw : s.wb = []) : Calls Tryz.prog 16 #[ptrV P.g, .int .i64 1] w fun e w' => e = .returned (.tuple #[]) ∧ w' = w := by
 have q := h.qb
 rw [hw] at q
 obtain ⟨a0, c0, hv, -, -⟩ := q.form
 have hc : w.cell? ⟨P.g, 3, none⟩ = some (.slice a0 0 c0) := h.cwb rfl hv
 clear h hw q hv
 unfold ptrV
 go_enter Tryz.func16, Tryz.ntmps16
 go_wp2_with fail
 exact bodyPost_ret (v := .tuple #[]) (by simp [results, Tryz.results16, go_sem]) rfl ⟨rfl, rfl⟩
set_option maxRecDepth 100000 in
set_option maxHeartbeats 8000000 in
theorem pass_somea {w : World} {base : Nat} {s : Ds} {n : Nu} {P : Pb} (h : PwAt w base s n P) {p : ByteArray} {rest : List ByteArray} (hw : s.wa = p :: rest) (hk : NOk s.na exB) (hp : PkOk p) (hT : Sk.Tabs w) (hb : 2 ≤ base) {n1 : Nd} {evs : List Ev}
  (hR : pktN noG s.na exB p = ((n1, evs), 0)) (he : evs = [] ∨ (evs = [upE exB 1] ∧ s.ua = false)) (ho : (outQ n1 exB).length ≤ 1) (ho2 : (outQ s.nb exA).length ≤ 1) (hl : s.wa.length ≤ 100) (hl2 : s.wb.length ≤ 100) (hep : 0 ≤ n.ea ∧ n.ea ≤ 1000000) :
  Calls Tryz.prog 16 #[ptrV P.g, .int .i64 0] w fun e w' => e = .returned (.tuple #[]) ∧ (evs = [] → Col w base (colS { s with na := n1, wa := rest }) n P w') ∧ (evs ≠ [] → Col w base (colS { s with na := n1, wa := rest, ua := true }) { n with ea := n.ea + 1, sa := 0, fa := 0, ga := 0 } P w') := by
 have q := h.qa
 rw [hw] at q
 obtain ⟨gq, o, o', cap, hv, hgl, hcap, hcm, hc0, hsl, hq⟩ := q.pop
 have hc : w.cell? ⟨P.g, 2, none⟩ = some (.slice (some ⟨gq, o, none⟩) (rest.length + 1) cap) := h.cwa rfl hv
 have fc := h.blk.frozen 2
 have hia := way_at P.g
 have hib := way_at0 P.g
 have hix0 := name_at false
 have hix1 := name_at true
 simp only [if_true, if_false, Bool.false_eq_true] at hix0 hix1
 have e1 : IntKind.i64.wrap 1 = 1 := by kernel_rfl
 have e0 : IntKind.i64.wrap 0 = 0 := by kernel_rfl
 have HLR : Hid (rest.length ≤ 1000) := Lib.hid (by rw [hw] at hl; simp only [List.length_cons] at hl; omega)
 have HLY : Hid (s.wb.length ≤ 1000) := Lib.hid (by omega)
 have HK := Lib.hid hk
 have HPK := Lib.hid hp
 have HB2 := Lib.hid hb
 have HR := Lib.hid hR
 have HE := Lib.hid he
 have HO := Lib.hid ho
 have HO2 := Lib.hid ho2
 have HEP := Lib.hid hep
 have H2 : Hid (PwAt (w.setCell ⟨P.g, 2, none⟩ (.slice (some ⟨gq, o', none⟩) rest.length (cap - 1))).drew base { s with wa := rest } n { P with va := .slice (some ⟨gq, o', none⟩) rest.length (cap - 1) }) := Lib.hid
  (h.wayA (Only.refl _ w) hq (.inr (.inl (by rw [hv]; rfl))) ((Only.setCell w ⟨P.g, 2, none⟩ _ (by simp)).trans (Only.drew _ _)) (h.blk.set_ 2 (.slice (some ⟨gq, o', none⟩) rest.length (cap - 1))))
 have B2 : Hid (Below base w (w.setCell ⟨P.g, 2, none⟩ (.slice (some ⟨gq, o', none⟩) rest.length (cap - 1))).drew) := Lib.hid (((Below.refl base w).setCell (p := ⟨P.g, 2, none⟩) h.bg _).trans (Below.refl base _).drew)
 have HTW := Lib.hid hT
 have hnl : ¬ ((rest.length : Int) + 1 = 0) := by omega
 have hcp : (rest.length : Int) + 1 ≤ (cap : Int) := by omega
 clear h hw hk hp hT hb hR he ho ho2 hl hl2 hep q hq hv hcm hcap
 unfold ptrV at *
 go_enter Tryz.func16, Tryz.ntmps16
 go_upto_region 2 with fail
 go_still_tail 12, (by kernel_rfl)
 change wpList _ _ _ _ _ w.drew
 go_upto_region 3 with fail
 clear hc fc hia hib hc0 hsl hgl hnl hcp
 obtain ⟨P1, hP1⟩ : ∃ y : Pb, y = { P with va := .slice (some ⟨gq, o', none⟩) rest.length (cap - 1) } := ⟨_, rfl⟩
 have HG1 : Hid (P1.g = P.g) := Lib.hid (by rw [hP1])
 have HA1 : Hid (P1.a.g = P.a.g) := Lib.hid (by rw [hP1])
 rw [← hP1] at H2
 clear hP1
 generalize (w.setCell ⟨P.g, 2, none⟩ (.slice (some ⟨gq, o', none⟩) rest.length (cap - 1))).drew = w2 at *
 have TT2 := Lib.hid (HTW.out.below B2.out HB2.out)
 have c0 : w2.cell? ⟨P.g, 0, none⟩ = some (.pointer (some ⟨P.a.g, 0, none⟩)) := by rw [← HA1.out]; exact H2.out.cpa HG1.out
 go_region_held3 (fun w' => w'.cell? ⟨P.g, 0, none⟩ = some (.pointer (some ⟨P.a.g, 0, none⟩))) (first | exact c0 | exact m0)
  ((first
   | (go_at_call 11; refine (names_any _).mono ?_; rintro e w3 ⟨rfl, b3⟩; have H3 := Lib.hid ((H2.out.below (Below.refl _ w2).drew).below b3); have B3 := Lib.hid ((B2.out.trans (Below.refl base w2).drew).trans (b3.mono H2.out.na.bz)); have TT3 := Lib.hid ((TT2.out.below (Below.refl _ w2).drew TT2.out.two).below b3 TT2.out.two); have m0 : w3.cell? ⟨P.g, 0, none⟩ = some (.pointer (some ⟨P.a.g, 0, none⟩)) := (H3.out.cpa HG1.out).trans (by rw [HA1.out]); clear b3)
   | (go_at_call 19; have CP := pkt_ok H3.out.na HK.out HPK.out TT3.out HB2.out HR.out; unfold ptrV at CP; rw [HA1.out] at CP; refine CP.mono ?_; rintro e w4 ⟨v, a4, rfl, q2, q3, q4⟩; have EV := Lib.hid q2; have H4 := Lib.hid (H3.out.setA q3 q4); have B4 := Lib.hid (B3.out.trans (Trail.kept H3.out.na q4)); have HSZ := Lib.hid (show P1.g < w3.heap.size from H3.out.blk.lt); clear m0; have m0 : w4.cell? ⟨P.g, 0, none⟩ = some (.pointer (some ⟨P.a.g, 0, none⟩)) := (H4.out.cpa HG1.out).trans (by rw [q4.g, HA1.out]); clear q2 q3 q4 CP)))
 clear m0 c0
 obtain ⟨P2, hP2⟩ : ∃ y : Pb, y = { P1 with a := a4 } := ⟨_, rfl⟩
 have HG2 : Hid (P2.g = P.g) := Lib.hid (by rw [hP2]; exact HG1.out)
 rw [← hP2] at H4
 clear hP2
 have c16 : w4.cell? ⟨P.g, 16, none⟩ = some (.bool true) := blk_at H4.out.blk 16 HG2.out rfl rfl
 have f16 : w4.frozen? ⟨P.g, 16, none⟩ = false := by rw [← HG2.out]; exact H4.out.blk.frozen 16
 have H5 : Hid (PwAt (w4.setCell ⟨P.g, 16, none⟩ (.bool true)) base { s with na := n1, wa := rest } n P2) := Lib.hid (by
  have := H4.out.own (ua := s.ua) (ub := s.ub) (n' := n) (Only.setCell w4 ⟨P2.g, 16, none⟩ (.bool true) (by simp)) (H4.out.blk.set_ 16 (.bool true))
  rw [HG2.out] at this
  exact this)
 have B5 := Lib.hid (B4.out.setCell (p := ⟨P.g, 16, none⟩) (by rw [← HG2.out]; exact H4.out.bg) (.bool true))
 have EV5 := Lib.hid (EV.out.keep (Only.setCell (bs := [P.g]) w4 ⟨P.g, 16, none⟩ (.bool true) (by simp)) (fun b hb => .inl (by rw [List.mem_singleton.1 hb, ← HG1.out]; exact HSZ.out)))
 clear H4 B4 EV HSZ H3 B3 TT3 H2 B2 TT2
 rcases HE.out with rfl | ⟨rfl, hu⟩
 ·
  have hv : v = .slice none 0 0 := EV5.out
  subst hv
  go_upto_region 5 with fail
  clear c16 f16
  generalize w4.setCell ⟨P.g, 16, none⟩ (.bool true) = w5 at *
  have CE := Lib.hid (events_none P.g 0 w5)
  have CC := Lib.hid (collect_any H5.out HO.out HO2.out HLR.out HLY.out)
  rw [HG2.out] at CC
  unfold ptrV at CE CC
  go_wp2_with fail
  refine CE.out.mono ?_
  rintro e w6 ⟨rfl, rfl⟩
  clear CE
  go_wp2_with fail
  refine CC.out.mono ?_
  rintro e w7 ⟨rfl, h7⟩
  have H7 := Lib.hid h7
  clear h7 CC
  go_wp2_with fail
  go_end0
  exact ⟨rfl, Col.trans HG2.out B5.out H7.out⟩
 ·
  have HU := Lib.hid hu
  obtain ⟨b, x, hv, hxb, hbn, hsg⟩ := EV5.out
  subst hv
  have HXB := Lib.hid hxb
  have HSG := Lib.hid (ev_one hsg)
  clear hu hxb hbn hsg
  go_upto_region 5 with fail
  clear c16 f16
  generalize w4.setCell ⟨P.g, 16, none⟩ (.bool true) = w5 at *
  have hbk := H5.out.blk
  rw [show ({ s with na := n1, wa := rest } : Ds).ua = false from HU.out] at hbk
  have CE := Lib.hid (events_upa hbk HXB.out (ev_size _ _) HSG.out rfl rfl rfl HEP.out)
  rw [HG2.out] at CE
  clear hbk
  unfold ptrV at CE
  go_wp2_with fail
  refine CE.out.mono ?_
  rintro e w6 ⟨rfl, q1, q2⟩
  have H6 : Hid (PwAt w6 base { s with na := n1, wa := rest, ua := true } { n with ea := n.ea + 1, sa := 0, fa := 0, ga := 0 } P2) := Lib.hid (H5.out.own (by rw [HG2.out]; exact q2) (by rw [HG2.out]; exact q1))
  have B6 := Lib.hid (B5.out.trans (q2.below (fun b hb => by rw [List.mem_singleton.1 hb, ← HG2.out]; exact H5.out.bg) H5.out.na.bz))
  clear q1 q2 CE H5 B5 EV5 HXB HSG
  have CC := Lib.hid (collect_any H6.out HO.out HO2.out HLR.out HLY.out)
  rw [HG2.out] at CC
  unfold ptrV at CC
  go_wp2_with fail
  refine CC.out.mono ?_
  rintro e w7 ⟨rfl, h7⟩
  have H7 := Lib.hid h7
  clear h7 CC
  go_wp2_with fail
  go_end0
  exact ⟨rfl, fun h => (by cases h), fun _ => Col.trans HG2.out B6.out H7.out⟩
set_option maxRecDepth 100000 in
set_option maxHeartbeats 8000000 in
theorem pass_someb {w : World} {base : Nat} {s : Ds} {n : Nu} {P : Pb} (h : PwAt w base s n P) {p : ByteArray} {rest : List ByteArray} (hw : s.wb = p :: rest) (hk : NOk s.nb exA) (hp : PkOk p) (hT : Sk.Tabs w) (hb : 2 ≤ base) {n1 : Nd} {evs : List Ev}
  (hR : pktN noG s.nb exA p = ((n1, evs), 0)) (he : evs = [] ∨ (evs = [upE exA 1] ∧ s.ub = false)) (ho : (outQ n1 exA).length ≤ 1) (ho2 : (outQ s.na exB).length ≤ 1) (hl : s.wb.length ≤ 100) (hl2 : s.wa.length ≤ 100) (hep : 0 ≤ n.eb ∧ n.eb ≤ 1000000) :
  Calls Tryz.prog 16 #[ptrV P.g, .int .i64 1] w fun e w' => e = .returned (.tuple #[]) ∧ (evs = [] → Col w base (colS { s with nb := n1, wb := rest }) n P w') ∧ (evs ≠ [] → Col w base (colS { s with nb := n1, wb := rest, ub := true }) { n with eb := n.eb + 1, sb := 0, fb := 0, gb := 0 } P w') := by
 have q := h.qb
 rw [hw] at q
 obtain ⟨gq, o, o', cap, hv, hgl, hcap, hcm, hc0, hsl, hq⟩ := q.pop
 have hc : w.cell? ⟨P.g, 3, none⟩ = some (.slice (some ⟨gq, o, none⟩) (rest.length + 1) cap) := h.cwb rfl hv
 have fc := h.blk.frozen 3
 have hia := way_at P.g
 have hib := way_at0 P.g
 have hix0 := name_at false
 have hix1 := name_at true
 simp only [if_true, if_false, Bool.false_eq_true] at hix0 hix1
 have e1 : IntKind.i64.wrap 1 = 1 := by kernel_rfl
 have e0 : IntKind.i64.wrap 0 = 0 := by kernel_rfl
 have HLR : Hid (rest.length ≤ 1000) := Lib.hid (by rw [hw] at hl; simp only [List.length_cons] at hl; omega)
 have HLY : Hid (s.wa.length ≤ 1000) := Lib.hid (by omega)
 have HK := Lib.hid hk
 have HPK := Lib.hid hp
 have HB2 := Lib.hid hb
 have HR := Lib.hid hR
 have HE := Lib.hid he
 have HO := Lib.hid ho
 have HO2 := Lib.hid ho2
 have HEP := Lib.hid hep
 have H2 : Hid (PwAt (w.setCell ⟨P.g, 3, none⟩ (.slice (some ⟨gq, o', none⟩) rest.length (cap - 1))).drew base { s with wb := rest } n { P with vb := .slice (some ⟨gq, o', none⟩) rest.length (cap - 1) }) := Lib.hid
  (h.wayB (Only.refl _ w) hq (.inr (.inl (by rw [hv]; rfl))) ((Only.setCell w ⟨P.g, 3, none⟩ _ (by simp)).trans (Only.drew _ _)) (h.blk.set_ 3 (.slice (some ⟨gq, o', none⟩) rest.length (cap - 1))))
 have B2 : Hid (Below base w (w.setCell ⟨P.g, 3, none⟩ (.slice (some ⟨gq, o', none⟩) rest.length (cap - 1))).drew) := Lib.hid (((Below.refl base w).setCell (p := ⟨P.g, 3, none⟩) h.bg _).trans (Below.refl base _).drew)
 have HTW := Lib.hid hT
 have hnl : ¬ ((rest.length : Int) + 1 = 0) := by omega
 have hcp : (rest.length : Int) + 1 ≤ (cap : Int) := by omega
 clear h hw hk hp hT hb hR he ho ho2 hl hl2 hep q hq hv hcm hcap
 unfold ptrV at *
 go_enter Tryz.func16, Tryz.ntmps16
 go_upto_region 2 with fail
 go_still_tail 12, (by kernel_rfl)
 change wpList _ _ _ _ _ w.drew
 go_upto_region 3 with fail
 clear hc fc hia hib hc0 hsl hgl hnl hcp
 obtain ⟨P1, hP1⟩ : ∃ y : Pb, y = { P with vb := .slice (some ⟨gq, o', none⟩) rest.length (cap - 1) } := ⟨_, rfl⟩
 have HG1 : Hid (P1.g = P.g) := Lib.hid (by rw [hP1])
 have HA1 : Hid (P1.b.g = P.b.g) := Lib.hid (by rw [hP1])
 rw [← hP1] at H2
 clear hP1
 generalize (w.setCell ⟨P.g, 3, none⟩ (.slice (some ⟨gq, o', none⟩) rest.length (cap - 1))).drew = w2 at *
 have TT2 := Lib.hid (HTW.out.below B2.out HB2.out)
 have c0 : w2.cell? ⟨P.g, 1, none⟩ = some (.pointer (some ⟨P.b.g, 0, none⟩)) := by rw [← HA1.out]; exact H2.out.cpb HG1.out
 go_region_held3 (fun w' => w'.cell? ⟨P.g, 1, none⟩ = some (.pointer (some ⟨P.b.g, 0, none⟩))) (first | exact c0 | exact m0)
  ((first
   | (go_at_call 11; refine (names_any _).mono ?_; rintro e w3 ⟨rfl, b3⟩; have H3 := Lib.hid ((H2.out.below (Below.refl _ w2).drew).below b3); have B3 := Lib.hid ((B2.out.trans (Below.refl base w2).drew).trans (b3.mono H2.out.na.bz)); have TT3 := Lib.hid ((TT2.out.below (Below.refl _ w2).drew TT2.out.two).below b3 TT2.out.two); have m0 : w3.cell? ⟨P.g, 1, none⟩ = some (.pointer (some ⟨P.b.g, 0, none⟩)) := (H3.out.cpb HG1.out).trans (by rw [HA1.out]); clear b3)
   | (go_at_call 19; have CP := pkt_ok H3.out.nb HK.out HPK.out TT3.out HB2.out HR.out; unfold ptrV at CP; rw [HA1.out] at CP; refine CP.mono ?_; rintro e w4 ⟨v, a4, rfl, q2, q3, q4⟩; have EV := Lib.hid q2; have H4 := Lib.hid (H3.out.setB q3 q4); have B4 := Lib.hid (B3.out.trans (Trail.kept H3.out.nb q4)); have HSZ := Lib.hid (show P1.g < w3.heap.size from H3.out.blk.lt); clear m0; have m0 : w4.cell? ⟨P.g, 1, none⟩ = some (.pointer (some ⟨P.b.g, 0, none⟩)) := (H4.out.cpb HG1.out).trans (by rw [q4.g, HA1.out]); clear q2 q3 q4 CP)))
 clear m0 c0
 obtain ⟨P2, hP2⟩ : ∃ y : Pb, y = { P1 with b := a4 } := ⟨_, rfl⟩
 have HG2 : Hid (P2.g = P.g) := Lib.hid (by rw [hP2]; exact HG1.out)
 rw [← hP2] at H4
 clear hP2
 have c16 : w4.cell? ⟨P.g, 16, none⟩ = some (.bool true) := blk_at H4.out.blk 16 HG2.out rfl rfl
 have f16 : w4.frozen? ⟨P.g, 16, none⟩ = false := by rw [← HG2.out]; exact H4.out.blk.frozen 16
 have H5 : Hid (PwAt (w4.setCell ⟨P.g, 16, none⟩ (.bool true)) base { s with nb := n1, wb := rest } n P2) := Lib.hid (by
  have := H4.out.own (ua := s.ua) (ub := s.ub) (n' := n) (Only.setCell w4 ⟨P2.g, 16, none⟩ (.bool true) (by simp)) (H4.out.blk.set_ 16 (.bool true))
  rw [HG2.out] at this
  exact this)
 have B5 := Lib.hid (B4.out.setCell (p := ⟨P.g, 16, none⟩) (by rw [← HG2.out]; exact H4.out.bg) (.bool true))
 have EV5 := Lib.hid (EV.out.keep (Only.setCell (bs := [P.g]) w4 ⟨P.g, 16, none⟩ (.bool true) (by simp)) (fun b hb => .inl (by rw [List.mem_singleton.1 hb, ← HG1.out]; exact HSZ.out)))
 clear H4 B4 EV HSZ H3 B3 TT3 H2 B2 TT2
 rcases HE.out with rfl | ⟨rfl, hu⟩
 ·
  have hv : v = .slice none 0 0 := EV5.out
  subst hv
  go_upto_region 5 with fail
  clear c16 f16
  generalize w4.setCell ⟨P.g, 16, none⟩ (.bool true) = w5 at *
  have CE := Lib.hid (events_none P.g 1 w5)
  have CC := Lib.hid (collect_any H5.out HO2.out HO.out HLY.out HLR.out)
  rw [HG2.out] at CC
  unfold ptrV at CE CC
  go_wp2_with fail
  refine CE.out.mono ?_
  rintro e w6 ⟨rfl, rfl⟩
  clear CE
  go_wp2_with fail
  refine CC.out.mono ?_
  rintro e w7 ⟨rfl, h7⟩
  have H7 := Lib.hid h7
  clear h7 CC
  go_wp2_with fail
  go_end0
  exact ⟨rfl, Col.trans HG2.out B5.out H7.out⟩
 ·
  have HU := Lib.hid hu
  obtain ⟨b, x, hv, hxb, hbn, hsg⟩ := EV5.out
  subst hv
  have HXB := Lib.hid hxb
  have HSG := Lib.hid (ev_one hsg)
  clear hu hxb hbn hsg
  go_upto_region 5 with fail
  clear c16 f16
  generalize w4.setCell ⟨P.g, 16, none⟩ (.bool true) = w5 at *
  have hbk := H5.out.blk
  rw [show ({ s with nb := n1, wb := rest } : Ds).ub = false from HU.out] at hbk
  have CE := Lib.hid (events_upb hbk HXB.out (ev_size _ _) HSG.out rfl rfl rfl HEP.out)
  rw [HG2.out] at CE
  clear hbk
  unfold ptrV at CE
  go_wp2_with fail
  refine CE.out.mono ?_
  rintro e w6 ⟨rfl, q1, q2⟩
  have H6 : Hid (PwAt w6 base { s with nb := n1, wb := rest, ub := true } { n with eb := n.eb + 1, sb := 0, fb := 0, gb := 0 } P2) := Lib.hid (H5.out.own (by rw [HG2.out]; exact q2) (by rw [HG2.out]; exact q1))
  have B6 := Lib.hid (B5.out.trans (q2.below (fun b hb => by rw [List.mem_singleton.1 hb, ← HG2.out]; exact H5.out.bg) H5.out.na.bz))
  clear q1 q2 CE H5 B5 EV5 HXB HSG
  have CC := Lib.hid (collect_any H6.out HO2.out HO.out HLY.out HLR.out)
  rw [HG2.out] at CC
  unfold ptrV at CC
  go_wp2_with fail
  refine CC.out.mono ?_
  rintro e w7 ⟨rfl, h7⟩
  have H7 := Lib.hid h7
  clear h7 CC
  go_wp2_with fail
  go_end0
  exact ⟨rfl, fun h => (by cases h), fun _ => Col.trans HG2.out B6.out H7.out⟩
def nuD (ua ub : Bool) : Nu := ⟨if ua then 1 else 0, if ub then 1 else 0, 0, 0, 0, 0, 0, 0, 0, 0⟩
theorem nd_new {w : World} {base g mc mo ml : Nat} {nm ot ck : ByteArray} {ch : Nat} (h : PM w g mc mo ml nm 1 ck ch 0 [] [] []) (h1 : base ≤ g) (h2 : base ≤ mc) (h3 : base ≤ mo) (h4 : base ≤ ml) : NdAt w base (mkN nm ot ck ch 0 none false []) ⟨g, mc, mo, ml, [], []⟩ where
 pm := h
 cs := fun p hp => by cases hp
 os := fun p hp => by cases hp
 eC := rfl
 eO := rfl
 nod := by
  obtain ⟨s1, s2, s3, s4, s5, s6⟩ := h.sep
  simp [foot, s1, s2, s3, s4, s5, s6]
 low := by
  intro b hb
  have l1 := h.blk.lt
  have l2 := h.cm.lt
  have l3 := h.om.lt
  have l4 := h.lm.lt
  simp only [foot, List.flatMap_nil, List.append_nil, List.mem_cons, List.not_mem_nil, or_false] at hb
  omega
 bz := by have := h.blk.lt; omega
set_option maxRecDepth 100000 in
set_option maxHeartbeats 8000000 in
theorem made_any (x y : ByteArray) (w : World) : Calls Tryz.prog 8 #[.string x, .string y] w fun e w' => ∃ P : Pb, e = .returned (ptrV P.g) ∧ PwAt w' w.heap.size ⟨NA x 7 0 none false, NB y 70 0 none false, [], [], false, false⟩ (nuD false false) P ∧ Below w.heap.size w w' := by
 have CA := Lib.hid (pnew_yes exA 1 x 7 nOkA w)
 have CB := Lib.hid (fun W => pnew_yes exB 1 y 70 nOkB W)
 unfold ptrV at *
 go_enter Tryz.func8, Tryz.ntmps8
 go_wp2_with fail
 refine CA.out.mono ?_
 rintro e w1 ⟨g, mc, mo, ml, rfl, h1, h2, h3, h4, hp, b1⟩
 have HA := Lib.hid (nd_new (ot := exB) hp h1 h2 h3 h4)
 have B1 := Lib.hid b1
 clear CA hp h1 h2 h3 h4 b1
 go_wp2_with fail
 refine (CB.out w1).mono ?_
 rintro e w2 ⟨g2, mc2, mo2, ml2, rfl, h1, h2, h3, h4, hp, b2⟩
 have HB := Lib.hid (nd_new (ot := exA) hp h1 h2 h3 h4)
 have HA2 := Lib.hid (HA.out.below b2)
 have B2 := Lib.hid (B1.out.trans (b2.mono B1.out.size))
 have HSB := Lib.hid (show ∀ b ∈ foot (⟨g2, mc2, mo2, ml2, [], []⟩ : Nm), w1.heap.size ≤ b from fun b hb => (HB.out.low b hb).1)
 have HSA := Lib.hid (show ∀ b ∈ foot (⟨g, mc, mo, ml, [], []⟩ : Nm), b < w1.heap.size from fun b hb => (HA.out.low b hb).2)
 clear CB hp h1 h2 h3 h4 b2
 have AL := (Below.refl w2.heap.size w2).alloc (Nat.le_refl _) (.cells (prC g g2 (.slice none 0 0) (.slice none 0 0) false false (nuD false false)) 33)
 have HF : Hid (∃ P : Pb, P.g = w2.heap.size ∧ PwAt (w2.alloc (.cells (prC g g2 (.slice none 0 0) (.slice none 0 0) false false (nuD false false)) 33)) w.heap.size ⟨NA x 7 0 none false, NB y 70 0 none false, [], [], false, false⟩ (nuD false false) P) := Lib.hid (by
  have hb : w.heap.size ≤ w1.heap.size := B1.out.size
  have hb2 : w1.heap.size ≤ w2.heap.size := HB.out.bz
  refine ⟨⟨w2.heap.size, ⟨g, mc, mo, ml, [], []⟩, ⟨g2, mc2, mo2, ml2, [], []⟩, .slice none 0 0, .slice none 0 0⟩, rfl, Blk.new _ _ _, HA2.out.below AL, ?_, Wq.nil _ _, Wq.nil _ _, ?_, Nat.le_trans hb hb2⟩
  ·
   have q := HB.out.below AL
   exact ⟨q.pm, fun p hp => (by cases hp), fun p hp => (by cases hp), q.eC, q.eO, q.nod, fun b h => ⟨Nat.le_trans hb (q.low b h).1, (q.low b h).2⟩, Nat.le_trans hb q.bz⟩
  ·
   refine ⟨fun b h k => ?_, fun _ _ h => (by cases h), fun _ _ h => (by cases h), fun h => ?_, fun _ _ h => (by cases h), fun _ _ h => (by cases h), fun h => ?_, fun h => (by cases h), fun h => (by cases h), fun _ h => (by cases h)⟩
   ·
    have := HSA.out b h
    have := HSB.out b k
    omega
   ·
    have := (HA2.out.low _ h).2
    exact absurd this (Nat.lt_irrefl _)
   ·
    have := (HB.out.low _ h).2
    exact absurd this (Nat.lt_irrefl _))
 have B3 := Lib.hid (B2.out.alloc B2.out.size (.cells (prC g g2 (.slice none 0 0) (.slice none 0 0) false false (nuD false false)) 33))
 unfold prC nuD ptrV at HF B3
 simp only [if_false, Bool.false_eq_true] at HF B3
 clear AL HA HB HA2 HSA HSB B1 B2
 go_wp2_with fail
 go_ret
 obtain ⟨P, hg, hp⟩ := HF.out
 exact ⟨P, by rw [hg]; rfl, hp, B3.out⟩
structure Cook (x y : ByteArray) (acc : Bool) (D : Nat) : Prop where
 d : D ≤ 1000000
 same : acc = true → x = y
 rej : acc = false → Rej x y D
 x : x.size ≤ 6000
 y : y.size ≤ 6000
def InD (x y : ByteArray) (acc : Bool) (base : Nat) (w0 : World) (g D q r : Nat) (s : Ds) (w : World) : Prop := ∃ P, P.g = g ∧ PwAt w base s (nuD s.ua s.ub) P ∧ Ph x y acc D q r s ∧ Below base w0 w
section
variable {x y : ByteArray} {acc : Bool} {base : Nat} {w0 : World} {g D q r : Nat} {s : Ds} {w : World}
theorem nuD_ok (ua ub : Bool) : (0 ≤ (nuD ua ub).ea ∧ (nuD ua ub).ea ≤ 1000000) ∧ 0 ≤ (nuD ua ub).eb ∧ (nuD ua ub).eb ≤ 1000000 := by
 cases ua <;> cases ub <;> simp [nuD]
theorem ph_drop (h : Ph x y acc D q r s) : dropO s.na exB = s.na ∧ outQ s.na exB = [] ∧ dropO s.nb exA = s.nb ∧ outQ s.nb exA = [] := by
 cases h <;> exact ⟨mk_drop, mk_outQ, mk_drop, mk_outQ⟩
theorem passA_any (h : InD x y acc base w0 g D q r s w) (C : Cook x y acc D) (hT : Sk.Tabs w0) (hb : 2 ≤ base) (hw : s.wa ≠ []) :
  Calls Tryz.prog 16 #[ptrV g, .int .i64 0] w fun e w' => e = .returned (.tuple #[]) ∧ ∃ q' r' s', InD x y acc base w0 g D q' r' s' w' ∧ q ≤ q' + 1 ∧ r' < r := by
 obtain ⟨P, rfl, hP, hph, hB⟩ := h
 obtain ⟨p, rest, hw⟩ : ∃ p rest, s.wa = p :: rest := by
  cases e : s.wa with
  | nil => exact absurd e hw
  | cons p r => exact ⟨p, r, rfl⟩
 have ok := ph_ok hph C.d C.x C.y
 obtain ⟨n', evs, ua', q', r', h1, h2, h3, h4, h5, h6⟩ := ph_passA (G := noG) hph C.d C.same C.rej p rest hw
 have hd := ph_drop hph
 refine (pass_somea hP hw ok.a (ok.pa p (by rw [hw]; exact List.mem_cons_self)) (hT.below hB hb) hb h1 (h2.imp (·.1) (fun z => ⟨z.1, z.2.1⟩)) h3 (by rw [hd.2.2.2]; simp) (by have := ok.la; omega) (by have := ok.lb; omega) (nuD_ok _ _).1).mono ?_
 rintro e w' ⟨he, k1, k2⟩
 refine ⟨he, q', r', ⟨dropO n' exB, s.nb, rest, s.wb ++ outQ n' exB, ua', s.ub⟩, ?_, h5, h6⟩
 have ec : ∀ u, colS { s with na := n', wa := rest, ua := u } = ⟨dropO n' exB, s.nb, rest, s.wb ++ outQ n' exB, u, s.ub⟩ := by
  intro u
  show (⟨dropO n' exB, dropO s.nb exA, rest ++ outQ s.nb exA, s.wb ++ outQ n' exB, u, s.ub⟩ : Ds) = _
  rw [hd.2.2.1, hd.2.2.2, List.append_nil]
 rcases h2 with ⟨rfl, rfl⟩ | ⟨rfl, hu, rfl⟩
 ·
  obtain ⟨P', g1, g2, g3⟩ := k1 rfl
  have := ec s.ua
  rw [this] at g2
  exact ⟨P', g1, g2, h4, hB.trans g3⟩
 ·
  obtain ⟨P', g1, g2, g3⟩ := k2 (by simp)
  rw [ec true] at g2
  refine ⟨P', g1, ?_, h4, hB.trans g3⟩
  have en : ({ nuD s.ua s.ub with ea := (nuD s.ua s.ub).ea + 1, sa := 0, fa := 0, ga := 0 } : Nu) = nuD true s.ub := by rw [hu]; rfl
  rw [en] at g2
  exact g2
theorem passB_any (h : InD x y acc base w0 g D q r s w) (C : Cook x y acc D) (hT : Sk.Tabs w0) (hb : 2 ≤ base) (hw : s.wb ≠ []) :
  Calls Tryz.prog 16 #[ptrV g, .int .i64 1] w fun e w' => e = .returned (.tuple #[]) ∧ ∃ q' r' s', InD x y acc base w0 g D q' r' s' w' ∧ q ≤ q' + 1 ∧ r' < r := by
 obtain ⟨P, rfl, hP, hph, hB⟩ := h
 obtain ⟨p, rest, hw⟩ : ∃ p rest, s.wb = p :: rest := by
  cases e : s.wb with
  | nil => exact absurd e hw
  | cons p r => exact ⟨p, r, rfl⟩
 have ok := ph_ok hph C.d C.x C.y
 obtain ⟨n', evs, ub', q', r', h1, h2, h3, h4, h5, h6⟩ := ph_passB (G := noG) hph C.d C.same C.rej p rest hw
 have hd := ph_drop hph
 refine (pass_someb hP hw ok.b (ok.pb p (by rw [hw]; exact List.mem_cons_self)) (hT.below hB hb) hb h1 (h2.imp (·.1) (fun z => ⟨z.1, z.2.1⟩)) h3 (by rw [hd.2.1]; simp) (by have := ok.lb; omega) (by have := ok.la; omega) (nuD_ok _ _).2).mono ?_
 rintro e w' ⟨he, k1, k2⟩
 refine ⟨he, q', r', ⟨s.na, dropO n' exA, s.wa ++ outQ n' exA, rest, s.ua, ub'⟩, ?_, h5, h6⟩
 have ec : ∀ u, colS { s with nb := n', wb := rest, ub := u } = ⟨s.na, dropO n' exA, s.wa ++ outQ n' exA, rest, s.ua, u⟩ := by
  intro u
  show (⟨dropO s.na exB, dropO n' exA, s.wa ++ outQ n' exA, rest ++ outQ s.na exB, s.ua, u⟩ : Ds) = _
  rw [hd.1, hd.2.1, List.append_nil]
 rcases h2 with ⟨rfl, rfl⟩ | ⟨rfl, hu, rfl⟩
 ·
  obtain ⟨P', g1, g2, g3⟩ := k1 rfl
  have := ec s.ub
  rw [this] at g2
  exact ⟨P', g1, g2, h4, hB.trans g3⟩
 ·
  obtain ⟨P', g1, g2, g3⟩ := k2 (by simp)
  rw [ec true] at g2
  refine ⟨P', g1, ?_, h4, hB.trans g3⟩
  have en : ({ nuD s.ua s.ub with eb := (nuD s.ua s.ub).eb + 1, sb := 0, fb := 0, gb := 0 } : Nu) = nuD s.ua true := by rw [hu]; rfl
  rw [en] at g2
  exact g2
end
def rk (Q : Nat → Prop) [DecidablePred Q] : Nat := if Q 0 then 0 else if Q 1 then 1 else if Q 2 then 2 else if Q 3 then 3 else if Q 4 then 4 else if Q 5 then 5 else 6
theorem rk_le {Q : Nat → Prop} [DecidablePred Q] {r : Nat} (h : Q r) (hr : r ≤ 6) : rk Q ≤ r := by
 unfold rk
 rcases (show r = 0 ∨ r = 1 ∨ r = 2 ∨ r = 3 ∨ r = 4 ∨ r = 5 ∨ r = 6 by omega) with rfl | rfl | rfl | rfl | rfl | rfl | rfl <;> (repeat' split) <;> first | omega | exact absurd h (by assumption)
theorem rk_is {Q : Nat → Prop} [DecidablePred Q] {r : Nat} (h : Q r) (hr : r ≤ 6) : Q (rk Q) := by
 unfold rk
 repeat' split
 all_goals try assumption
 rcases (show r = 0 ∨ r = 1 ∨ r = 2 ∨ r = 3 ∨ r = 4 ∨ r = 5 ∨ r = 6 by omega) with rfl | rfl | rfl | rfl | rfl | rfl | rfl <;> first | exact h | (exfalso; contradiction)
section
variable {x y : ByteArray} {acc : Bool} {base : Nat} {w0 : World} {g D q r : Nat} {s : Ds} {w : World}
theorem InD.below {w' : World} (h : InD x y acc base w0 g D q r s w) (b : Below w.heap.size w w') : InD x y acc base w0 g D q r s w' := by
 obtain ⟨P, h1, h2, h3, h4⟩ := h
 exact ⟨P, h1, h2.below b, h3, h4.trans (b.mono h2.na.bz)⟩
theorem turnA (h : InD x y acc base w0 g D q r s w) (C : Cook x y acc D) (hT : Sk.Tabs w0) (hb : 2 ≤ base) :
  Calls Tryz.prog 16 #[ptrV g, .int .i64 0] w fun e w' => e = .returned (.tuple #[]) ∧ ∃ q' r' s', InD x y acc base w0 g D q' r' s' w' ∧ q ≤ q' + 1 ∧ (r' < r ∨ (r' = r ∧ s' = s ∧ s.wa = [])) := by
 by_cases hw : s.wa = []
 ·
  obtain ⟨P, h1, h2, h3, h4⟩ := h
  subst h1
  exact (pass_nonea h2 hw).mono fun _ _ ⟨k1, k2⟩ => ⟨k1, q, r, s, by rw [k2]; exact ⟨P, rfl, h2, h3, h4⟩, by omega, .inr ⟨rfl, rfl, hw⟩⟩
 ·
  exact (passA_any h C hT hb hw).mono fun _ _ ⟨k1, q', r', s', k2, k3, k4⟩ => ⟨k1, q', r', s', k2, k3, .inl k4⟩
theorem turnB (h : InD x y acc base w0 g D q r s w) (C : Cook x y acc D) (hT : Sk.Tabs w0) (hb : 2 ≤ base) :
  Calls Tryz.prog 16 #[ptrV g, .int .i64 1] w fun e w' => e = .returned (.tuple #[]) ∧ ∃ q' r' s', InD x y acc base w0 g D q' r' s' w' ∧ q ≤ q' + 1 ∧ (r' < r ∨ (r' = r ∧ s' = s ∧ s.wb = [])) := by
 by_cases hw : s.wb = []
 ·
  obtain ⟨P, h1, h2, h3, h4⟩ := h
  subst h1
  exact (pass_noneb h2 hw).mono fun _ _ ⟨k1, k2⟩ => ⟨k1, q, r, s, by rw [k2]; exact ⟨P, rfl, h2, h3, h4⟩, by omega, .inr ⟨rfl, rfl, hw⟩⟩
 ·
  exact (passB_any h C hT hb hw).mono fun _ _ ⟨k1, q', r', s', k2, k3, k4⟩ => ⟨k1, q', r', s', k2, k3, .inl k4⟩
def AtR (x y : ByteArray) (acc : Bool) (base : Nat) (w0 : World) (g D : Nat) (w : World) (r : Nat) : Prop := ∃ q s, InD x y acc base w0 g D q r s w
theorem AtR.low (h : AtR x y acc base w0 g D w r) : r ≤ 6 := by
 obtain ⟨q, s, P, -, -, h, -⟩ := h
 exact (ph_low h).2
set_option maxRecDepth 100000 in
set_option maxHeartbeats 8000000 in
theorem drain_any (h : InD x y acc base w0 g D q r s w) (C : Cook x y acc D) (hT : Sk.Tabs w0) (hb : 2 ≤ base) :
  Calls Tryz.prog 17 #[ptrV g] w fun e w' => e = .returned (.tuple #[]) ∧ AtR x y acc base w0 g D w' 0 := by
 have H0 : Hid (∃ r, AtR x y acc base w0 g D w r) := Lib.hid ⟨r, q, s, h⟩
 have HC := Lib.hid C
 have HT := Lib.hid hT
 have HB := Lib.hid hb
 have w00 : IntKind.i64.wrap 0 = 0 := by kernel_rfl
 clear h C hT hb
 unfold ptrV
 go_enter Tryz.func17, Tryz.ntmps17
 go_wp2_with fail
 go_loopw [] (fun wr => Hid (∃ r, AtR x y acc base w0 g D wr r)) (fun wr => @rk (AtR x y acc base w0 g D wr) (fun _ => Classical.propDecidable _))
 case atStart => exact H0
 case round =>
  obtain ⟨r1, h1⟩ := hrel.out
  obtain ⟨q1, s1, h2⟩ := @rk_is _ (fun _ => Classical.propDecidable _) r1 h1 h1.low
  obtain ⟨r2, hr2⟩ : ∃ k, k = @rk (AtR x y acc base w0 g D wr) (fun _ => Classical.propDecidable _) := ⟨_, rfl⟩
  rw [← hr2] at h2
  have HRK := Lib.hid hr2
  have HD := Lib.hid (fun k => h2.below (below_drewN (Below.refl _ _) k))
  obtain ⟨P1, hg1, hP1, hph1, hB1⟩ := h2
  obtain ⟨va, ca, hva, -, -⟩ := hP1.qa.form
  obtain ⟨vb, cb, hvb, -, -⟩ := hP1.qb.form
  have c16 : wr.cell? ⟨g, 16, none⟩ = some (.bool true) := blk_at hP1.blk 16 hg1 rfl rfl
  have c2 := hP1.cwa hg1 hva
  have c3 := hP1.cwb hg1 hvb
  have ok := ph_ok hph1 HC.out.d HC.out.x HC.out.y
  have HZ := Lib.hid (show s1.wa.length + s1.wb.length = 0 → r2 = 0 from fun e => (ph_rank hph1).2 (List.eq_nil_of_length_eq_zero (by omega)) (List.eq_nil_of_length_eq_zero (by omega)))
  have HLA := Lib.hid ok.la
  have HLB := Lib.hid ok.lb
  obtain ⟨la, hla⟩ : ∃ n, n = s1.wa.length := ⟨_, rfl⟩
  obtain ⟨lb, hlb⟩ : ∃ n, n = s1.wb.length := ⟨_, rfl⟩
  rw [← hla] at c2 HLA HZ
  rw [← hlb] at c3 HLB HZ
  have HLL := Lib.hid (show la + lb ≠ 0 → ¬ (s1.wa = [] ∧ s1.wb = []) from fun h ⟨e1, e2⟩ => h (by rw [hla, hlb, e1, e2]; rfl))
  clear hla hlb ok hph1 hB1 hva hvb hP1 hg1 h1 hr2
  by_cases hz : la + lb = 0
  ·
   obtain rfl : la = 0 := by omega
   obtain rfl : lb = 0 := by omega
   have hr0 := HZ.out hz
   subst hr0
   clear hz
   go_upto_region 0 with fail
   go_quiet (fail)
   go_wp2_with fail
   go_end0
   exact ⟨rfl, q1, s1, HD.out _⟩
  ·
   have hsum : IntKind.i64.wrap ((la : Int) + (lb : Int)) = (la : Int) + (lb : Int) := by
    have := HLA.out
    have := HLB.out
    rw [IntKind.wrap_i64] <;> omega
   have hpos : (0 : Int) < (la : Int) + (lb : Int) := by omega
   have HNZ := Lib.hid (HLL.out hz)
   clear hz HLL HZ
   go_upto_region 0 with fail
   go_quiet (fail)
   have HI := Lib.hid (HD.out nq)
   clear c16 c2 c3 hsum hpos HD HLA HLB
   generalize wr.drewN nq = w2 at *
   have CA := Lib.hid (turnA HI.out HC.out HT.out HB.out)
   unfold ptrV at CA
   go_wp2_with fail
   refine CA.out.mono ?_
   rintro e w3 ⟨rfl, q3, r3, s3, h3, -, h4⟩
   have H3 := Lib.hid h3
   have H4 := Lib.hid h4
   clear h3 h4 CA HI
   have CB := Lib.hid (turnB H3.out HC.out HT.out HB.out)
   unfold ptrV at CB
   go_wp2_with fail
   refine CB.out.mono ?_
   rintro e w4 ⟨rfl, q5, r5, s5, h5, -, h6⟩
   have H5 := Lib.hid h5
   have HR5 : Hid (r5 < r2) := Lib.hid (by
    rcases H4.out with a | ⟨a, b, c⟩ <;> rcases h6 with d | ⟨d, e, f⟩
    ·
     omega
    ·
     omega
    ·
     omega
    ·
     subst b
     exact absurd ⟨c, f⟩ HNZ.out)
   clear h5 h6 CB H3 H4
   go_wp2_with fail
   go_roundw
   case rel => exact Lib.hid ⟨r5, q5, s5, H5.out⟩
   case measure =>
    have h7 : AtR x y acc base w0 g D w4 r5 := ⟨q5, s5, H5.out⟩
    have h8 := @rk_le _ (fun _ => Classical.propDecidable _) r5 h7 h7.low
    have h9 := HR5.out
    have h10 := HRK.out
    omega
end
section
variable {x y : ByteArray} {acc : Bool} {base : Nat} {w0 : World} {g D q r : Nat} {s : Ds} {w : World} {P : Pb} {n : Nu}
def diaA (s : Ds) : Ds := { s with na := (dialN s.na exB).1 }
def diaB (s : Ds) : Ds := { s with nb := (dialN s.nb exA).1 }
theorem dialA_c (hP : PwAt w base s n P) (ok : DsOk s) : Calls Tryz.prog 10 #[ptrV P.a.g, .string exB] w fun e w' => e = .returned (.int .i64 (dialN s.na exB).2) ∧ Col w base (diaA s) n P w' ∧ w'.cell? ⟨P.g, 0, none⟩ = some (.pointer (some ⟨P.a.g, 0, none⟩)) :=
 (dial_any hP.na ok.a.nd ok.a.di exB (by rw [ok.a.o]; simp)).mono fun _ _ ⟨h1, a', h2, h3⟩ => ⟨h1, ⟨{ P with a := a' }, rfl, hP.setA h2 h3, Trail.kept hP.na h3⟩, by rw [← h3.g]; exact (hP.setA h2 h3).cpa rfl⟩
theorem dialB_c (hP : PwAt w base s n P) (ok : DsOk s) : Calls Tryz.prog 10 #[ptrV P.b.g, .string exA] w fun e w' => e = .returned (.int .i64 (dialN s.nb exA).2) ∧ Col w base (diaB s) n P w' ∧ w'.cell? ⟨P.g, 1, none⟩ = some (.pointer (some ⟨P.b.g, 0, none⟩)) :=
 (dial_any hP.nb ok.b.nd ok.b.di exA (by rw [ok.b.o]; simp)).mono fun _ _ ⟨h1, a', h2, h3⟩ => ⟨h1, ⟨{ P with b := a' }, rfl, hP.setB h2 h3, Trail.kept hP.nb h3⟩, by rw [← h3.g]; exact (hP.setB h2 h3).cpb rfl⟩
theorem diaA_out (h : Ph x y acc D q r s) : (outQ (diaA s).na exB).length ≤ 1 ∧ (outQ (diaA s).nb exA).length ≤ 1 := by
 have hd := ph_drop h
 refine ⟨?_, by show (outQ s.nb exA).length ≤ 1; rw [hd.2.2.2]; simp⟩
 rcases ph_dialA h with ⟨n', h1, -, h3, -⟩ | ⟨h1, -⟩
 ·
  show (outQ (dialN s.na exB).1 exB).length ≤ 1
  rw [h1]
  exact h3
 ·
  show (outQ (dialN s.na exB).1 exB).length ≤ 1
  rw [h1, hd.2.1]
  simp
theorem diaB_out (h : Ph x y acc D q r s) : (outQ (diaB s).na exB).length ≤ 1 ∧ (outQ (diaB s).nb exA).length ≤ 1 := by
 have hd := ph_drop h
 refine ⟨by show (outQ s.na exB).length ≤ 1; rw [hd.2.1]; simp, ?_⟩
 rcases ph_dialB h with ⟨n', h1, -, h3, -⟩ | h1
 ·
  show (outQ (dialN s.nb exA).1 exA).length ≤ 1
  rw [h1]
  exact h3
 ·
  show (outQ (dialN s.nb exA).1 exA).length ≤ 1
  rw [h1, hd.2.2.2]
  simp
theorem ph_up (h : Ph x y acc D q r s) (hu : s.ua = true) : 0 < D := by
 cases h <;> first | (cases hu; done) | omega
theorem colA_in (h : Ph x y acc D q r s) (hC : ∃ P, P.g = g ∧ PwAt w base (colS (diaA s)) (nuD s.ua s.ub) P) (hB : Below base w0 w) :
  ∃ D' q' r' s', InD x y acc base w0 g D' q' r' s' w ∧ D' ≤ D + 1 ∧ 4 * D' + q ≤ 4 * D + q' + 1 ∧ (r = 0 → 0 < D') := by
 have hd := ph_drop h
 obtain ⟨P, hg, hP⟩ := hC
 rcases ph_dialA h with ⟨n', h1, h2, h3, q', r', h4, h5⟩ | ⟨h1, h2⟩
 ·
  refine ⟨D + 1, q', r', _, ⟨P, hg, ?_, h4, hB⟩, Nat.le_refl _, by omega, fun _ => by omega⟩
  have e : colS (diaA s) = ⟨dropO n' exB, s.nb, s.wa, s.wb ++ outQ n' exB, s.ua, s.ub⟩ := by
   show (⟨dropO (dialN s.na exB).1 exB, dropO s.nb exA, s.wa ++ outQ s.nb exA, s.wb ++ outQ (dialN s.na exB).1 exB, s.ua, s.ub⟩ : Ds) = _
   rw [h1, hd.2.2.1, hd.2.2.2, List.append_nil]
  rw [e] at hP
  exact hP
 ·
  refine ⟨D, q, r, s, ⟨P, hg, ?_, h, hB⟩, by omega, by omega, fun e => ph_up h (h2 e)⟩
  have e : colS (diaA s) = s := by
   show (⟨dropO (dialN s.na exB).1 exB, dropO s.nb exA, s.wa ++ outQ s.nb exA, s.wb ++ outQ (dialN s.na exB).1 exB, s.ua, s.ub⟩ : Ds) = _
   rw [h1]
   show (⟨dropO s.na exB, dropO s.nb exA, s.wa ++ outQ s.nb exA, s.wb ++ outQ s.na exB, s.ua, s.ub⟩ : Ds) = _
   rw [hd.1, hd.2.1, hd.2.2.1, hd.2.2.2, List.append_nil, List.append_nil]
  rw [e] at hP
  exact hP
theorem colB_in (h : Ph x y acc D q r s) (hC : ∃ P, P.g = g ∧ PwAt w base (colS (diaB s)) (nuD s.ua s.ub) P) (hB : Below base w0 w) :
  ∃ D' q' r' s', InD x y acc base w0 g D' q' r' s' w ∧ D ≤ D' ∧ D' ≤ D + 1 ∧ 4 * D' + q ≤ 4 * D + q' + 1 := by
 have hd := ph_drop h
 obtain ⟨P, hg, hP⟩ := hC
 rcases ph_dialB h with ⟨n', h1, h2, h3, q', r', h4, h5⟩ | h1
 ·
  refine ⟨D + 1, q', r', _, ⟨P, hg, ?_, h4, hB⟩, by omega, Nat.le_refl _, by omega⟩
  have e : colS (diaB s) = ⟨s.na, dropO n' exA, s.wa ++ outQ n' exA, s.wb, s.ua, s.ub⟩ := by
   show (⟨dropO s.na exB, dropO (dialN s.nb exA).1 exA, s.wa ++ outQ (dialN s.nb exA).1 exA, s.wb ++ outQ s.na exB, s.ua, s.ub⟩ : Ds) = _
   rw [h1, hd.1, hd.2.1, List.append_nil]
  rw [e] at hP
  exact hP
 ·
  refine ⟨D, q, r, s, ⟨P, hg, ?_, h, hB⟩, by omega, by omega, by omega⟩
  have e : colS (diaB s) = s := by
   show (⟨dropO s.na exB, dropO (dialN s.nb exA).1 exA, s.wa ++ outQ (dialN s.nb exA).1 exA, s.wb ++ outQ s.na exB, s.ua, s.ub⟩ : Ds) = _
   rw [h1]
   show (⟨dropO s.na exB, dropO s.nb exA, s.wa ++ outQ s.nb exA, s.wb ++ outQ s.na exB, s.ua, s.ub⟩ : Ds) = _
   rw [hd.1, hd.2.1, hd.2.2.1, hd.2.2.2, List.append_nil, List.append_nil]
  rw [e] at hP
  exact hP
theorem dialA_ret (h : Ph x y acc D q 0 s) : (dialN s.na exB).2 = 0 ∨ ((dialN s.na exB).2 = 8 ∧ s.ua = true) := by
 rcases ph_dialA h with ⟨n', h1, -⟩ | ⟨h1, h2⟩
 ·
  exact .inl (by rw [h1])
 ·
  exact .inr ⟨by rw [h1], h2 rfl⟩
theorem dialB_ret (h : Ph x y acc D q r s) : (dialN s.nb exA).2 = 0 ∨ (dialN s.nb exA).2 = 8 := by
 rcases ph_dialB h with ⟨n', h1, -⟩ | h1
 ·
  exact .inl (by rw [h1])
 ·
  exact .inr (by rw [h1])
end
end Go.Proofs.YtoaimoemaoinhaaGreatDoor
namespace Go.Proofs
open Go.Shelf
def Tryz.keysA_ren : Go.Shelf.Ren := ⟨fun | 7 => 38 | 10 => 72 | n => n, fun | 23 => 54 | 26 => 9 | 3 => 86 | 28 => 101 | 0 => 0 | 27 => 100 | 33 => 85 | 4 => 4 | n => n, fun | n => n⟩
theorem Tryz.keysA : Go.Proofs.SlLaysZ.n7 Tryz.prog Tryz.keysA_ren := {
 mixed := by kernel_rfl
 f7 := ⟨Tryz.f38.name, by decide, Tryz.func38.trans (congrArg some (by kernel_rfl))⟩
 f10 := ⟨Tryz.f72.name, by decide, Tryz.func72.trans (congrArg some (by kernel_rfl))⟩
 t0 := Tryz.underlying0
 a0 := Tryz.isAgg0
 z0 := Tryz.sizeOf0
 v0 := Tryz.zeroValue0
 t4 := Tryz.underlying4
 a4 := Tryz.isAgg4
 z4 := Tryz.sizeOf4
 v4 := Tryz.zeroValue4
 t23 := Tryz.underlying54
 a23 := Tryz.isAgg54
 z23 := Tryz.sizeOf54
 v23 := Tryz.zeroValue54
 t26 := Tryz.underlying9
 a26 := Tryz.isAgg9
 z26 := Tryz.sizeOf9
 v26 := Tryz.zeroValue9
 t27 := Tryz.underlying100
 a27 := Tryz.isAgg100
 z27 := Tryz.sizeOf100
 v27 := Tryz.zeroValue100
 t28 := Tryz.underlying101
 a28 := Tryz.isAgg101
 z28 := Tryz.sizeOf101
 v28 := Tryz.zeroValue101
 t33 := Tryz.underlying85
 a33 := Tryz.isAgg85
 z33 := Tryz.sizeOf85
 v33 := Tryz.zeroValue85 }
def Tryz.sortedA_ren : Go.Shelf.Ren := ⟨fun | 6 => 37 | 8 => 70 | 9 => 71 | 11 => 128 | 13 => 130 | 12 => 129 | 23 => 172 | 24 => 173 | 14 => 163 | 15 => 164 | 16 => 165 | 17 => 166 | 18 => 167 | 19 => 168 | 20 => 169 | 21 => 170 | 22 => 171 | 25 => 194 | 26 => 195 | 27 => 196 | 28 => 197 | 29 => 198 | 30 => 199 | 31 => 221 | n => n, fun | 26 => 9 | 28 => 101 | 24 => 28 | 0 => 0 | 3 => 3 | 37 => 146 | 48 => 240 | 50 => 53 | 4 => 4 | 40 => 246 | 39 => 245 | 45 => 251 | 5 => 5 | 9 => 9 | 51 => 263 | 55 => 266 | 57 => 294 | 58 => 295 | 33 => 85 | n => n, fun | n => n⟩
theorem Tryz.sortedA : Go.Proofs.SlLaysZ.n6 Tryz.prog Tryz.sortedA_ren := {
 mixed := by kernel_rfl
 f6 := ⟨Tryz.f37.name, by decide, Tryz.func37.trans (congrArg some (by kernel_rfl))⟩
 f8 := ⟨Tryz.f70.name, by decide, Tryz.func70.trans (congrArg some (by kernel_rfl))⟩
 f11 := ⟨Tryz.f128.name, by decide, Tryz.func128.trans (congrArg some (by kernel_rfl))⟩
 t0 := Tryz.underlying0
 a0 := Tryz.isAgg0
 z0 := Tryz.sizeOf0
 v0 := Tryz.zeroValue0
 t24 := Tryz.underlying28
 a24 := Tryz.isAgg28
 z24 := Tryz.sizeOf28
 v24 := Tryz.zeroValue28
 t26 := Tryz.underlying9
 a26 := Tryz.isAgg9
 z26 := Tryz.sizeOf9
 v26 := Tryz.zeroValue9
 t28 := Tryz.underlying101
 a28 := Tryz.isAgg101
 z28 := Tryz.sizeOf101
 v28 := Tryz.zeroValue101
 i26 := by kernel_rfl }
def Tryz.sortA_ren : Go.Shelf.Ren := ⟨fun | 6 => 71 | 8 => 130 | 9 => 129 | 19 => 172 | 20 => 173 | 21 => 163 | 22 => 164 | 23 => 165 | 24 => 166 | 25 => 167 | 26 => 168 | 27 => 169 | 28 => 170 | 29 => 171 | 36 => 194 | 31 => 195 | 32 => 196 | 37 => 197 | 38 => 198 | 39 => 199 | 41 => 221 | n => n, fun | 27 => 28 | 29 => 9 | 3 => 3 | 32 => 146 | 26 => 28 | 0 => 0 | 44 => 240 | 46 => 53 | 4 => 4 | 36 => 246 | 35 => 245 | 41 => 251 | 5 => 5 | 9 => 9 | 53 => 263 | 57 => 266 | 63 => 294 | 64 => 295 | n => n, fun | n => n⟩
theorem Tryz.sortA : Go.Proofs.SlLaysM.n6 Tryz.prog Tryz.sortA_ren := {
 mixed := by kernel_rfl
 f6 := ⟨Tryz.f71.name, by decide, Tryz.func71.trans (congrArg some (by kernel_rfl))⟩
 f8 := Tryz.func130.trans (congrArg some (by kernel_rfl))
 f9 := ⟨Tryz.f129.name, by decide, Tryz.func129.trans (congrArg some (by kernel_rfl))⟩
 f19 := Tryz.func172.trans (congrArg some (by kernel_rfl))
 f20 := Tryz.func173.trans (congrArg some (by kernel_rfl))
 f21 := ⟨Tryz.f163.name, by decide, Tryz.func163.trans (congrArg some (by kernel_rfl))⟩
 f22 := ⟨Tryz.f164.name, by decide, Tryz.func164.trans (congrArg some (by kernel_rfl))⟩
 f23 := ⟨Tryz.f165.name, by decide, Tryz.func165.trans (congrArg some (by kernel_rfl))⟩
 f24 := ⟨Tryz.f166.name, by decide, Tryz.func166.trans (congrArg some (by kernel_rfl))⟩
 f25 := ⟨Tryz.f167.name, by decide, Tryz.func167.trans (congrArg some (by kernel_rfl))⟩
 f26 := ⟨Tryz.f168.name, by decide, Tryz.func168.trans (congrArg some (by kernel_rfl))⟩
 f27 := ⟨Tryz.f169.name, by decide, Tryz.func169.trans (congrArg some (by kernel_rfl))⟩
 f28 := ⟨Tryz.f170.name, by decide, Tryz.func170.trans (congrArg some (by kernel_rfl))⟩
 f29 := ⟨Tryz.f171.name, by decide, Tryz.func171.trans (congrArg some (by kernel_rfl))⟩
 f31 := Tryz.func195.trans (congrArg some (by kernel_rfl))
 f32 := Tryz.func196.trans (congrArg some (by kernel_rfl))
 f36 := ⟨Tryz.f194.name, by decide, Tryz.func194.trans (congrArg some (by kernel_rfl))⟩
 f37 := ⟨Tryz.f197.name, by decide, Tryz.func197.trans (congrArg some (by kernel_rfl))⟩
 f38 := ⟨Tryz.f198.name, by decide, Tryz.func198.trans (congrArg some (by kernel_rfl))⟩
 f39 := ⟨Tryz.f199.name, by decide, Tryz.func199.trans (congrArg some (by kernel_rfl))⟩
 f41 := ⟨Tryz.f221.name, by decide, Tryz.func221.trans (congrArg some (by kernel_rfl))⟩
 t0 := Tryz.underlying0
 a0 := Tryz.isAgg0
 z0 := Tryz.sizeOf0
 v0 := Tryz.zeroValue0
 t3 := Tryz.underlying3
 a3 := Tryz.isAgg3
 z3 := Tryz.sizeOf3
 v3 := Tryz.zeroValue3
 t4 := Tryz.underlying4
 a4 := Tryz.isAgg4
 z4 := Tryz.sizeOf4
 v4 := Tryz.zeroValue4
 t5 := Tryz.underlying5
 a5 := Tryz.isAgg5
 z5 := Tryz.sizeOf5
 v5 := Tryz.zeroValue5
 t9 := Tryz.underlying9
 a9 := Tryz.isAgg9
 z9 := Tryz.sizeOf9
 v9 := Tryz.zeroValue9
 t26 := Tryz.underlying28
 a26 := Tryz.isAgg28
 z26 := Tryz.sizeOf28
 v26 := Tryz.zeroValue28
 t27 := Tryz.underlying28
 a27 := Tryz.isAgg28
 z27 := Tryz.sizeOf28
 v27 := Tryz.zeroValue28
 t29 := Tryz.underlying9
 a29 := Tryz.isAgg9
 z29 := Tryz.sizeOf9
 v29 := Tryz.zeroValue9
 t32 := Tryz.underlying146
 a32 := Tryz.isAgg146
 z32 := Tryz.sizeOf146
 v32 := Tryz.zeroValue146
 t35 := Tryz.underlying245
 a35 := Tryz.isAgg245
 z35 := Tryz.sizeOf245
 v35 := Tryz.zeroValue245
 t36 := Tryz.underlying246
 a36 := Tryz.isAgg246
 z36 := Tryz.sizeOf246
 v36 := Tryz.zeroValue246
 t41 := Tryz.underlying251
 a41 := Tryz.isAgg251
 z41 := Tryz.sizeOf251
 v41 := Tryz.zeroValue251
 t44 := Tryz.underlying240
 a44 := Tryz.isAgg240
 z44 := Tryz.sizeOf240
 v44 := Tryz.zeroValue240
 t46 := Tryz.underlying53
 a46 := Tryz.isAgg53
 z46 := Tryz.sizeOf53
 v46 := Tryz.zeroValue53
 t53 := Tryz.underlying263
 a53 := Tryz.isAgg263
 z53 := Tryz.sizeOf263
 v53 := Tryz.zeroValue263
 t57 := Tryz.underlying266
 a57 := Tryz.isAgg266
 z57 := Tryz.sizeOf266
 v57 := Tryz.zeroValue266
 t63 := Tryz.underlying294
 a63 := Tryz.isAgg294
 z63 := Tryz.sizeOf294
 v63 := Tryz.zeroValue294
 t64 := Tryz.underlying295
 a64 := Tryz.isAgg295
 z64 := Tryz.sizeOf295
 v64 := Tryz.zeroValue295 }
end Go.Proofs
