/- PeersX: a part of the proof. No condition beyond the premises of each theorem. -/
import Derived.Test.YtoaimoemaoinhaaGreatDoorQd37
import Derived.Test.YtoaimoemaoinhaaGreatDoorQd38
import Derived.Test.YtoaimoemaoinhaaGreatDoorQd01
import Derived.Test.YtoaimoemaoinhaaGreatDoorRows
import Derived.Carry
import Derived.ProofKit
import Derived.LaidMore
import Derived.OpenShut
import Derived.ShutString
import Derived.Stop.Joined
import Derived.Test.YtoaimoemaoinhaaGreatDoorQd15
import Derived.Below
import Derived.Test.YtoaimoemaoinhaaGreatDoorQd11
namespace Go.Proofs.YtoaimoemaoinhaaGreatDoor
open Go.RowKit Go.Rt Go.Rw Go.Mp
theorem cell_to {w : World} {g g' i : Nat} {v : Value} (e : g = g') (h : w.cell? ⟨g, i, none⟩ = some v) : w.cell? ⟨g', i, none⟩ = some v := by rw [← e]; exact h
theorem sint_at {w W : World} {v : Value} {L : List Int} (h : SlAt w 1 intC v L) (b : Below w.heap.size w W) : ∀ k, (hk : k < L.length) → ∃ g o cap, v = .slice (some ⟨g, o, none⟩) L.length cap ∧ g < w.heap.size ∧ W.cell? ⟨g, o + k, none⟩ = some (.int .i64 L[k]) := by
 intro k hk
 rcases h with ⟨rfl, _⟩ | ⟨g, o, cap, rfl, _, hg, hc⟩
 ·
  simp at hk
 ·
  refine ⟨g, o, cap, rfl, hg, ?_⟩
  have := hc k 0 hk (by omega)
  rw [Nat.mul_one, Nat.add_zero] at this
  rw [b.cell hg, this]
  rfl
theorem cook28 (D : Nat) (h : D ≤ 28) : Cook Sk.ckX Sk.ckX true D ∧ Cook Sk.ckX Sk.ckY false D :=
 ⟨⟨by omega, fun _ => rfl, fun h => (by cases h), by decide, by decide⟩, ⟨by omega, fun h => (by cases h), fun _ => rej28.mono h, by decide, by decide⟩⟩
set_option maxRecDepth 100000 in
set_option maxHeartbeats 16000000 in
theorem dial_walk (L : List Int) (v : Value) (sm : Bool) (w : World) (hv : SlAt w 1 intC v L) (hL : ∀ x ∈ L, I64 x) (hT : Sk.Tabs w) (hb : 2 ≤ w.heap.size) : Calls Tryz.prog 4 #[v, .bool sm] w fun e w' => e = .returned (.bool true) ∧ Below w.heap.size w w' := by
 obtain ⟨hlen, sa, cap, rfl⟩ := hv.len
 have HV := Lib.hid hv
 have HL := Lib.hid hL
 have HT := Lib.hid hT
 have HB := Lib.hid hb
 have hix0 := name_at false
 have hix1 := name_at true
 simp only [if_true, if_false, Bool.false_eq_true] at hix0 hix1
 have e1 : IntKind.i64.wrap 1 = 1 := by kernel_rfl
 have e0 : IntKind.i64.wrap 0 = 0 := by kernel_rfl
 clear hv hL hT hb
 go_enter Tryz.func4, Tryz.ntmps4
 go_wp2_with fail
 refine (shown6 w).mono ?_
 rintro e w1 ⟨rfl, b1⟩
 have BW1 := Lib.hid b1
 have HTT := Lib.hid (HT.out.below b1 HT.out.two)
 have HBB0 := Lib.hid (show 2 ≤ w1.heap.size from Nat.le_trans HB.out b1.size)
 clear b1
 by_cases hbig : 100 < L.length
 ·
  have hbi : (100 : Int) < (L.length : Int) := by omega
  go_wp2_with fail
  go_ret
  exact ⟨rfl, BW1.out⟩
 ·
  have hbi : ¬ ((100 : Int) < (L.length : Int)) := by omega
  have HLEN := Lib.hid (show L.length ≤ 100 by omega)
  clear hbig
  obtain ⟨y, hy⟩ : ∃ y, y = if sm then Sk.ckX else Sk.ckY := ⟨_, rfl⟩
  have CM : Hid (Calls Tryz.prog 8 #[.string ⟨#[120]⟩, .string y] w1 fun e w' => ∃ P : Pb, e = .returned (ptrV P.g) ∧ PwAt w' w1.heap.size ⟨NA Sk.ckX 7 0 none false, NB y 70 0 none false, [], [], false, false⟩ (nuD false false) P ∧ Below w1.heap.size w1 w') := Lib.hid (made_any Sk.ckX y w1)
  have HCK0 : Hid (∀ D, D ≤ 28 → Cook Sk.ckX y sm D) := Lib.hid (fun D h => by cases sm <;> subst hy <;> first | exact (cook28 D h).1 | exact (cook28 D h).2)
  have HY := Lib.hid hy
  obtain ⟨base, hbase⟩ : ∃ b, b = w1.heap.size := ⟨_, rfl⟩
  have HBB : Hid (2 ≤ base) := Lib.hid (by rw [hbase]; exact HBB0.out)
  rw [← hbase] at CM
  have HBS := Lib.hid hbase
  clear hy hbase HBB0
  go_upto_if 16 with fail
  go_cut [5] (fun s5 wc => s5 = .string y ∧ wc = w1)
  case first =>
   cases sm
   ·
    obtain rfl : y = Sk.ckY := HY.out
    go_wp2_with fail
    go_meet
    case rel => exact ⟨rfl, rfl⟩
   ·
    obtain rfl : y = Sk.ckX := HY.out
    go_wp2_with fail
    go_meet
    case rel => exact ⟨rfl, rfl⟩
  case rest =>
   obtain ⟨rfl, rfl⟩ := hcut
   clear HY
   unfold ptrV at CM
   go_wp2_with fail
   refine CM.out.mono ?_
   rintro e w2 ⟨P0, rfl, hP0, b2⟩
   obtain ⟨g, hg⟩ : ∃ g, g = P0.g := ⟨_, rfl⟩
   have H0 : Hid (InD Sk.ckX y sm base wc g 0 0 0 ⟨NA Sk.ckX 7 0 none false, NB y 70 0 none false, [], [], false, false⟩ w2) := Lib.hid ⟨P0, hg.symm, hP0, ph_start _ _ _, b2⟩
   rw [← hg]
   clear hg hP0 b2 CM
   go_wp2_with fail
   go_loopw [7] (fun i wr => ∃ k : Nat, k ≤ L.length ∧ i = .int .i64 k ∧ Hid (∃ D q r s, InD Sk.ckX y sm base wc g D q r s wr ∧ 4 * D ≤ k + q)) (fun i _ => L.length - (intOf i).toNat)
   case atStart => exact ⟨0, by omega, rfl, Lib.hid ⟨0, 0, 0, _, H0.out, by omega⟩⟩
   case round =>
    obtain ⟨k, hk, rfl, hr⟩ := hrel
    obtain ⟨D, q, r, s, hI, hq⟩ := hr.out
    have hD : D ≤ 26 := by
     obtain ⟨-, -, -, hp, -⟩ := hI
     have := (ph_low hp).1
     have := HLEN.out
     omega
    have HCK := Lib.hid (HCK0.out D (by omega))
    have HD := Lib.hid hD
    have HI := Lib.hid hI
    have HQ := Lib.hid hq
    have c16 : wr.cell? ⟨g, 16, none⟩ = some (.bool true) := by
     obtain ⟨P1, hg1, hP1, -, -⟩ := hI
     exact blk_at hP1.blk 16 hg1 rfl rfl
    clear hI hq hD H0 hr
    by_cases hlt : k < L.length
    ·
     have HLT := Lib.hid (show k + 1 ≤ L.length from hlt)
     have hkl : (k : Int) < (L.length : Int) := by omega
     have hk0 : (0 : Int) ≤ (k : Int) := by omega
     obtain ⟨P9, -, hP9, -, hB9⟩ := HI.out
     obtain ⟨gs, os, caps, hsa, hgs, hcs⟩ := sint_at HV.out (BW1.out.trans (hB9.mono (by rw [HBS.out]; exact BW1.out.size))) k hlt
     cases hsa
     have CPK := Lib.hid (pick_any (L[k]'hlt) 6 (by omega) (by omega) (HL.out _ (List.getElem_mem hlt)))
     obtain ⟨xv, hxv⟩ : ∃ x, x = L[k]'hlt := ⟨_, rfl⟩
     have hrg := pickF_range (L[k]'hlt) 6 (by omega)
     rw [← hxv] at hcs CPK hrg
     have HRG := Lib.hid hrg
     clear hxv hrg hlt hP9 hB9
     go_wp2_with fail
     refine (CPK.out _).mono ?_
     rintro e w3 ⟨rfl, rfl⟩
     obtain ⟨pk, hpk⟩ : ∃ z, z = pickF xv 6 := ⟨_, rfl⟩
     rw [← hpk] at HRG ⊢
     have HPK : Hid (pk = 0 ∨ pk = 1 ∨ (pk = 2 ∨ pk = 4) ∨ (pk = 3 ∨ pk = 5)) := Lib.hid (by have := HRG.out; omega)
     clear hpk CPK HRG hcs
     rcases HPK.out with rfl | rfl | h24 | h35
     ·
      have h1 := HI.out
      obtain ⟨P1, hg1, hP1, hph1, hB1⟩ := h1
      have ok1 := ph_ok hph1 HCK.out.d HCK.out.x HCK.out.y
      have HP1 := Lib.hid hP1
      have HPH := Lib.hid hph1
      have HB1 := Lib.hid hB1
      have HG1 := Lib.hid hg1
      have HOK := Lib.hid ok1
      have c0 : w3.cell? ⟨g, 0, none⟩ = some (.pointer (some ⟨P1.a.g, 0, none⟩)) := hP1.cpa hg1
      clear hg1 hP1 hph1 hB1 ok1
      go_upto_region 14 with fail
      go_region_held3 (fun w' => w'.cell? ⟨g, 0, none⟩ = some (.pointer (some ⟨P1.a.g, 0, none⟩))) (first | exact c0 | exact m0)
       ((first
        | (go_at_call 11; refine (names_any _).mono ?_; rintro e w5 ⟨rfl, b5⟩; have H5 := Lib.hid ((HP1.out.below (Below.refl _ w3).drew).below b5); have B5 := Lib.hid ((HB1.out.trans (Below.refl base w3).drew).trans (b5.mono HP1.out.na.bz)); have m0 : w5.cell? ⟨g, 0, none⟩ = some (.pointer (some ⟨P1.a.g, 0, none⟩)) := H5.out.cpa HG1.out; clear b5)
        | (go_at_call 10; have CD := dialA_c H5.out HOK.out; unfold ptrV at CD; refine CD.mono ?_; rintro e w6 ⟨rfl, h6, h7⟩; have H6 := Lib.hid h6; have m0 : w6.cell? ⟨g, 0, none⟩ = some (.pointer (some ⟨P1.a.g, 0, none⟩)) := cell_to HG1.out h7; clear h6 h7 CD)))
      clear m0 c0
      obtain ⟨P6, hg6, hP6, hB6⟩ := H6.out
      have HG6 := Lib.hid (hg6.trans HG1.out)
      have H7 := Lib.hid hP6
      have B7 := Lib.hid (B5.out.trans hB6)
      clear hg6 hP6 hB6
      have CC := Lib.hid (collect_any H7.out (diaA_out HPH.out).1 (diaA_out HPH.out).2 (by have := HOK.out.la; show s.wa.length ≤ 1000; omega) (by have := HOK.out.lb; show s.wb.length ≤ 1000; omega))
      rw [HG6.out] at CC
      unfold ptrV at CC
      go_wp2_with fail
      refine CC.out.mono ?_
      rintro e w8 ⟨rfl, P8, hg8, hP8, hB8⟩
      have HN := Lib.hid (colA_in (g := g) (base := base) (w0 := wc) HPH.out ⟨P8, hg8.trans HG6.out, hP8⟩ (B7.out.trans hB8))
      clear CC hg8 hP8 hB8
      obtain ⟨D2, q2, r2, s2, h2, hdd, hqq, -⟩ := HN.out
      have HI2 := Lib.hid h2
      have HQ2 := Lib.hid (show 4 * D2 ≤ (k + 1) + q2 from by have := HQ.out; omega)
      clear h2 hdd hqq HN H7 B7 H6
      go_wp2_with fail
      go_roundw
      case rel => exact ⟨k + 1, HLT.out, by go_num, Lib.hid ⟨D2, q2, r2, s2, HI2.out, HQ2.out⟩⟩
      case measure => simp [intOf]; have := HLT.out; omega
     ·
      have h1 := HI.out
      obtain ⟨P1, hg1, hP1, hph1, hB1⟩ := h1
      have ok1 := ph_ok hph1 HCK.out.d HCK.out.x HCK.out.y
      have HP1 := Lib.hid hP1
      have HPH := Lib.hid hph1
      have HB1 := Lib.hid hB1
      have HG1 := Lib.hid hg1
      have HOK := Lib.hid ok1
      have c0 : w3.cell? ⟨g, 1, none⟩ = some (.pointer (some ⟨P1.b.g, 0, none⟩)) := hP1.cpb hg1
      clear hg1 hP1 hph1 hB1 ok1
      go_upto_region 14 with fail
      go_region_held3 (fun w' => w'.cell? ⟨g, 1, none⟩ = some (.pointer (some ⟨P1.b.g, 0, none⟩))) (first | exact c0 | exact m0)
       ((first
        | (go_at_call 11; refine (names_any _).mono ?_; rintro e w5 ⟨rfl, b5⟩; have H5 := Lib.hid ((HP1.out.below (Below.refl _ w3).drew).below b5); have B5 := Lib.hid ((HB1.out.trans (Below.refl base w3).drew).trans (b5.mono HP1.out.na.bz)); have m0 : w5.cell? ⟨g, 1, none⟩ = some (.pointer (some ⟨P1.b.g, 0, none⟩)) := H5.out.cpb HG1.out; clear b5)
        | (go_at_call 10; have CD := dialB_c H5.out HOK.out; unfold ptrV at CD; refine CD.mono ?_; rintro e w6 ⟨rfl, h6, h7⟩; have H6 := Lib.hid h6; have m0 : w6.cell? ⟨g, 1, none⟩ = some (.pointer (some ⟨P1.b.g, 0, none⟩)) := cell_to HG1.out h7; clear h6 h7 CD)))
      clear m0 c0
      obtain ⟨P6, hg6, hP6, hB6⟩ := H6.out
      have HG6 := Lib.hid (hg6.trans HG1.out)
      have H7 := Lib.hid hP6
      have B7 := Lib.hid (B5.out.trans hB6)
      clear hg6 hP6 hB6
      have CC := Lib.hid (collect_any H7.out (diaB_out HPH.out).1 (diaB_out HPH.out).2 (by have := HOK.out.la; show s.wa.length ≤ 1000; omega) (by have := HOK.out.lb; show s.wb.length ≤ 1000; omega))
      rw [HG6.out] at CC
      unfold ptrV at CC
      go_wp2_with fail
      refine CC.out.mono ?_
      rintro e w8 ⟨rfl, P8, hg8, hP8, hB8⟩
      have HN := Lib.hid (colB_in (g := g) (base := base) (w0 := wc) HPH.out ⟨P8, hg8.trans HG6.out, hP8⟩ (B7.out.trans hB8))
      clear CC hg8 hP8 hB8
      obtain ⟨D2, q2, r2, s2, h2, -, hdd, hqq⟩ := HN.out
      have HI2 := Lib.hid h2
      have HQ2 := Lib.hid (show 4 * D2 ≤ (k + 1) + q2 from by have := HQ.out; omega)
      clear h2 hdd hqq HN H7 B7 H6
      go_wp2_with fail
      go_roundw
      case rel => exact ⟨k + 1, HLT.out, by go_num, Lib.hid ⟨D2, q2, r2, s2, HI2.out, HQ2.out⟩⟩
      case measure => simp [intOf]; have := HLT.out; omega
     ·
      rcases h24 with rfl | rfl
      all_goals
       have CT := Lib.hid (turnA HI.out HCK.out HTT.out HBB.out)
       unfold ptrV at CT
       go_wp2_with fail
       refine CT.out.mono ?_
       rintro e w8 ⟨rfl, q2, r2, s2, h2, hqq, -⟩
       have HI2 := Lib.hid h2
       have HQ2 := Lib.hid (show 4 * D ≤ (k + 1) + q2 from by have := HQ.out; omega)
       clear h2 hqq CT
       go_wp2_with fail
       go_roundw
       case rel => exact ⟨k + 1, HLT.out, by go_num, Lib.hid ⟨D, q2, r2, s2, HI2.out, HQ2.out⟩⟩
       case measure => simp [intOf]; have := HLT.out; omega
     ·
      rcases h35 with rfl | rfl
      all_goals
       have CT := Lib.hid (turnB HI.out HCK.out HTT.out HBB.out)
       unfold ptrV at CT
       go_wp2_with fail
       refine CT.out.mono ?_
       rintro e w8 ⟨rfl, q2, r2, s2, h2, hqq, -⟩
       have HI2 := Lib.hid h2
       have HQ2 := Lib.hid (show 4 * D ≤ (k + 1) + q2 from by have := HQ.out; omega)
       clear h2 hqq CT
       go_wp2_with fail
       go_roundw
       case rel => exact ⟨k + 1, HLT.out, by go_num, Lib.hid ⟨D, q2, r2, s2, HI2.out, HQ2.out⟩⟩
       case measure => simp [intOf]; have := HLT.out; omega
    ·
     obtain rfl : k = L.length := by omega
     clear hlt
     have CDR := Lib.hid (drain_any HI.out HCK.out HTT.out HBB.out)
     unfold ptrV at CDR
     go_wp2_with fail
     refine CDR.out.mono ?_
     rintro e w3 ⟨rfl, h3⟩
     have HR3 := Lib.hid h3
     clear h3 CDR c16
     go_wp2_with fail
     go_loopw [9] (fun i wr => (i = .int .i64 0 ∧ Hid (AtR Sk.ckX y sm base wc g D wr 0)) ∨ (i = .int .i64 1 ∧ Hid (∃ D' q r s, InD Sk.ckX y sm base wc g D' q r s wr ∧ D' ≤ D + 1 ∧ 0 < D')) ∨ (i = .int .i64 2 ∧ Hid (∃ D' q r s, InD Sk.ckX y sm base wc g D' q r s wr ∧ D' ≤ D + 2 ∧ 0 < D'))) (fun i _ => 2 - (intOf i).toNat)
     case atStart => exact .inl ⟨rfl, HR3⟩
     case round =>
      clear HR3 HI HQ
      rcases hrel with ⟨rfl, hr⟩ | ⟨rfl, hr⟩ | ⟨rfl, hr⟩
      ·
       obtain ⟨q, s, h1⟩ := hr.out
       have c16 : wr.cell? ⟨g, 16, none⟩ = some (.bool true) := by
        obtain ⟨P1, hg1, hP1, -, -⟩ := h1
        exact blk_at hP1.blk 16 hg1 rfl rfl
       obtain ⟨P1, hg1, hP1, hph1, hB1⟩ := h1
       have ok1 := ph_ok hph1 HCK.out.d HCK.out.x HCK.out.y
       have HP1 := Lib.hid hP1
       have HPH := Lib.hid hph1
       have HB1 := Lib.hid hB1
       have HG1 := Lib.hid hg1
       have HOK := Lib.hid ok1
       have c0 : wr.cell? ⟨g, 0, none⟩ = some (.pointer (some ⟨P1.a.g, 0, none⟩)) := hP1.cpa hg1
       clear hg1 hP1 hph1 hB1 ok1
       go_upto_region 21 with fail
       clear c16
       go_region_held3 (fun w' => w'.cell? ⟨g, 0, none⟩ = some (.pointer (some ⟨P1.a.g, 0, none⟩))) (first | exact c0 | exact m0)
        ((first
         | (go_at_call 11; refine (names_any _).mono ?_; rintro e w5 ⟨rfl, b5⟩; have H5 := Lib.hid ((HP1.out.below (Below.refl _ wr).drew).below b5); have B5 := Lib.hid ((HB1.out.trans (Below.refl base wr).drew).trans (b5.mono HP1.out.na.bz)); have m0 : w5.cell? ⟨g, 0, none⟩ = some (.pointer (some ⟨P1.a.g, 0, none⟩)) := H5.out.cpa HG1.out; clear b5)
         | (go_at_call 10; have CD := dialA_c H5.out HOK.out; unfold ptrV at CD; refine CD.mono ?_; rintro e w6 ⟨rfl, h6, h7⟩; have H6 := Lib.hid h6; have m0 : w6.cell? ⟨g, 0, none⟩ = some (.pointer (some ⟨P1.a.g, 0, none⟩)) := cell_to HG1.out h7; clear h6 h7 CD)))
       clear m0 c0
       obtain ⟨P6, hg6, hP6, hB6⟩ := H6.out
       have HG6 := Lib.hid (hg6.trans HG1.out)
       have c4 : w6.cell? ⟨g, 4, none⟩ = some (.bool s.ua) := blk_at hP6.blk 4 HG6.out rfl rfl
       have f16 : w6.frozen? ⟨g, 16, none⟩ = false := by rw [← HG6.out]; exact hP6.blk.frozen 16
       have H7 : Hid (PwAt (w6.setCell ⟨g, 16, none⟩ (.bool true)) base (diaA s) (nuD s.ua s.ub) P6) := Lib.hid (by
        have := hP6.own (ua := s.ua) (ub := s.ub) (n' := nuD s.ua s.ub) (Only.setCell w6 ⟨P6.g, 16, none⟩ (.bool true) (by simp)) (hP6.blk.set_ 16 (.bool true))
        rw [HG6.out] at this
        exact this)
       have d16 : w6.cell? ⟨g, 16, none⟩ = some (.bool true) := blk_at hP6.blk 16 HG6.out rfl rfl
       have B7 := Lib.hid ((B5.out.trans hB6).setCell (p := ⟨g, 16, none⟩) (by rw [← HG6.out]; exact hP6.bg) (.bool true))
       have HRT := Lib.hid (dialA_ret HPH.out)
       clear hg6 hP6 hB6
       obtain ⟨rc, hrc⟩ : ∃ c, c = (dialN s.na exB).2 := ⟨_, rfl⟩
       rw [← hrc] at HRT ⊢
       clear hrc
       rcases HRT.out with rfl | ⟨rfl, hu⟩
       case' inr => rw [hu] at c4; clear hu
       all_goals
        go_upto_region 23 with fail
        clear c4 f16 d16
        generalize w6.setCell ⟨g, 16, none⟩ (.bool true) = w7 at *
        have CC := Lib.hid (collect_any H7.out (diaA_out HPH.out).1 (diaA_out HPH.out).2 (by have := HOK.out.la; show s.wa.length ≤ 1000; omega) (by have := HOK.out.lb; show s.wb.length ≤ 1000; omega))
        rw [HG6.out] at CC
        unfold ptrV at CC
        go_wp2_with fail
        refine CC.out.mono ?_
        rintro e w8 ⟨rfl, P8, hg8, hP8, hB8⟩
        have HN := Lib.hid (colA_in (g := g) (base := base) (w0 := wc) HPH.out ⟨P8, hg8.trans HG6.out, hP8⟩ (B7.out.trans hB8))
        clear CC hg8 hP8 hB8
        obtain ⟨D2, q2, r2, s2, h2, hdd, -, hrr⟩ := HN.out
        have HI2 := Lib.hid h2
        have HQ2 := Lib.hid (show D2 ≤ D + 1 ∧ 0 < D2 from ⟨hdd, hrr rfl⟩)
        clear h2 hdd hrr HN H7 B7 H6
        go_wp2_with fail
        go_roundw
        case rel => exact .inr (.inl ⟨rfl, Lib.hid ⟨D2, q2, r2, s2, HI2.out, HQ2.out.1, HQ2.out.2⟩⟩)
        case measure => simp [intOf]
      ·
       obtain ⟨D', q, r, s, h1, hD1, hD2⟩ := hr.out
       have HCK := Lib.hid (HCK0.out D' (by have := HD.out; omega))
       have HDD := Lib.hid (And.intro hD1 hD2)
       clear hD1 hD2
       have c16 : wr.cell? ⟨g, 16, none⟩ = some (.bool true) := by
        obtain ⟨P1, hg1, hP1, -, -⟩ := h1
        exact blk_at hP1.blk 16 hg1 rfl rfl
       obtain ⟨P1, hg1, hP1, hph1, hB1⟩ := h1
       have ok1 := ph_ok hph1 HCK.out.d HCK.out.x HCK.out.y
       have HP1 := Lib.hid hP1
       have HPH := Lib.hid hph1
       have HB1 := Lib.hid hB1
       have HG1 := Lib.hid hg1
       have HOK := Lib.hid ok1
       have c0 : wr.cell? ⟨g, 1, none⟩ = some (.pointer (some ⟨P1.b.g, 0, none⟩)) := hP1.cpb hg1
       clear hg1 hP1 hph1 hB1 ok1
       go_upto_region 21 with fail
       clear c16
       go_region_held3 (fun w' => w'.cell? ⟨g, 1, none⟩ = some (.pointer (some ⟨P1.b.g, 0, none⟩))) (first | exact c0 | exact m0)
        ((first
         | (go_at_call 11; refine (names_any _).mono ?_; rintro e w5 ⟨rfl, b5⟩; have H5 := Lib.hid ((HP1.out.below (Below.refl _ wr).drew).below b5); have B5 := Lib.hid ((HB1.out.trans (Below.refl base wr).drew).trans (b5.mono HP1.out.na.bz)); have m0 : w5.cell? ⟨g, 1, none⟩ = some (.pointer (some ⟨P1.b.g, 0, none⟩)) := H5.out.cpb HG1.out; clear b5)
         | (go_at_call 10; have CD := dialB_c H5.out HOK.out; unfold ptrV at CD; refine CD.mono ?_; rintro e w6 ⟨rfl, h6, h7⟩; have H6 := Lib.hid h6; have m0 : w6.cell? ⟨g, 1, none⟩ = some (.pointer (some ⟨P1.b.g, 0, none⟩)) := cell_to HG1.out h7; clear h6 h7 CD)))
       clear m0 c0
       obtain ⟨P6, hg6, hP6, hB6⟩ := H6.out
       have HG6 := Lib.hid (hg6.trans HG1.out)
       have c4 : w6.cell? ⟨g, 5, none⟩ = some (.bool s.ub) := blk_at hP6.blk 5 HG6.out rfl rfl
       have f16 : w6.frozen? ⟨g, 16, none⟩ = false := by rw [← HG6.out]; exact hP6.blk.frozen 16
       have H7 : Hid (PwAt (w6.setCell ⟨g, 16, none⟩ (.bool true)) base (diaB s) (nuD s.ua s.ub) P6) := Lib.hid (by
        have := hP6.own (ua := s.ua) (ub := s.ub) (n' := nuD s.ua s.ub) (Only.setCell w6 ⟨P6.g, 16, none⟩ (.bool true) (by simp)) (hP6.blk.set_ 16 (.bool true))
        rw [HG6.out] at this
        exact this)
       have d16 : w6.cell? ⟨g, 16, none⟩ = some (.bool true) := blk_at hP6.blk 16 HG6.out rfl rfl
       have B7 := Lib.hid ((B5.out.trans hB6).setCell (p := ⟨g, 16, none⟩) (by rw [← HG6.out]; exact hP6.bg) (.bool true))
       have HRT := Lib.hid (dialB_ret HPH.out)
       clear hg6 hP6 hB6
       obtain ⟨rc, hrc⟩ : ∃ c, c = (dialN s.nb exA).2 := ⟨_, rfl⟩
       rw [← hrc] at HRT ⊢
       clear hrc
       obtain ⟨ub, hub⟩ : ∃ u, u = s.ub := ⟨_, rfl⟩
       rw [← hub] at c4
       clear hub
       rcases HRT.out with rfl | rfl <;> cases ub
       all_goals
        go_upto_region 23 with fail
        clear c4 f16 d16
        generalize w6.setCell ⟨g, 16, none⟩ (.bool true) = w7 at *
        have CC := Lib.hid (collect_any H7.out (diaB_out HPH.out).1 (diaB_out HPH.out).2 (by have := HOK.out.la; show s.wa.length ≤ 1000; omega) (by have := HOK.out.lb; show s.wb.length ≤ 1000; omega))
        rw [HG6.out] at CC
        unfold ptrV at CC
        go_wp2_with fail
        refine CC.out.mono ?_
        rintro e w8 ⟨rfl, P8, hg8, hP8, hB8⟩
        have HN := Lib.hid (colB_in (g := g) (base := base) (w0 := wc) HPH.out ⟨P8, hg8.trans HG6.out, hP8⟩ (B7.out.trans hB8))
        clear CC hg8 hP8 hB8
        obtain ⟨D2, q2, r2, s2, h2, hdl, hdd, -⟩ := HN.out
        have HI2 := Lib.hid h2
        have HQ2 := Lib.hid (show D2 ≤ D + 2 ∧ 0 < D2 from by have := HDD.out; omega)
        clear h2 hdd hdl HN H7 B7 H6
        go_wp2_with fail
        go_roundw
        case rel => exact .inr (.inr ⟨rfl, Lib.hid ⟨D2, q2, r2, s2, HI2.out, HQ2.out.1, HQ2.out.2⟩⟩)
        case measure => simp [intOf]
      ·
       obtain ⟨D', q, r, s, h1, hD1, hD2⟩ := hr.out
       have HCK2 := Lib.hid (HCK0.out D' (by have := HD.out; omega))
       have HD2 := Lib.hid hD2
       have c16 : wr.cell? ⟨g, 16, none⟩ = some (.bool true) := by
        obtain ⟨P1, hg1, hP1, -, -⟩ := h1
        exact blk_at hP1.blk 16 hg1 rfl rfl
       have CDR := Lib.hid (drain_any h1 HCK2.out HTT.out HBB.out)
       clear h1 hD1 hD2 hr
       unfold ptrV at CDR
       go_wp2_with fail
       refine CDR.out.mono ?_
       rintro e w4 ⟨rfl, q4, s4, P, hg, hP, hph, hB⟩
       clear CDR c16 HCK HCK0
       cases sm
       ·
        have hpd := ph_down hph
        have hpr := ph_rej hph
        have HN0 := Lib.hid hpr.1
        have HN1 := Lib.hid hpr.2
        have c16 : w4.cell? ⟨g, 16, none⟩ = some (.bool true) := blk_at hP.blk 16 hg rfl rfl
        have c6 : w4.cell? ⟨g, 6, none⟩ = some (.int .i64 0) := blk_at hP.blk 6 hg (by rfl) (by rw [hpd.1]; rfl)
        have c7 : w4.cell? ⟨g, 7, none⟩ = some (.int .i64 0) := blk_at hP.blk 7 hg (by rfl) (by rw [hpd.2]; rfl)
        have c0 : w4.cell? ⟨g, 0, none⟩ = some (.pointer (some ⟨P.a.g, 0, none⟩)) := hP.cpa hg
        have c1 : w4.cell? ⟨g, 1, none⟩ = some (.pointer (some ⟨P.b.g, 0, none⟩)) := hP.cpb hg
        have HP := Lib.hid (hP.below (Below.refl _ w4).drew)
        have B4 := Lib.hid (hB.trans (Below.refl base w4).drew)
        have HG := Lib.hid hg
        have HC6 : Hid (∀ W, Below w4.heap.size w4 W → W.cell? ⟨g, 16, none⟩ = some (.bool true) ∧ W.cell? ⟨g, 6, none⟩ = some (.int .i64 0) ∧ W.cell? ⟨g, 7, none⟩ = some (.int .i64 0) ∧ W.cell? ⟨g, 0, none⟩ = some (.pointer (some ⟨P.a.g, 0, none⟩)) ∧ W.cell? ⟨g, 1, none⟩ = some (.pointer (some ⟨P.b.g, 0, none⟩))) := Lib.hid (fun W b => by
         have hl : g < w4.heap.size := by rw [← hg]; exact hP.blk.lt
         have e : ∀ i, W.cell? ⟨g, i, none⟩ = w4.cell? ⟨g, i, none⟩ := fun i => b.cell hl
         rw [e, e, e, e, e]
         exact ⟨c16, c6, c7, c0, c1⟩)
        clear hpd hpr hph hP hB hg
        go_upto_region 26 with fail
        refine wp_region_held_drew (S := (fun w' => w'.cell? ⟨g, 16, none⟩ = some (.bool true) ∧ w'.cell? ⟨g, 6, none⟩ = some (.int .i64 0) ∧ w'.cell? ⟨g, 7, none⟩ = some (.int .i64 0) ∧ w'.cell? ⟨g, 0, none⟩ = some (.pointer (some ⟨P.a.g, 0, none⟩)) ∧ w'.cell? ⟨g, 1, none⟩ = some (.pointer (some ⟨P.b.g, 0, none⟩)))) (by kernel_rfl) (⟨c16, c6, c7, c0, c1⟩) (fun hS => ?_)
        clear c16 c6 c7 c0 c1
        have BD := Lib.hid ((Below.refl w4.heap.size w4).drew)
        generalize w4.drew = wd at *
        refine tl 0 105 (v := ?_) rfl ?_ ?_
        rotate_left
        ·
         intro w hSw
         go_simp
         with_reducible rfl
        simp only [Act.put, List.setIfInBounds_toArray, List.set_cons_zero, List.set_cons_succ]
        refine tl 1 106 (v := ?_) rfl ?_ ?_
        rotate_left
        ·
         intro w hSw
         go_simp
         with_reducible rfl
        simp only [Act.put, List.setIfInBounds_toArray, List.set_cons_zero, List.set_cons_succ]
        refine tl 2 107 (v := ?_) rfl ?_ ?_
        rotate_left
        ·
         intro w hSw
         go_simp
         with_reducible rfl
        simp only [Act.put, List.setIfInBounds_toArray, List.set_cons_zero, List.set_cons_succ]
        refine tl 3 108 (v := ?_) rfl ?_ ?_
        rotate_left
        ·
         intro w hSw
         have cc := hSw.1
         go_simp
         with_reducible rfl
        simp only [Act.put, List.setIfInBounds_toArray, List.set_cons_zero, List.set_cons_succ]
        refine tl 4 109 (v := ?_) rfl ?_ ?_
        rotate_left
        ·
         intro w hSw
         go_simp
         with_reducible rfl
        simp only [Act.put, List.setIfInBounds_toArray, List.set_cons_zero, List.set_cons_succ]
        refine tl 5 110 (v := ?_) rfl ?_ ?_
        rotate_left
        ·
         intro w hSw
         go_simp
         with_reducible rfl
        simp only [Act.put, List.setIfInBounds_toArray, List.set_cons_zero, List.set_cons_succ]
        refine tl 6 111 (v := ?_) rfl ?_ ?_
        rotate_left
        ·
         intro w hSw
         go_simp
         with_reducible rfl
        simp only [Act.put, List.setIfInBounds_toArray, List.set_cons_zero, List.set_cons_succ]
        refine tl 7 112 (v := ?_) rfl ?_ ?_
        rotate_left
        ·
         intro w hSw
         go_simp
         with_reducible rfl
        simp only [Act.put, List.setIfInBounds_toArray, List.set_cons_zero, List.set_cons_succ]
        refine tl 8 113 (v := ?_) rfl ?_ ?_
        rotate_left
        ·
         intro w hSw
         go_simp
         with_reducible rfl
        simp only [Act.put, List.setIfInBounds_toArray, List.set_cons_zero, List.set_cons_succ]
        refine tl 9 114 (v := ?_) rfl ?_ ?_
        rotate_left
        ·
         intro w hSw
         have cc := hSw.2.1
         go_simp
         with_reducible rfl
        simp only [Act.put, List.setIfInBounds_toArray, List.set_cons_zero, List.set_cons_succ]
        refine tl 10 115 (v := ?_) rfl ?_ ?_
        rotate_left
        ·
         intro w hSw
         go_simp
         with_reducible rfl
        simp only [Act.put, List.setIfInBounds_toArray, List.set_cons_zero, List.set_cons_succ]
        refine tl 11 116 (v := ?_) rfl ?_ ?_
        rotate_left
        ·
         intro w hSw
         go_simp
         with_reducible rfl
        simp only [Act.put, List.setIfInBounds_toArray, List.set_cons_zero, List.set_cons_succ]
        refine tl 12 117 (v := ?_) rfl ?_ ?_
        rotate_left
        ·
         intro w hSw
         go_simp
         with_reducible rfl
        simp only [Act.put, List.setIfInBounds_toArray, List.set_cons_zero, List.set_cons_succ]
        refine tl 13 118 (v := ?_) rfl ?_ ?_
        rotate_left
        ·
         intro w hSw
         go_simp
         with_reducible rfl
        simp only [Act.put, List.setIfInBounds_toArray, List.set_cons_zero, List.set_cons_succ]
        refine tl 14 119 (v := ?_) rfl ?_ ?_
        rotate_left
        ·
         intro w hSw
         go_simp
         with_reducible rfl
        simp only [Act.put, List.setIfInBounds_toArray, List.set_cons_zero, List.set_cons_succ]
        refine tl 15 120 (v := ?_) rfl ?_ ?_
        rotate_left
        ·
         intro w hSw
         go_simp
         with_reducible rfl
        simp only [Act.put, List.setIfInBounds_toArray, List.set_cons_zero, List.set_cons_succ]
        refine tl 16 121 (v := ?_) rfl ?_ ?_
        rotate_left
        ·
         intro w hSw
         go_simp
         with_reducible rfl
        simp only [Act.put, List.setIfInBounds_toArray, List.set_cons_zero, List.set_cons_succ]
        refine tl 17 122 (v := ?_) rfl ?_ ?_
        rotate_left
        ·
         intro w hSw
         have cc := hSw.2.2.1
         go_simp
         with_reducible rfl
        simp only [Act.put, List.setIfInBounds_toArray, List.set_cons_zero, List.set_cons_succ]
        refine tl 18 123 (v := ?_) rfl ?_ ?_
        rotate_left
        ·
         intro w hSw
         go_simp
         with_reducible rfl
        simp only [Act.put, List.setIfInBounds_toArray, List.set_cons_zero, List.set_cons_succ]
        refine tl 19 124 (v := ?_) rfl ?_ ?_
        rotate_left
        ·
         intro w hSw
         go_simp
         with_reducible rfl
        simp only [Act.put, List.setIfInBounds_toArray, List.set_cons_zero, List.set_cons_succ]
        refine tl 20 125 (v := ?_) rfl ?_ ?_
        rotate_left
        ·
         intro w hSw
         go_simp
         with_reducible rfl
        simp only [Act.put, List.setIfInBounds_toArray, List.set_cons_zero, List.set_cons_succ]
        refine tl 21 126 (v := ?_) rfl ?_ ?_
        rotate_left
        ·
         intro w hSw
         go_simp
         with_reducible rfl
        simp only [Act.put, List.setIfInBounds_toArray, List.set_cons_zero, List.set_cons_succ]
        refine tl 22 127 (v := ?_) rfl ?_ ?_
        rotate_left
        ·
         intro w hSw
         go_simp
         with_reducible rfl
        simp only [Act.put, List.setIfInBounds_toArray, List.set_cons_zero, List.set_cons_succ]
        refine tl 23 128 (v := ?_) rfl ?_ ?_
        rotate_left
        ·
         intro w hSw
         go_simp
         with_reducible rfl
        simp only [Act.put, List.setIfInBounds_toArray, List.set_cons_zero, List.set_cons_succ]
        refine tl 24 129 (v := ?_) rfl ?_ ?_
        rotate_left
        ·
         intro w hSw
         go_simp
         with_reducible rfl
        simp only [Act.put, List.setIfInBounds_toArray, List.set_cons_zero, List.set_cons_succ]
        refine tl 25 130 (v := ?_) rfl ?_ ?_
        rotate_left
        ·
         intro w hSw
         have cc := hSw.2.2.2.1
         go_simp
         with_reducible rfl
        simp only [Act.put, List.setIfInBounds_toArray, List.set_cons_zero, List.set_cons_succ]
        refine tl 28 133 (v := ?_) rfl ?_ ?_
        rotate_left
        ·
         intro w hSw
         go_simp
         with_reducible rfl
        simp only [Act.put, List.setIfInBounds_toArray, List.set_cons_zero, List.set_cons_succ]
        refine tl 29 134 (v := ?_) rfl ?_ ?_
        rotate_left
        ·
         intro w hSw
         go_simp
         with_reducible rfl
        simp only [Act.put, List.setIfInBounds_toArray, List.set_cons_zero, List.set_cons_succ]
        refine tl 30 135 (v := ?_) rfl ?_ ?_
        rotate_left
        ·
         intro w hSw
         go_simp
         with_reducible rfl
        simp only [Act.put, List.setIfInBounds_toArray, List.set_cons_zero, List.set_cons_succ]
        refine tl 31 136 (v := ?_) rfl ?_ ?_
        rotate_left
        ·
         intro w hSw
         go_simp
         with_reducible rfl
        simp only [Act.put, List.setIfInBounds_toArray, List.set_cons_zero, List.set_cons_succ]
        refine tl 32 137 (v := ?_) rfl ?_ ?_
        rotate_left
        ·
         intro w hSw
         have cc := hSw.2.2.2.2
         go_simp
         with_reducible rfl
        simp only [Act.put, List.setIfInBounds_toArray, List.set_cons_zero, List.set_cons_succ]
        refine wpAnyH_ready (rs := [26]) (by kernel_rfl) (by simp) ?_
        refine AllReadyH.cons rfl (fun K hK => ?_) AllReadyH.nil
        go_simp
        refine (nodes_none HP.out.na HN0.out).mono ?_
        rintro e w5 ⟨rfl, b5⟩
        have H5 := Lib.hid (HP.out.below b5)
        have B5 := Lib.hid (B4.out.trans (b5.mono HP.out.na.bz))
        have BE := Lib.hid (BD.out.trans (b5.mono BD.out.size))
        have m5 := HC6.out w5 BE.out
        clear b5 HP B4 BD
        go_wp2_with fail
        refine hK.out _ _ (m5) (fun hS => ?_)
        clear hK K
        try simp only [Act.put, List.setIfInBounds_toArray, List.set_cons_zero, List.set_cons_succ]
        refine tl 27 132 (v := ?_) rfl ?_ ?_
        rotate_left
        ·
         intro w hSw
         go_simp
         with_reducible rfl
        simp only [Act.put, List.setIfInBounds_toArray, List.set_cons_zero, List.set_cons_succ]
        refine wpAnyH_ready (rs := [33]) (by kernel_rfl) (by simp) ?_
        refine AllReadyH.cons rfl (fun K hK => ?_) AllReadyH.nil
        go_simp
        refine (nodes_none H5.out.nb HN1.out).mono ?_
        rintro e w6 ⟨rfl, b6⟩
        have B6 := Lib.hid (B5.out.trans (b6.mono H5.out.na.bz))
        have m5 := HC6.out w6 (BE.out.trans (b6.mono BE.out.size))
        clear b6 H5 B5 BE
        go_wp2_with fail
        refine hK.out _ _ (m5) (fun hS => ?_)
        clear hK K
        try simp only [Act.put, List.setIfInBounds_toArray, List.set_cons_zero, List.set_cons_succ]
        refine tl 34 139 (v := ?_) rfl ?_ ?_
        rotate_left
        ·
         intro w hSw
         go_simp
         with_reducible rfl
        simp only [Act.put, List.setIfInBounds_toArray, List.set_cons_zero, List.set_cons_succ]
        refine tl 35 140 (v := ?_) rfl ?_ ?_
        rotate_left
        ·
         intro w hSw
         go_simp
         with_reducible rfl
        simp only [Act.put, List.setIfInBounds_toArray, List.set_cons_zero, List.set_cons_succ]
        refine tl 36 141 (v := ?_) rfl ?_ ?_
        rotate_left
        ·
         intro w hSw
         go_simp
         with_reducible rfl
        simp only [Act.put, List.setIfInBounds_toArray, List.set_cons_zero, List.set_cons_succ]
        refine tl 37 142 (v := ?_) rfl ?_ ?_
        rotate_left
        ·
         intro w hSw
         go_simp
         with_reducible rfl
        simp only [Act.put, List.setIfInBounds_toArray, List.set_cons_zero, List.set_cons_succ]
        refine tl 38 4 (v := ?_) rfl ?_ ?_
        rotate_left
        ·
         intro w hSw
         go_simp
         with_reducible rfl
        simp only [Act.put, List.setIfInBounds_toArray, List.set_cons_zero, List.set_cons_succ]
        refine wpAnyH_done (by kernel_rfl) ?_ _
        clear hS m5
        go_wp2_with fail
        go_ret
        exact ⟨rfl, BW1.out.trans (B6.out.mono (by rw [HBS.out]; exact BW1.out.size))⟩
       ·
        obtain ⟨hua, hub, ⟨ca, hca, hga⟩, cb, hcb, hgb⟩ := ph_acc hph HD2.out
        have c16 : w4.cell? ⟨g, 16, none⟩ = some (.bool true) := blk_at hP.blk 16 hg rfl rfl
        have c4 : w4.cell? ⟨g, 4, none⟩ = some (.bool true) := blk_at hP.blk 4 hg (v' := .bool s4.ua) (by rw [hua]) rfl
        have c5 : w4.cell? ⟨g, 5, none⟩ = some (.bool true) := blk_at hP.blk 5 hg (v' := .bool s4.ub) (by rw [hub]) rfl
        have c6 : w4.cell? ⟨g, 6, none⟩ = some (.int .i64 1) := blk_at hP.blk 6 hg (by rfl) (by rw [hua]; rfl)
        have c7 : w4.cell? ⟨g, 7, none⟩ = some (.int .i64 1) := blk_at hP.blk 7 hg (by rfl) (by rw [hub]; rfl)
        have c0 : w4.cell? ⟨g, 0, none⟩ = some (.pointer (some ⟨P.a.g, 0, none⟩)) := hP.cpa hg
        have CN0 := Lib.hid (nodes_one hP.na exB ca hca (by decide) hga)
        have CN1 := Lib.hid (fun W (b : Below w4.heap.size w4 W) => nodes_one (hP.nb.below b) exA cb hcb (by decide) hgb)
        have HP := Lib.hid hP
        have HG := Lib.hid hg
        have HBQ := Lib.hid hB
        clear hP hg hB hph hua hub hca hga hcb hgb
        unfold ptrV at CN0 CN1
        go_wp2_with fail
        refine CN0.out.mono ?_
        rintro e w5 ⟨⟨sa5, cap5, rfl⟩, b5⟩
        have d1 : w5.cell? ⟨g, 1, none⟩ = some (.pointer (some ⟨P.b.g, 0, none⟩)) := (HP.out.below b5).cpb HG.out
        have CN2 := Lib.hid (CN1.out w5 b5)
        have B5 := Lib.hid (HBQ.out.trans (b5.mono HP.out.na.bz))
        have HZ5 := Lib.hid (show base ≤ w5.heap.size from Nat.le_trans HP.out.na.bz b5.size)
        clear b5 CN0 CN1 c16 c4 c5 c6 c7 c0
        go_wp2_with fail
        refine CN2.out.mono ?_
        rintro e w6 ⟨⟨sa6, cap6, rfl⟩, b6⟩
        have B6 := Lib.hid (B5.out.trans (b6.mono HZ5.out))
        clear b6 CN2 d1
        go_wp2_with fail
        go_ret
        exact ⟨rfl, BW1.out.trans (B6.out.mono (by rw [HBS.out]; exact BW1.out.size))⟩
end Go.Proofs.YtoaimoemaoinhaaGreatDoor
namespace Go.Proofs.YtoaimoemaoinhaaGreatDoor
open Go.ChangeShapes Go.WideShapes Go.ChangeAt Go.RowKit
abbrev laid2 {H : Type} : List (String × DataW H) := [("stagehand/digest.start", Rows.laid_stagehand_digest_start), ("stagehand/digest.rounds", Rows.laid_stagehand_digest_rounds)]
theorem own : ownKnob Tryz.prog.godebug = none := by kernel_rfl
theorem door_met (os : Os) (args : Array Value) : laidMetH Tryz.prog laid2 ((World.doorLaid Tryz.prog 400 os).forCall (fun _ _ => 0) ⟨#[], args, []⟩).memory :=
 laidMetH_of_parts3 (fuel := 8) (laidMet_of_run' 8 (by kernel_rfl) (by kernel_rfl)) (by kernel_rfl) (by kernel_rfl)
end Go.Proofs.YtoaimoemaoinhaaGreatDoor
namespace Go.Proofs.YtoaimoemaoinhaaGreatDoor.Sk
open Go.ChangeShapes Go.WideShapes Go.ChangeAt Go.RowKit
section
variable {H : Type} {enc : TypeId × Value → H} {P : Program} {w : World} {base : Nat} {spare : Nat → Bool} {held : Bool} {fuel : Nat} {t e : TypeId} {n : Nat}
theorem table_of {cs : Array Value} {x : DataW H × List MemPlace} {L : List Nat} (ht : P.underlying t = some (.array n e)) (he : P.underlying e = some (.int .u32)) (ce : P.cellsOf e = 1) (ct : P.cellsOf t = n)
  (h : DataW.trod enc P w base spare held fuel t cs.toList = some x) (hx : x.1 = .agg (L.map fun k : Nat => .lit (.int .u32 (k : Int)))) : ∀ i, i < n → cs[i]? = some (wv (L.getD i 0)) := by
 obtain ⟨xs, m, _, rfl, hl, hn, hel⟩ := DataW.trod_array ht h
 rw [ct] at hl
 intro i hi
 have q := hel i hi
 rw [ce, Nat.mul_one] at q
 have hil : i < cs.toList.length := by omega
 have e1 : (cs.toList.drop i).take 1 = [cs.toList[i]] := by
  rw [List.drop_eq_getElem_cons hil]; rfl
 rw [e1, List.getElem?_eq_getElem (by omega)] at q
 obtain ⟨k, e2, e3, _⟩ := DataW.trod_int he q
 simp only [DataW.agg.injEq] at hx
 have e4 := congrArg (fun l => l[i]?) hx
 simp only [List.getElem?_map] at e4
 rw [List.getElem?_eq_getElem (by omega)] at e4
 simp only [Option.map_some, e3] at e4
 cases hL : L[i]? with
 | none => rw [hL] at e4; cases e4
 | some v =>
  rw [hL] at e4
  simp only [Option.map_some, Option.some.injEq, DataW.lit.injEq, Lit.int.injEq, true_and] at e4
  simp only [List.cons.injEq, and_true] at e2
  rw [List.getD_eq_getElem?_getD, hL, ← Array.getElem?_toList, List.getElem?_eq_getElem hil, e2, e4]
  rfl
end
abbrev laid2 {H : Type} : List (String × DataW H) := [("stagehand/digest.start", Rows.laid_stagehand_digest_start), ("stagehand/digest.rounds", Rows.laid_stagehand_digest_rounds)]
theorem gStart : Tryz.prog.globalNamed "stagehand/digest.start" = some 0 := by kernel_rfl
theorem gRounds : Tryz.prog.globalNamed "stagehand/digest.rounds" = some 1 := by kernel_rfl
theorem tStart : (Tryz.prog.globals[0]?).map (·.type) = some 310 := by kernel_rfl
theorem tRounds : (Tryz.prog.globals[1]?).map (·.type) = some 323 := by kernel_rfl
theorem own : ownKnob Tryz.prog.godebug = none := by kernel_rfl
theorem of_laid {W : World} (h : laidMetH Tryz.prog laid2 W) : Tabs W := by
 rw [MakeChecks.laidMetH_plain _ _ _ (by kernel_rfl)] at h
 obtain ⟨ps, ⟨g0, t0, cs0, f0, p0, q0, hg0, ht0, hv0, hd0, ⟨g1, t1, cs1, f1, p1, q1, hg1, ht1, hv1, hd1, _, _⟩, _⟩, _, _⟩ := h
 obtain rfl := Option.some.inj (gStart.symm.trans hg0)
 obtain rfl := Option.some.inj (gRounds.symm.trans hg1)
 obtain rfl := Option.some.inj (tStart.symm.trans ht0)
 obtain rfl := Option.some.inj (tRounds.symm.trans ht1)
 refine ⟨fun i hi => ?_, fun i hi => ?_⟩
 ·
  rw [World.var?_cell hg0 hv0 i]
  exact table_of (L := startF.l) (n := 8) (e := 240) Tryz.underlying310 Tryz.underlying240 (by kernel_rfl) (by kernel_rfl) hd0 rfl i hi
 ·
  rw [World.var?_cell hg1 hv1 i]
  exact table_of (L := KL) (n := 64) (e := 240) Tryz.underlying323 Tryz.underlying240 (by kernel_rfl) (by kernel_rfl) hd1 rfl i hi
end Go.Proofs.YtoaimoemaoinhaaGreatDoor.Sk
