/- The reference's primes, and its tables. -/
import Derived.Test.YtggfibheolpbiaaDoorRprim
import Derived.Test.YtggfibheolpbiaaDoorLists
import Derived.Deep.DeepCutAuto
namespace Go.Proofs.YtggfibheolpbiaaDoor
open Go.RowKit Go.Rt Go.Rw

def qc (n : Nat) : List Value := [.int .u64 (n : Int)]
def uc (n : Nat) : List Value := [wv n]
theorem qc_len (n : Nat) : (qc n).length = 1 := rfl
theorem uc_len (n : Nat) : (uc n).length = 1 := rfl
theorem qc_one (n : Nat) : ∀ u ∈ qc n, u.oneCell' = true := by simp [qc, Value.oneCell']
theorem uc_one (n : Nat) : ∀ u ∈ uc n, u.oneCell' = true := by simp [uc, Value.oneCell']
theorem u50 : Tryd.prog.underlying 50 = some (.slice 46) := by kernel_rfl
theorem u41 : Tryd.prog.underlying 41 = some (.slice 31) := by kernel_rfl
theorem info46 : (Tryd.prog.info? 46).map (fun i => (i.zero, i.size, i.bytes)) = some (some (.int .u64 0), 1, 8) := by kernel_rfl
theorem info31 : (Tryd.prog.info? 31).map (fun i => (i.zero, i.size, i.bytes)) = some (some (.int .u32 0), 1, 4) := by kernel_rfl

set_option maxRecDepth 100000 in
set_option maxHeartbeats 2000000 in
theorem primes_any (many : Nat) (w : World) (hm : many ≤ 64) :
    Calls Tryd.prog 30 #[.int .i64 many] w fun e w' => ∃ v, e = .returned v ∧ Sl w' w.heap.size 46 1 qc v (P64.take many) ∧ Below w.heap.size w w' := by
  go_enter Tryd.func30, Tryd.ntmps30
  go_wp2_with fail
  go_loopw [3, 4] (fun s a wr => ∃ c : Nat, 2 ≤ c ∧ c ≤ 312 ∧ (primesB c).length ≤ many ∧ a = .int .u64 c ∧ Sl wr w.heap.size 46 1 qc s (primesB c) ∧ Below w.heap.size w wr) (fun _ a _ => 312 - (intOf a).toNat)
  case atStart => exact ⟨2, by omega, by omega, by rw [show primesB 2 = [] by decide]; simp, rfl, by rw [show primesB 2 = [] by decide]; exact Sl.nil _ _ _ _ _, Below.refl _ _⟩
  case round =>
    obtain ⟨c, hc2, hc, hlm, rfl, s1, bl⟩ := hrel
    obtain ⟨_, sb, cb, rfl⟩ := (s1.at qc_len).len
    by_cases hlt : (primesB c).length < many
    · have hcs := primes_small hlt hm
      have hbd := primes_bd hc
      have hstep : primesB (c + 1) = if scanF (primesB c) c = true then primesB c ++ [c] else primesB c := by
        rw [primesB]; simp [hc2]
      obtain ⟨L, hL⟩ : ∃ L, L = primesB c := ⟨_, rfl⟩
      rw [← hL] at hlt hbd hstep s1 hlm ⊢
      have HST := Lib.hid hstep
      have HS1 := Lib.hid s1
      have HBL := Lib.hid bl
      have HSA := Lib.hid (s1.at qc_len)
      clear hL hstep s1 bl
      go_wp2_with fail
      go_loopw [5, 6] (fun p i wq => ∃ (b : Bool) (k n : Nat), k ≤ L.length ∧ p = .bool b ∧ i = .int .i64 k ∧ wq = wr.drewN n ∧ Hid ((b = true → scanF (L.drop k) c = scanF L c) ∧ (b = false → scanF L c = false))) (fun _ i _ => L.length - (intOf i).toNat)
      case atStart => exact ⟨true, 0, 0, Nat.zero_le _, rfl, rfl, rfl, by simp [Hid]⟩
      case round =>
        obtain ⟨b, k, n, hk, rfl, rfl, rfl, HB⟩ := hrel
        have after : ∀ nq : Nat, Sl (wr.drewN nq) w.heap.size 46 1 qc (.slice sb L.length cb) L ∧ Below w.heap.size w (wr.drewN nq) := fun nq =>
          ⟨HS1.out.same (Nat.le_refl _) (fun _ _ => rfl), ⟨HBL.out.os, HBL.out.tape, HBL.out.output, HBL.out.size, HBL.out.block⟩⟩
        have HAF := Lib.hid after
        have HAG : Hid (∀ a b : Nat, Sl ((wr.drewN a).drewN b) w.heap.size 46 1 qc (.slice sb L.length cb) L ∧ Below w.heap.size w ((wr.drewN a).drewN b)) := Lib.hid fun a b =>
          ⟨HS1.out.same (Nat.le_refl _) (fun _ _ => rfl), ⟨HBL.out.os, HBL.out.tape, HBL.out.output, HBL.out.size, HBL.out.block⟩⟩
        clear after
        by_cases hki : k < L.length
        · cases b
          · have HF : Hid (scanF L c = false) := Lib.hid (HB.out.2 rfl)
            have y2 : decide (k < L.length) = true := by simp [hki]
            clear HB
            go_upto_region 7 with fail
            go_quiet (fail)
            go_wp2_with fail
            go_roundw
            case rel =>
              have hp : primesB (c + 1) = L := by rw [HST.out, HF.out]; simp
              exact ⟨c + 1, by omega, by omega, by rw [hp]; omega, by go_num, by rw [hp]; exact (HAF.out _).1, (HAF.out _).2⟩
            case measure => simp [intOf]; omega
          · obtain ⟨bq, oq, rfl, q0, cL⟩ := HSA.out.get (by omega)
            have k0 := cL k 0 hki (by omega)
            simp only [qc, List.getElem?_cons_zero, Nat.add_zero, Nat.mul_one] at k0
            obtain ⟨hq1, hq2⟩ := hbd _ (List.getElem_mem hki)
            have hsd := scan_drop (c := c) hki
            obtain ⟨Q, hQ⟩ : ∃ Q, Q = L[k] := ⟨_, rfl⟩
            rw [← hQ] at k0 hq1 hq2 hsd
            clear hQ cL
            have hqq : Q * Q ≤ 312 * 312 := Nat.mul_le_mul (by omega) (by omega)
            obtain ⟨R, hR⟩ : ∃ R, R = Q * Q := ⟨_, rfl⟩
            have y1 : IntKind.u64.wrap ((Q : Int) * (Q : Int)) = (R : Int) := by rw [hR]; exact wrmul Q Q (by omega)
            rw [← hR] at hsd hqq
            clear hR
            have y2 : decide (k < L.length) = true := by simp [hki]
            by_cases hrc : R ≤ c
            · have y3 : decide (R ≤ c) = true := by simp [hrc]
              rw [if_pos hrc] at hsd
              have HSD := Lib.hid (hsd.symm.trans (HB.out.1 rfl))
              clear hsd HB
              by_cases hcq : c % Q = 0
              · have y4 : ((c : Int) % (Q : Int) != 0) = false := by simp; omega
                rw [if_pos hcq] at HSD
                go_upto_region 7 with fail
                go_quiet (fail)
                go_wp2_with fail
                go_roundw
                case rel => exact ⟨false, k + 1, n + nq, by omega, rfl, by go_num, rfl, Lib.hid ⟨(fun h => by cases h), fun _ => HSD.out.symm⟩⟩
                case measure => simp [intOf]; omega
              · have y4 : ((c : Int) % (Q : Int) != 0) = true := by rw [bne_iff_ne]; omega
                rw [if_neg hcq] at HSD
                go_upto_region 7 with fail
                go_quiet (fail)
                go_wp2_with fail
                go_roundw
                case rel => exact ⟨true, k + 1, n + nq, by omega, rfl, by go_num, rfl, Lib.hid ⟨fun _ => HSD.out, (fun h => by cases h)⟩⟩
                case measure => simp [intOf]; omega
            · have y3 : decide (R ≤ c) = false := by simp; omega
              rw [if_neg hrc] at hsd
              have HF : Hid (scanF L c = true) := Lib.hid ((hsd.symm.trans (HB.out.1 rfl)).symm)
              clear hsd HB
              go_upto_region 7 with fail
              go_quiet (fail)
              go_upto_region 11 with fail
              obtain ⟨wq, hwq⟩ : ∃ wq, wq = (wr.drewN n).drewN nq := ⟨_, rfl⟩
              have s1 := (HAG.out n nq).1
              have bl := (HAG.out n nq).2
              rw [← hwq] at s1 bl
              rw [← hwq]
              obtain ⟨g, cg, W2, hrun, s2, hgrow, hwhere⟩ := Sl.push (P := Tryd.prog) (t := 50) (ty := 50) (s1.only (Only.alloc [] wq (.cells (qc c).toArray 46)) (fun g _ => by simp)) u50 info46 rfl (by omega) qc_len qc_one c (World.alloc_heap_new wq _) (by omega) (by omega) (by simp; have := bl.size; omega) 1
              have hp : primesB (c + 1) = L ++ [c] := by rw [HST.out, HF.out]; simp
              have HS2 : Hid (Sl W2 w.heap.size 46 1 qc (.slice (some ⟨g, 0, none⟩) (L.length + 1) cg) (primesB (c + 1))) := by rw [hp]; exact Lib.hid s2
              have HB2 : Hid (Below w.heap.size w W2) := Lib.hid (bl.trans (((Below.refl w.heap.size wq).alloc bl.size _).grown hgrow (by simp; have := bl.size; omega) (fun r hr => (s1.lt r hr).1)))
              have HPL : Hid ((primesB (c + 1)).length = L.length + 1) := by refine Lib.hid ?_; rw [hp]; simp
              simp only [qc] at hrun
              have HRN := Lib.hid hrun
              clear hrun s2 hgrow hwhere s1 bl hwq hp
              go_wp2_with (at_builtin; refine wpList_append_run rfl _ _ 50 50 rfl rfl rfl HRN.out ?_)
              go_roundw
              case rel => exact ⟨c + 1, by omega, by omega, by rw [HPL.out]; omega, by go_num, HS2.out, HB2.out⟩
              case measure => simp [intOf]; omega
        · have y2 : decide (k < L.length) = false := by simp; omega
          cases b
          · have HF : Hid (scanF L c = false) := Lib.hid (HB.out.2 rfl)
            clear HB
            go_upto_region 7 with fail
            go_quiet (fail)
            go_wp2_with fail
            go_roundw
            case rel =>
              have hp : primesB (c + 1) = L := by rw [HST.out, HF.out]; simp
              exact ⟨c + 1, by omega, by omega, by rw [hp]; omega, by go_num, by rw [hp]; exact (HAF.out _).1, (HAF.out _).2⟩
            case measure => simp [intOf]; omega
          · have HF : Hid (scanF L c = true) := Lib.hid ((HB.out.1 rfl).symm.trans (scan_end (by omega)))
            clear HB
            go_upto_region 7 with fail
            go_quiet (fail)
            go_upto_region 11 with fail
            obtain ⟨wq, hwq⟩ : ∃ wq, wq = (wr.drewN n).drewN nq := ⟨_, rfl⟩
            have s1 := (HAG.out n nq).1
            have bl := (HAG.out n nq).2
            rw [← hwq] at s1 bl
            rw [← hwq]
            obtain ⟨g, cg, W2, hrun, s2, hgrow, hwhere⟩ := Sl.push (P := Tryd.prog) (t := 50) (ty := 50) (s1.only (Only.alloc [] wq (.cells (qc c).toArray 46)) (fun g _ => by simp)) u50 info46 rfl (by omega) qc_len qc_one c (World.alloc_heap_new wq _) (by omega) (by omega) (by simp; have := bl.size; omega) 1
            have hp : primesB (c + 1) = L ++ [c] := by rw [HST.out, HF.out]; simp
            have HS2 : Hid (Sl W2 w.heap.size 46 1 qc (.slice (some ⟨g, 0, none⟩) (L.length + 1) cg) (primesB (c + 1))) := by rw [hp]; exact Lib.hid s2
            have HB2 : Hid (Below w.heap.size w W2) := Lib.hid (bl.trans (((Below.refl w.heap.size wq).alloc bl.size _).grown hgrow (by simp; have := bl.size; omega) (fun r hr => (s1.lt r hr).1)))
            have HPL : Hid ((primesB (c + 1)).length = L.length + 1) := by refine Lib.hid ?_; rw [hp]; simp
            simp only [qc] at hrun
            have HRN := Lib.hid hrun
            clear hrun s2 hgrow hwhere s1 bl hwq hp
            go_wp2_with (at_builtin; refine wpList_append_run rfl _ _ 50 50 rfl rfl rfl HRN.out ?_)
            go_roundw
            case rel => exact ⟨c + 1, by omega, by omega, by rw [HPL.out]; omega, by go_num, HS2.out, HB2.out⟩
            case measure => simp [intOf]; omega
    · obtain ⟨hlen⟩ : (primesB c).length = many ∧ True := ⟨by omega, trivial⟩
      have ht := primes_take hc hlen
      have y1 : ¬ ((primesB c).length : Int) < (many : Int) := by omega
      rw [hlen, ht] at s1
      have HS1 := Lib.hid s1
      have HBL := Lib.hid bl
      clear s1 bl ht
      go_wp2_with fail
      go_ret
      exact ⟨_, rfl, HS1.out, HBL.out⟩

/-- The table K, as far as it is made. -/
theorem P64_len : P64.length = 64 := rfl
theorem KL_len : KL.length = 64 := rfl
theorem root_KL {i : Nat} (h : i < 64) : rootF (P64[i]'(by rw [P64_len]; exact h)) 3 = KL[i]'(by rw [KL_len]; exact h) := by
  have e := roots3
  have : (P64.map (rootF · 3))[i]? = KL[i]? := by rw [e]
  rw [List.getElem?_map, List.getElem?_eq_getElem (by rw [P64_len]; exact h), List.getElem?_eq_getElem (by rw [KL_len]; exact h)] at this
  simpa using this
theorem root_H {i : Nat} (h : i < 8) : rootF ((P64.take 8)[i]'(by simp [P64_len]; omega)) 2 = startF.l[i]'(by simp [S8.l]; omega) := by
  have e := roots2
  have : ((P64.take 8).map (rootF · 2))[i]? = startF.l[i]? := by rw [e]
  rw [List.getElem?_map, List.getElem?_eq_getElem (by simp [P64_len]; omega), List.getElem?_eq_getElem (by simp [S8.l]; omega)] at this
  simpa using this

set_option maxRecDepth 100000 in
set_option maxHeartbeats 1000000 in
theorem adds_any (w : World) :
    Calls Tryd.prog 22 #[] w fun e w' => ∃ v, e = .returned v ∧ Sl w' w.heap.size 31 1 uc v KL ∧ Below w.heap.size w w' := by
  have HPR := Lib.hid (fun w => primes_any 64 w (by omega))
  have HRT := Lib.hid (fun (i : Nat) (h : i < 64) w => root3 (P64[i]'(by rw [P64_len]; exact h)) w (by have := (P64_bd _ (List.getElem_mem (by rw [P64_len]; exact h))).2; omega))
  go_enter Tryd.func22, Tryd.ntmps22
  go_wp2_with fail
  refine (HPR.out _).mono ?_
  rintro e w1 ⟨v, rfl, s1, b1⟩
  rw [show P64.take 64 = P64 from rfl] at s1
  obtain ⟨_, sp, cp, rfl⟩ := (s1.at qc_len).len
  rw [P64_len]
  have HS1 := Lib.hid (s1.at qc_len)
  have HB1 := Lib.hid b1
  rw [P64_len] at HS1
  clear s1 b1
  go_wp2_with fail
  go_loopw [1, 3] (fun s i wr => ∃ k : Nat, k ≤ 64 ∧ i = .int .i64 k ∧ Sl wr w1.heap.size 31 1 uc s (KL.take k) ∧ Below w1.heap.size w1 wr) (fun _ i _ => 64 - (intOf i).toNat)
  case atStart => exact ⟨0, Nat.zero_le _, rfl, Sl.nil _ _ _ _ _, Below.refl _ _⟩
  case round =>
    obtain ⟨k, hk, rfl, s2, b2⟩ := hrel
    have hkl : (KL.take k).length = k := by rw [List.length_take, KL_len]; omega
    obtain ⟨_, sb, cb, rfl⟩ := (s2.at uc_len).len
    rw [hkl] at s2 ⊢
    have hw0 := b2.size
    by_cases hlt : k < 64
    · obtain ⟨bq, oq, rfl, q0, cL⟩ := HS1.out.get (by rw [P64_len]; omega)
      have k0 := (b2.cell (p := ⟨bq, oq + k * 1 + 0, none⟩) q0).trans (cL k 0 (by rw [P64_len]; exact hlt) (by omega))
      simp only [qc, List.getElem?_cons_zero, Nat.add_zero, Nat.mul_one] at k0
      have hroot := HRT.out k hlt
      rw [root_KL hlt] at hroot
      have HK := Lib.hid (KL_len)
      obtain ⟨q, hq⟩ : ∃ q, q = P64[k]'(by rw [P64_len]; exact hlt) := ⟨_, rfl⟩
      obtain ⟨x, hx⟩ : ∃ x, x = KL[k]'(by rw [KL_len]; exact hlt) := ⟨_, rfl⟩
      rw [← hq] at k0 hroot
      rw [← hx] at hroot
      have HRO := Lib.hid hroot
      obtain ⟨g, cg, W2, hrun, s3, hgrow, hwhere⟩ := Sl.push (P := Tryd.prog) (t := 41) (ty := 41) (s2.only (Only.alloc [] wr (.cells (uc x).toArray 31)) (fun g _ => by simp)) u41 info31 rfl (by omega) uc_len uc_one x (World.alloc_heap_new wr _) (by rw [hkl]; omega) (by rw [hkl]; omega) (by simp; omega) 1
      rw [hkl] at hrun s3
      have HS3 : Hid (Sl W2 w1.heap.size 31 1 uc (.slice (some ⟨g, 0, none⟩) (k + 1) cg) (KL.take (k + 1))) := by
        refine Lib.hid ?_; rw [List.take_succ_eq_append_getElem (by rw [KL_len]; exact hlt), ← hx]; exact s3
      have HB3 : Hid (Below w1.heap.size w1 W2) := Lib.hid (b2.trans (((Below.refl w1.heap.size wr).alloc hw0 _).grown hgrow (by simp; omega) (fun r hr => (s2.lt r hr).1)))
      simp only [uc] at hrun
      have HRN := Lib.hid hrun
      clear hrun s3 hgrow hwhere s2 b2 hx hq hroot cL
      go_wp2_with fail
      refine (HRO.out _).mono ?_
      rintro e w2 ⟨rfl, rfl⟩
      go_wp2_with (at_builtin; refine wpList_append_run rfl _ _ 41 41 rfl rfl rfl HRN.out ?_)
      go_roundw
      case rel => exact ⟨k + 1, by omega, by go_num, HS3.out, HB3.out⟩
      case measure => simp [intOf]; omega
    · obtain rfl : k = 64 := by omega
      have HS2 : Hid (Sl wr w.heap.size 31 1 uc (.slice sb 64 cb) KL) := by
        refine Lib.hid ?_
        rw [show KL.take 64 = KL from rfl] at s2
        exact s2.mono HB1.out.size
      have HB2 := Lib.hid (HB1.out.trans (b2.mono HB1.out.size))
      clear s2 b2
      go_wp2_with fail
      go_ret
      exact ⟨_, rfl, HS2.out, HB2.out⟩
end Go.Proofs.YtggfibheolpbiaaDoor
