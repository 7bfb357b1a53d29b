/- The other closures of terms.kinds. -/
import Derived.Test.YtoaimoemaoinhaaGreatDoorKinds
import Derived.IntWalk
namespace Go.Proofs.YtoaimoemaoinhaaGreatDoor
open Go.RowKit Go.Rt Go.Rw

theorem pad_iff (x j : Nat) (hj : j < 8) : x * 2 ^ j % 256 = 0 ↔ x % 2 ^ (8 - j) = 0 := by
  have e : 256 = 2 ^ (8 - j) * 2 ^ j := by rw [← Nat.pow_add, show 8 - j + j = 8 by omega]
  rw [e, Nat.mul_mod_mul_right]
  have := Nat.two_pow_pos j
  rw [Nat.mul_eq_zero]
  omega
theorem TwoB.drewN {w W : World} {C R : Array Value} (h : TwoB w W C R) (n : Nat) : TwoB w (W.drewN n) C R := ⟨h.x.drewN n, h.y.drewN n, ⟨h.b.os, h.b.tape, h.b.output, h.b.size, h.b.block⟩⟩
set_option maxRecDepth 100000 in
set_option maxHeartbeats 2000000 in
theorem kind7 (f : Fl) (sa : Option Addr) (len cap : Nat) (w : World) :
    Calls Tryz.prog 231 #[ftV ⟨f, .slice sa len cap⟩] w (KindR f (.slice none 0 0) (decide (len ≤ 255)) w) := by
  obtain ⟨k, n, g, nm, fn, ar, bs, bt⟩ := f
  obtain ⟨rp, hrp⟩ : ∃ r, r = decide (len ≤ 255) := ⟨_, rfl⟩
  rw [← hrp]
  have hI : decide ((len : Int) ≤ 255) = rp := by rw [hrp, decide_eq_decide]; omega
  clear hrp
  have T0 := Lib.hid (TwoB.start w #[.int .i64 k, .int .i64 n, .int .i64 g, .string nm, .string fn, .int .i64 ar, .slice sa len cap, .string bs, .int .i64 bt] #[.int .i64 0, .int .i64 0, .int .i64 0, .string ⟨#[]⟩, .string ⟨#[]⟩, .int .i64 0, .slice none 0 0, .string ⟨#[]⟩, .int .i64 0])
  unfold ftV
  go_enter Tryz.func231, Tryz.ntmps231
  go_wp2_with (refine wpList_store_fld rfl 46 _ _ rfl rfl w.heap.size 6 _ 48 (.slice none 0 0) rfl rfl T0.out.x (Nat.le_of_ble_eq_true rfl) (by kernel_rfl) rfl ?_)
  intro v6 e6
  have U6 : Hid (TwoB w v6 #[.int .i64 k, .int .i64 n, .int .i64 g, .string nm, .string fn, .int .i64 ar, .slice none 0 0, .string bs, .int .i64 bt] #[.int .i64 0, .int .i64 0, .int .i64 0, .string ⟨#[]⟩, .string ⟨#[]⟩, .int .i64 0, .slice none 0 0, .string ⟨#[]⟩, .int .i64 0]) := Lib.hid (by rw [e6]; exact T0.out.setX 6 _)
  clear e6 T0
  go_wp2_with (first
    | (refine wpList_load_blk rfl 48 _ rfl w.heap.size rfl _ 48 _ U6.out.x Tryz.underlying48 rfl info25 ?_)
    | (refine wpList_store_blk rfl 48 _ _ rfl rfl (w.heap.size + 1) _ _ 48 rfl rfl U6.out.y rfl info25 (by simp [Value.oneCell']) ?_; intro w9 b9 o9))
  have V := Lib.hid (U6.out.storeY b9 o9)
  clear b9 o9 U6
  refine bodyPost_ret (results_two V.out.y Tryz.underlying48 rfl info25 rfl rfl) rfl ⟨rfl, V.out.b⟩
set_option maxRecDepth 100000 in
set_option maxHeartbeats 2000000 in
theorem kind8 (f : Fl) (sa : Option Addr) (len cap : Nat) (w : World) :
    Calls Tryz.prog 232 #[ftV ⟨f, .slice sa len cap⟩] w (KindR f (.slice sa len cap) true w) := by
  obtain ⟨k, n, g, nm, fn, ar, bs, bt⟩ := f
  have T0 := Lib.hid (TwoB.start w #[.int .i64 k, .int .i64 n, .int .i64 g, .string nm, .string fn, .int .i64 ar, .slice sa len cap, .string bs, .int .i64 bt] #[.int .i64 0, .int .i64 0, .int .i64 0, .string ⟨#[]⟩, .string ⟨#[]⟩, .int .i64 0, .slice none 0 0, .string ⟨#[]⟩, .int .i64 0])
  unfold ftV
  go_enter Tryz.func232, Tryz.ntmps232
  go_wp2_with (first
    | (refine wpList_load_blk rfl 48 _ rfl w.heap.size rfl _ 48 _ T0.out.x Tryz.underlying48 rfl info25 ?_)
    | (refine wpList_store_blk rfl 48 _ _ rfl rfl (w.heap.size + 1) _ _ 48 rfl rfl T0.out.y rfl info25 (by simp [Value.oneCell']) ?_; intro w9 b9 o9))
  have V := Lib.hid (T0.out.storeY b9 o9)
  clear b9 o9 T0
  refine bodyPost_ret (results_two V.out.y Tryz.underlying48 rfl info25 rfl rfl) rfl ⟨rfl, V.out.b⟩
/-- The last part of a list is no list. -/
def lastB (l : List Tm) : Bool := match l.getLast? with | some t => decide (t.f.k ≠ 9) | none => false
set_option maxRecDepth 100000 in
set_option maxHeartbeats 2000000 in
theorem kind9 (S : Nat → Prop) (f : Fl) (l : List Tm) (sa : Option Addr) (cap : Nat) (w : World) (hl : ItsAt S w l (.slice sa l.length cap)) :
    Calls Tryz.prog 233 #[ftV ⟨f, .slice sa l.length cap⟩] w (KindR f (.slice none 0 0) (decide (2 ≤ l.length) && lastB l) w) := by
  have hm := hl.form.1
  obtain ⟨k, n, g, nm, fn, ar, bs, bt⟩ := f
  by_cases h2 : 2 ≤ l.length
  · obtain ⟨b, o, rfl, hb, _, hc⟩ := hl.get (by omega)
    obtain ⟨x, hx, hcx⟩ := hc (l.length - 1) (by omega)
    have hk := hcx 0 (by omega)
    have hlast : lastB l = decide (x.f.k ≠ 9) := by
      unfold lastB
      rw [List.getLast?_eq_getElem?, List.getElem?_eq_getElem (by omega)]
      simp only [hx.its.1]
    have e1 : decide (2 ≤ l.length) = true := by simpa using h2
    rw [e1, hlast]
    obtain ⟨kk, hkk⟩ : ∃ kk, kk = x.f.k := ⟨_, rfl⟩
    simp only [Nat.add_zero, ftC, List.getElem?_cons_zero] at hk
    rw [← hkk] at hk ⊢
    obtain ⟨rp, hrp⟩ : ∃ r, r = decide (kk ≠ 9) := ⟨_, rfl⟩
    rw [← hrp]
    have hI : (kk != 9) = rp := by rw [hrp]; by_cases q : kk = 9 <;> simp [q]
    obtain ⟨q, hq⟩ : ∃ q, q = l.length := ⟨_, rfl⟩
    rw [← hq] at hk h2 hm ⊢
    have hk2 : ∀ o1 o2, ((w.alloc o1).alloc o2).cell? ⟨b, o + (q - 1) * 9, none⟩ = some (.int .i64 kk) := fun o1 o2 => by
      rw [World.cell?_alloc_past _ _ _ (by simp; omega), World.cell?_alloc_past _ _ _ hb]; exact hk
    have e2 : IntKind.i64.wrap ((q : Int) - 1) = ((q - 1 : Nat) : Int) := by rw [IntWalk.i64_in _ (by omega)]; omega
    have d1 : 1 < q := by omega
    clear hl hc hcx hkk hx hlast e1 hrp hq hk h2
    have T0 := Lib.hid (TwoB.start w #[.int .i64 k, .int .i64 n, .int .i64 g, .string nm, .string fn, .int .i64 ar, .slice (some ⟨b, o, none⟩) q cap, .string bs, .int .i64 bt] #[.int .i64 0, .int .i64 0, .int .i64 0, .string ⟨#[]⟩, .string ⟨#[]⟩, .int .i64 0, .slice none 0 0, .string ⟨#[]⟩, .int .i64 0])
    unfold ftV
    go_enter Tryz.func233, Tryz.ntmps233
    go_wp2_with (refine wpList_store_fld rfl 46 _ _ rfl rfl w.heap.size 6 _ 48 (.slice none 0 0) rfl rfl T0.out.x (Nat.le_of_ble_eq_true rfl) (by kernel_rfl) rfl ?_)
    intro v6 e6
    have U6 : Hid (TwoB w v6 #[.int .i64 k, .int .i64 n, .int .i64 g, .string nm, .string fn, .int .i64 ar, .slice none 0 0, .string bs, .int .i64 bt] #[.int .i64 0, .int .i64 0, .int .i64 0, .string ⟨#[]⟩, .string ⟨#[]⟩, .int .i64 0, .slice none 0 0, .string ⟨#[]⟩, .int .i64 0]) := Lib.hid (by rw [e6]; exact T0.out.setX 6 _)
    clear e6 T0
    go_wp2_with (first
      | (refine wpList_load_blk rfl 48 _ rfl w.heap.size rfl _ 48 _ U6.out.x Tryz.underlying48 rfl info25 ?_)
      | (refine wpList_store_blk rfl 48 _ _ rfl rfl (w.heap.size + 1) _ _ 48 rfl rfl U6.out.y rfl info25 (by simp [Value.oneCell']) ?_; intro w9 b9 o9))
    have V := Lib.hid (U6.out.storeY b9 o9)
    clear b9 o9 U6
    refine bodyPost_ret (results_two V.out.y Tryz.underlying48 rfl info25 rfl rfl) rfl ⟨rfl, V.out.b⟩
  · have e1 : decide (2 ≤ l.length) = false := by simpa using h2
    rw [e1, Bool.false_and]
    obtain ⟨q, hq⟩ : ∃ q, q = l.length := ⟨_, rfl⟩
    rw [← hq] at h2 ⊢
    have d1 : (q : Int) < 2 := by omega
    clear hl hm e1 hq h2
    have T0 := Lib.hid (TwoB.start w #[.int .i64 k, .int .i64 n, .int .i64 g, .string nm, .string fn, .int .i64 ar, .slice sa q cap, .string bs, .int .i64 bt] #[.int .i64 0, .int .i64 0, .int .i64 0, .string ⟨#[]⟩, .string ⟨#[]⟩, .int .i64 0, .slice none 0 0, .string ⟨#[]⟩, .int .i64 0])
    unfold ftV
    go_enter Tryz.func233, Tryz.ntmps233
    go_wp2_with fail
    refine bodyPost_ret (v := .tuple #[.agg #[.int .i64 k, .int .i64 n, .int .i64 g, .string nm, .string fn, .int .i64 ar, .slice none 0 0, .string bs, .int .i64 bt], .bool false]) (by simp [results, Tryz.results233, go_sem]) rfl ⟨rfl, ((Below.refl _ _).alloc (Nat.le_refl _) _).alloc (by simp) _⟩
set_option maxRecDepth 100000 in
set_option maxHeartbeats 2000000 in
theorem kind10 (f : Fl) (sa : Option Addr) (len cap : Nat) (w : World) (hz : f.bs.size ≤ maxLen) :
    Calls Tryz.prog 234 #[ftV ⟨f, .slice sa len cap⟩] w (KindR { f with bs := noB, bt := 0 } (.slice sa len cap) (bitsB f.bs f.bt) w) := by
  obtain ⟨k, n, g, nm, fn, ar, bs, bt⟩ := f
  dsimp only at hz ⊢
  unfold maxLen at hz
  unfold bitsB
  have C0 := Lib.hid (fun W => within_b bt 0 16384 W)
  cases h0 : inB bt 0 16384 with
  | false =>
    rw [h0] at C0
    rw [Bool.false_and]
    clear h0
    have T0 := Lib.hid (TwoB.start w #[.int .i64 k, .int .i64 n, .int .i64 g, .string nm, .string fn, .int .i64 ar, .slice sa len cap, .string bs, .int .i64 bt] #[.int .i64 0, .int .i64 0, .int .i64 0, .string ⟨#[]⟩, .string ⟨#[]⟩, .int .i64 0, .slice none 0 0, .string ⟨#[]⟩, .int .i64 0])
    unfold ftV
    go_enter Tryz.func234, Tryz.ntmps234
    go_wp2_with fail
    refine (C0.out _).mono ?_
    rintro e w1 ⟨rfl, b1⟩
    have T1 := Lib.hid (T0.out.call b1)
    clear b1 T0
    go_wp2_with (refine wpList_store_fld rfl 9 _ _ rfl rfl w.heap.size 7 _ 48 (.string ⟨#[]⟩) rfl rfl T1.out.x (Nat.le_of_ble_eq_true rfl) (by kernel_rfl) rfl ?_)
    intro v7 e7
    have U7 : Hid (TwoB w v7 #[.int .i64 k, .int .i64 n, .int .i64 g, .string nm, .string fn, .int .i64 ar, .slice sa len cap, .string ⟨#[]⟩, .int .i64 bt] #[.int .i64 0, .int .i64 0, .int .i64 0, .string ⟨#[]⟩, .string ⟨#[]⟩, .int .i64 0, .slice none 0 0, .string ⟨#[]⟩, .int .i64 0]) := Lib.hid (by rw [e7]; exact T1.out.setX 7 _)
    clear e7 T1
    go_wp2_with (refine wpList_store_fld rfl 3 _ _ rfl rfl w.heap.size 8 _ 48 (.int .i64 0) rfl rfl U7.out.x (Nat.le_of_ble_eq_true rfl) (by kernel_rfl) rfl ?_)
    intro v8 e8
    have U8 : Hid (TwoB w v8 #[.int .i64 k, .int .i64 n, .int .i64 g, .string nm, .string fn, .int .i64 ar, .slice sa len cap, .string ⟨#[]⟩, .int .i64 0] #[.int .i64 0, .int .i64 0, .int .i64 0, .string ⟨#[]⟩, .string ⟨#[]⟩, .int .i64 0, .slice none 0 0, .string ⟨#[]⟩, .int .i64 0]) := Lib.hid (by rw [e8]; exact U7.out.setX 8 _)
    clear e8 U7
    go_wp2_with (first
      | (refine wpList_load_blk rfl 48 _ rfl w.heap.size rfl _ 48 _ U8.out.x Tryz.underlying48 rfl info25 ?_)
      | (refine wpList_store_blk rfl 48 _ _ rfl rfl (w.heap.size + 1) _ _ 48 rfl rfl U8.out.y rfl info25 (by simp [Value.oneCell']) ?_; intro w9 b9 o9))
    have V := Lib.hid (U8.out.storeY b9 o9)
    clear b9 o9 U8
    refine bodyPost_ret (results_two V.out.y Tryz.underlying48 rfl info25 rfl rfl) rfl ⟨rfl, V.out.b⟩
  | true =>
    rw [h0] at C0
    rw [Bool.true_and]
    obtain ⟨m, rfl⟩ : ∃ m : Nat, bt = m := Int.eq_ofNat_of_zero_le (by unfold inB at h0; simp only [Bool.and_eq_true, decide_eq_true_eq] at h0; omega)
    have hm : m ≤ 16384 := by unfold inB at h0; simp only [Bool.and_eq_true, decide_eq_true_eq] at h0; omega
    clear h0
    have e1 : decide ((bs.size : Int) = ((m : Int) + 7) / 8) = decide (bs.size = (m + 7) / 8) := by rw [decide_eq_decide]; omega
    rw [e1]
    clear e1
    by_cases h1 : bs.size = (m + 7) / 8
    · have e1 : decide (bs.size = (m + 7) / 8) = true := by simpa using h1
      rw [e1, Bool.true_and]
      have hI : ((m : Int) + 7) / 8 = (bs.size : Int) := by omega
      clear e1
      by_cases h2 : m % 8 = 0
      · have e2 : decide ((m : Int) % 8 = 0) = true := by simpa using (by omega : (m : Int) % 8 = 0)
        rw [e2, Bool.true_or]
        have hJ : ((m : Int) % 8 != 0) = false := by simpa using (by omega : (m : Int) % 8 = 0)
        clear e2 h2 h1
        have T0 := Lib.hid (TwoB.start w #[.int .i64 k, .int .i64 n, .int .i64 g, .string nm, .string fn, .int .i64 ar, .slice sa len cap, .string bs, .int .i64 (m : Int)] #[.int .i64 0, .int .i64 0, .int .i64 0, .string ⟨#[]⟩, .string ⟨#[]⟩, .int .i64 0, .slice none 0 0, .string ⟨#[]⟩, .int .i64 0])
        unfold ftV
        go_enter Tryz.func234, Tryz.ntmps234
        go_wp2_with fail
        refine (C0.out _).mono ?_
        rintro e w1 ⟨rfl, b1⟩
        have T1 := Lib.hid (T0.out.call b1)
        clear b1 T0
        have c7 : w1.cell? ⟨w.heap.size, 7, none⟩ = some (.string bs) := T1.out.x.cell 7
        have c8 : w1.cell? ⟨w.heap.size, 8, none⟩ = some (.int .i64 (m : Int)) := T1.out.x.cell 8
        go_wp2_with (refine wpList_store_fld rfl 9 _ _ rfl rfl w.heap.size 7 _ 48 (.string ⟨#[]⟩) rfl rfl T1.out.x (Nat.le_of_ble_eq_true rfl) (by kernel_rfl) rfl ?_)
        intro v7 e7
        have U7 : Hid (TwoB w v7 #[.int .i64 k, .int .i64 n, .int .i64 g, .string nm, .string fn, .int .i64 ar, .slice sa len cap, .string ⟨#[]⟩, .int .i64 (m : Int)] #[.int .i64 0, .int .i64 0, .int .i64 0, .string ⟨#[]⟩, .string ⟨#[]⟩, .int .i64 0, .slice none 0 0, .string ⟨#[]⟩, .int .i64 0]) := Lib.hid (by rw [e7]; exact T1.out.setX 7 _)
        clear e7 T1 c7 c8
        go_wp2_with (refine wpList_store_fld rfl 3 _ _ rfl rfl w.heap.size 8 _ 48 (.int .i64 0) rfl rfl U7.out.x (Nat.le_of_ble_eq_true rfl) (by kernel_rfl) rfl ?_)
        intro v8 e8
        have U8 : Hid (TwoB w v8 #[.int .i64 k, .int .i64 n, .int .i64 g, .string nm, .string fn, .int .i64 ar, .slice sa len cap, .string ⟨#[]⟩, .int .i64 0] #[.int .i64 0, .int .i64 0, .int .i64 0, .string ⟨#[]⟩, .string ⟨#[]⟩, .int .i64 0, .slice none 0 0, .string ⟨#[]⟩, .int .i64 0]) := Lib.hid (by rw [e8]; exact U7.out.setX 8 _)
        clear e8 U7
        go_wp2_with (first
          | (refine wpList_load_blk rfl 48 _ rfl w.heap.size rfl _ 48 _ U8.out.x Tryz.underlying48 rfl info25 ?_)
          | (refine wpList_store_blk rfl 48 _ _ rfl rfl (w.heap.size + 1) _ _ 48 rfl rfl U8.out.y rfl info25 (by simp [Value.oneCell']) ?_; intro w9 b9 o9))
        have V := Lib.hid (U8.out.storeY b9 o9)
        clear b9 o9 U8
        refine bodyPost_ret (results_two V.out.y Tryz.underlying48 rfl info25 rfl rfl) rfl ⟨rfl, V.out.b⟩
      · have e2 : decide ((m : Int) % 8 = 0) = false := by simpa using (by omega : ¬ (m : Int) % 8 = 0)
        rw [e2, Bool.false_or]
        clear e2
        have h3 : 0 < bs.size := by omega
        obtain ⟨rp, hrp⟩ : ∃ r, r = padB bs m := ⟨_, rfl⟩
        rw [← hrp]
        obtain ⟨j, hj, hj8⟩ : ∃ j : Nat, (m : Int) % 8 = (j : Int) ∧ j < 8 := ⟨m % 8, by omega, by omega⟩
        have hj0 : j ≠ 0 := by omega
        have hJ : ((j : Int) != 0) = true := by simpa using hj0
        have hx : ∀ W, (Instr.index 9 (.string bs) (.int .i64 ((bs.size - 1 : Nat) : Int))).run Tryz.prog W = .ok (.int .u8 (atB bs (bs.size - 1) : Int)) W := fun W => by
          rw [run_index_string W 9 bs .i64 _ Tryz.underlying9, dif_pos (by omega), atB_get bs (bs.size - 1) (by omega)]
          rfl
        have hxl : atB bs (bs.size - 1) < 256 := by unfold atB; exact UInt8.toNat_lt _
        obtain ⟨x, hxe⟩ : ∃ x, x = atB bs (bs.size - 1) := ⟨_, rfl⟩
        rw [← hxe] at hx hxl
        have hw : IntKind.u8.wrap ((x : Int) * 2 ^ j) = ((x * 2 ^ j % 256 : Nat) : Int) := by
          rw [IntKind.wrap_u8]
          push_cast
          rfl
        have hy : (((x * 2 ^ j % 256 : Nat) : Int) == 0) = rp := by
          rw [hrp]
          unfold padB
          rw [hj, ← hxe]
          have e8 : (8 - (j : Int)).toNat = 8 - j := by omega
          rw [e8]
          have := pad_iff x j hj8
          by_cases q : x * 2 ^ j % 256 = 0
          · rw [q, decide_eq_true (this.1 q)]; rfl
          · rw [decide_eq_false (fun h => q (this.2 h))]
            rw [beq_eq_false_iff_ne]
            intro h
            exact q (Int.ofNat.inj h)
        obtain ⟨y, hyy⟩ : ∃ y, y = x * 2 ^ j % 256 := ⟨_, rfl⟩
        rw [← hyy] at hw hy
        have e3 : IntKind.i64.wrap ((bs.size : Int) - 1) = ((bs.size - 1 : Nat) : Int) := by rw [IntWalk.i64_in _ (by omega)]; omega
        have b1 : (0 : Int) ≤ j := by omega
        have b2 : (j : Int) ≤ 8 := by omega
        clear hrp hxe hyy h1 h2
        have T0 := Lib.hid (TwoB.start w #[.int .i64 k, .int .i64 n, .int .i64 g, .string nm, .string fn, .int .i64 ar, .slice sa len cap, .string bs, .int .i64 (m : Int)] #[.int .i64 0, .int .i64 0, .int .i64 0, .string ⟨#[]⟩, .string ⟨#[]⟩, .int .i64 0, .slice none 0 0, .string ⟨#[]⟩, .int .i64 0])
        unfold ftV
        go_enter Tryz.func234, Tryz.ntmps234
        go_wp2_with fail
        refine (C0.out _).mono ?_
        rintro e w1 ⟨rfl, b1⟩
        have T1 := Lib.hid (T0.out.call b1)
        clear b1 T0
        have c7 : w1.cell? ⟨w.heap.size, 7, none⟩ = some (.string bs) := T1.out.x.cell 7
        have c8 : w1.cell? ⟨w.heap.size, 8, none⟩ = some (.int .i64 (m : Int)) := T1.out.x.cell 8
        go_wp2_with fail
        go_quiet (fail)
        obtain ⟨w2, hw2⟩ : ∃ w2, w2 = w1.drewN nq := ⟨_, rfl⟩
        have T2 : Hid (TwoB w w2 #[.int .i64 k, .int .i64 n, .int .i64 g, .string nm, .string fn, .int .i64 ar, .slice sa len cap, .string bs, .int .i64 (m : Int)] #[.int .i64 0, .int .i64 0, .int .i64 0, .string ⟨#[]⟩, .string ⟨#[]⟩, .int .i64 0, .slice none 0 0, .string ⟨#[]⟩, .int .i64 0]) := Lib.hid (by rw [hw2]; exact T1.out.drewN nq)
        rw [← hw2]
        clear hw2 T1 c7 c8 hI hJ hx hy hw e3 hj
        go_wp2_with (refine wpList_store_fld rfl 9 _ _ rfl rfl w.heap.size 7 _ 48 (.string ⟨#[]⟩) rfl rfl T2.out.x (Nat.le_of_ble_eq_true rfl) (by kernel_rfl) rfl ?_)
        intro v7 e7
        have U7 : Hid (TwoB w v7 #[.int .i64 k, .int .i64 n, .int .i64 g, .string nm, .string fn, .int .i64 ar, .slice sa len cap, .string ⟨#[]⟩, .int .i64 (m : Int)] #[.int .i64 0, .int .i64 0, .int .i64 0, .string ⟨#[]⟩, .string ⟨#[]⟩, .int .i64 0, .slice none 0 0, .string ⟨#[]⟩, .int .i64 0]) := Lib.hid (by rw [e7]; exact T2.out.setX 7 _)
        clear e7 T2
        go_wp2_with (refine wpList_store_fld rfl 3 _ _ rfl rfl w.heap.size 8 _ 48 (.int .i64 0) rfl rfl U7.out.x (Nat.le_of_ble_eq_true rfl) (by kernel_rfl) rfl ?_)
        intro v8 e8
        have U8 : Hid (TwoB w v8 #[.int .i64 k, .int .i64 n, .int .i64 g, .string nm, .string fn, .int .i64 ar, .slice sa len cap, .string ⟨#[]⟩, .int .i64 0] #[.int .i64 0, .int .i64 0, .int .i64 0, .string ⟨#[]⟩, .string ⟨#[]⟩, .int .i64 0, .slice none 0 0, .string ⟨#[]⟩, .int .i64 0]) := Lib.hid (by rw [e8]; exact U7.out.setX 8 _)
        clear e8 U7
        go_wp2_with (first
          | (refine wpList_load_blk rfl 48 _ rfl w.heap.size rfl _ 48 _ U8.out.x Tryz.underlying48 rfl info25 ?_)
          | (refine wpList_store_blk rfl 48 _ _ rfl rfl (w.heap.size + 1) _ _ 48 rfl rfl U8.out.y rfl info25 (by simp [Value.oneCell']) ?_; intro w9 b9 o9))
        have V := Lib.hid (U8.out.storeY b9 o9)
        clear b9 o9 U8
        refine bodyPost_ret (results_two V.out.y Tryz.underlying48 rfl info25 rfl rfl) rfl ⟨rfl, V.out.b⟩
    · have e1 : decide (bs.size = (m + 7) / 8) = false := by simpa using h1
      rw [e1, Bool.false_and]
      have hI : ((bs.size : Int) == ((m : Int) + 7) / 8) = false := by rw [beq_eq_false_iff_ne]; omega
      clear e1 h1
      have T0 := Lib.hid (TwoB.start w #[.int .i64 k, .int .i64 n, .int .i64 g, .string nm, .string fn, .int .i64 ar, .slice sa len cap, .string bs, .int .i64 (m : Int)] #[.int .i64 0, .int .i64 0, .int .i64 0, .string ⟨#[]⟩, .string ⟨#[]⟩, .int .i64 0, .slice none 0 0, .string ⟨#[]⟩, .int .i64 0])
      unfold ftV
      go_enter Tryz.func234, Tryz.ntmps234
      go_wp2_with fail
      refine (C0.out _).mono ?_
      rintro e w1 ⟨rfl, b1⟩
      have T1 := Lib.hid (T0.out.call b1)
      clear b1 T0
      have c7 : w1.cell? ⟨w.heap.size, 7, none⟩ = some (.string bs) := T1.out.x.cell 7
      have c8 : w1.cell? ⟨w.heap.size, 8, none⟩ = some (.int .i64 (m : Int)) := T1.out.x.cell 8
      go_wp2_with (refine wpList_store_fld rfl 9 _ _ rfl rfl w.heap.size 7 _ 48 (.string ⟨#[]⟩) rfl rfl T1.out.x (Nat.le_of_ble_eq_true rfl) (by kernel_rfl) rfl ?_)
      intro v7 e7
      have U7 : Hid (TwoB w v7 #[.int .i64 k, .int .i64 n, .int .i64 g, .string nm, .string fn, .int .i64 ar, .slice sa len cap, .string ⟨#[]⟩, .int .i64 (m : Int)] #[.int .i64 0, .int .i64 0, .int .i64 0, .string ⟨#[]⟩, .string ⟨#[]⟩, .int .i64 0, .slice none 0 0, .string ⟨#[]⟩, .int .i64 0]) := Lib.hid (by rw [e7]; exact T1.out.setX 7 _)
      clear e7 T1 c7 c8
      go_wp2_with (refine wpList_store_fld rfl 3 _ _ rfl rfl w.heap.size 8 _ 48 (.int .i64 0) rfl rfl U7.out.x (Nat.le_of_ble_eq_true rfl) (by kernel_rfl) rfl ?_)
      intro v8 e8
      have U8 : Hid (TwoB w v8 #[.int .i64 k, .int .i64 n, .int .i64 g, .string nm, .string fn, .int .i64 ar, .slice sa len cap, .string ⟨#[]⟩, .int .i64 0] #[.int .i64 0, .int .i64 0, .int .i64 0, .string ⟨#[]⟩, .string ⟨#[]⟩, .int .i64 0, .slice none 0 0, .string ⟨#[]⟩, .int .i64 0]) := Lib.hid (by rw [e8]; exact U7.out.setX 8 _)
      clear e8 U7
      go_wp2_with (first
        | (refine wpList_load_blk rfl 48 _ rfl w.heap.size rfl _ 48 _ U8.out.x Tryz.underlying48 rfl info25 ?_)
        | (refine wpList_store_blk rfl 48 _ _ rfl rfl (w.heap.size + 1) _ _ 48 rfl rfl U8.out.y rfl info25 (by simp [Value.oneCell']) ?_; intro w9 b9 o9))
      have V := Lib.hid (U8.out.storeY b9 o9)
      clear b9 o9 U8
      refine bodyPost_ret (results_two V.out.y Tryz.underlying48 rfl info25 rfl rfl) rfl ⟨rfl, V.out.b⟩
end Go.Proofs.YtoaimoemaoinhaaGreatDoor
