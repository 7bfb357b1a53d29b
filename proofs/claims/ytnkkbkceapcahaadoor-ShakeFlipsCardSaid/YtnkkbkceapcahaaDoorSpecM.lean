/- What specified returns. -/
import Derived.Test.YtnkkbkceapcahaaDoorSpec
namespace Go.Proofs.YtnkkbkceapcahaaDoor
open Go.RowKit Go.Rt Go.Rw

theorem listen_take_ok {y : Pr} {c : ByteArray} {n : Nat} {b o : ByteArray} {l : Sd} (h : takeF (listenS y c n) b = (l, o, 0)) : l.state = 2 := by
  rw [take_hello _ rfl rfl rfl] at h
  unfold greetF at h
  split at h
  · simp [failS] at h
  · split at h
    · simp [failS] at h
    · simp only [Prod.mk.injEq, and_true] at h
      rw [← h.1]
theorem accept_ok {l : Sd} (h : l.state = 2) : (answerF l 1).2.2 = 0 := by rw [answerF_accept l (by simp [h])]
/-- What specified returns of two sides. -/
def SpecOut (W : World) (r : Ran) (e : Ending) (W' : World) : Prop := e = .returned (.tuple #[.int .i64 r.1.state, .int .i64 r.2.1.state]) ∧ Below W.heap.size W W'
theorem spec0_made (xd yd : Bool) (xn xw xc yn yw yc : ByteArray) (gx gy cx cy : Nat) (bit : Nat) (hbit : bit ≤ 65535) (W : World) (ht : Tabs W)
    (hzx : xn.size ≤ 6000 ∧ xw.size ≤ 6000 ∧ xc.size ≤ 6000) (hzy : yc.size ≤ 6000) (h64x : cx ≤ 18446744073709551615) (h64y : cy ≤ 18446744073709551615) (hd : dialB xn gx xw = true) (hv : (nameF yn && genI gy) = true) :
    Calls Tryd.prog 21 #[stgV (⟨xd, xn, gx, xw, xc, cx⟩ : Stg), stgV (⟨yd, yn, gy, yw, yc, cy⟩ : Stg), .int .i64 0, .int .u16 bit] W (SpecOut W (runF (dialS ⟨xn, gx⟩ xw xc cx) (listenS ⟨yn, gy⟩ yc cy) (helloF ⟨xn, gx⟩ xw) 1 (mFl 0 bit))) := by
  have F0 : Fine (dialS ⟨xn, gx⟩ xw xc cx) := Fine.dialS (prOk_of (dialB_parts hd).1) hzx.2.1 hzx.2.2 h64x
  have G0 : Fine (listenS ⟨yn, gy⟩ yc cy) := Fine.listenS (prOk_of hv) hzy h64y
  have zh : (helloF ⟨xn, gx⟩ xw).size ≤ 100000 := by
    rw [helloF_size]
    show xn.size + _ + 8 ≤ _
    have := hzx.1
    have := hzx.2.1
    omega
  have DY := fun W => rdial_yes xn gx xw xc cx hd W
  have LY := fun W => rlisten_yes yn gy yc cy hv W
  have LK := fun (b o : ByteArray) (l1 : Sd) (h : takeF (listenS ⟨yn, gy⟩ yc cy) b = (l1, o, 0)) => listen_take_ok h
  generalize helloF ⟨xn, gx⟩ xw = hel at *
  generalize dialS ⟨xn, gx⟩ xw xc cx = d at *
  generalize listenS ⟨yn, gy⟩ yc cy = l at *
  have m0 : mFl 0 bit 0 hel = (flipF hel bit) := rfl
  obtain ⟨⟨l1, o1, e1⟩, h1⟩ : ∃ r, takeF l (flipF hel bit) = r := ⟨_, rfl⟩
  by_cases k1 : e1 = 0
  · obtain ⟨⟨l2, o2, e2⟩, h2⟩ : ∃ r, answerF l1 1 = r := ⟨_, rfl⟩
    have k2 : e2 = 0 := by
      have := accept_ok (LK _ o1 l1 (by rw [h1, k1]))
      rw [h2] at this
      exact this
    have m1 : mFl 0 bit 1 o2 = o2 := rfl
    obtain ⟨⟨d1, o3, e3⟩, h3⟩ : ∃ r, takeF d o2 = r := ⟨_, rfl⟩
    by_cases k3 : e3 = 0
    · have m2 : mFl 0 bit 2 o3 = o3 := rfl
      obtain ⟨⟨l3, o4, e4⟩, h4⟩ : ∃ r, takeF l2 o3 = r := ⟨_, rfl⟩
      by_cases k4 : e4 = 0
      · have m3 : mFl 0 bit 3 o4 = o4 := rfl
        obtain ⟨⟨d2, o5, e5⟩, h5⟩ : ∃ r, takeF d1 o4 = r := ⟨_, rfl⟩
        have e : runF d l hel 1 (mFl 0 bit) = (d2, l3, [hel, o2, o3, o4]) := by
          unfold runF run2 run3 run4; simp [m0, m1, m2, m3, h1, h2, h3, h4, h5, k1, k3, k4]
        rw [e]
        by_cases k5 : e5 = 0
        · exact spec0_D xd yd xn xw xc yn yw yc gx gy cx cy bit hbit W ht d l hel DY LY F0 G0 zh l1 o1 e1 h1 k1 l2 o2 e2 h2 k2 d1 o3 e3 h3 k3 l3 o4 e4 h4 k4 d2 o5 e5 h5 k5
        · exact spec0_E xd yd xn xw xc yn yw yc gx gy cx cy bit hbit W ht d l hel DY LY F0 G0 zh l1 o1 e1 h1 k1 l2 o2 e2 h2 k2 d1 o3 e3 h3 k3 l3 o4 e4 h4 k4 d2 o5 e5 h5 k5
      · have e : runF d l hel 1 (mFl 0 bit) = (d1, l3, [hel, o2, o3]) := by
          unfold runF run2 run3 run4; simp [m0, m1, m2, h1, h2, h3, h4, k1, k3, k4]
        rw [e]
        exact spec0_C xd yd xn xw xc yn yw yc gx gy cx cy bit hbit W ht d l hel DY LY F0 G0 zh l1 o1 e1 h1 k1 l2 o2 e2 h2 k2 d1 o3 e3 h3 k3 l3 o4 e4 h4 k4
    · have e : runF d l hel 1 (mFl 0 bit) = (d1, l2, [hel, o2]) := by
        unfold runF run2; simp [m0, m1, h1, h2, h3, k1, k3]
      rw [e]
      exact spec0_B xd yd xn xw xc yn yw yc gx gy cx cy bit hbit W ht d l hel DY LY F0 G0 zh l1 o1 e1 h1 k1 l2 o2 e2 h2 k2 d1 o3 e3 h3 k3
  · have e : runF d l hel 1 (mFl 0 bit) = (d, l1, [hel]) := by
      unfold runF; simp [m0, h1, k1]
    rw [e]
    exact spec0_A xd yd xn xw xc yn yw yc gx gy cx cy bit hbit W ht d l hel DY LY F0 G0 zh l1 o1 e1 h1 k1
theorem spec1_made (xd yd : Bool) (xn xw xc yn yw yc : ByteArray) (gx gy cx cy : Nat) (bit : Nat) (hbit : bit ≤ 65535) (W : World) (ht : Tabs W)
    (hzx : xn.size ≤ 6000 ∧ xw.size ≤ 6000 ∧ xc.size ≤ 6000) (hzy : yc.size ≤ 6000) (h64x : cx ≤ 18446744073709551615) (h64y : cy ≤ 18446744073709551615) (hd : dialB xn gx xw = true) (hv : (nameF yn && genI gy) = true) :
    Calls Tryd.prog 21 #[stgV (⟨xd, xn, gx, xw, xc, cx⟩ : Stg), stgV (⟨yd, yn, gy, yw, yc, cy⟩ : Stg), .int .i64 1, .int .u16 bit] W (SpecOut W (runF (dialS ⟨xn, gx⟩ xw xc cx) (listenS ⟨yn, gy⟩ yc cy) (helloF ⟨xn, gx⟩ xw) 1 (mFl 1 bit))) := by
  have F0 : Fine (dialS ⟨xn, gx⟩ xw xc cx) := Fine.dialS (prOk_of (dialB_parts hd).1) hzx.2.1 hzx.2.2 h64x
  have G0 : Fine (listenS ⟨yn, gy⟩ yc cy) := Fine.listenS (prOk_of hv) hzy h64y
  have zh : (helloF ⟨xn, gx⟩ xw).size ≤ 100000 := by
    rw [helloF_size]
    show xn.size + _ + 8 ≤ _
    have := hzx.1
    have := hzx.2.1
    omega
  have DY := fun W => rdial_yes xn gx xw xc cx hd W
  have LY := fun W => rlisten_yes yn gy yc cy hv W
  have LK := fun (b o : ByteArray) (l1 : Sd) (h : takeF (listenS ⟨yn, gy⟩ yc cy) b = (l1, o, 0)) => listen_take_ok h
  generalize helloF ⟨xn, gx⟩ xw = hel at *
  generalize dialS ⟨xn, gx⟩ xw xc cx = d at *
  generalize listenS ⟨yn, gy⟩ yc cy = l at *
  have m0 : mFl 1 bit 0 hel = hel := rfl
  obtain ⟨⟨l1, o1, e1⟩, h1⟩ : ∃ r, takeF l hel = r := ⟨_, rfl⟩
  by_cases k1 : e1 = 0
  · obtain ⟨⟨l2, o2, e2⟩, h2⟩ : ∃ r, answerF l1 1 = r := ⟨_, rfl⟩
    have k2 : e2 = 0 := by
      have := accept_ok (LK _ o1 l1 (by rw [h1, k1]))
      rw [h2] at this
      exact this
    have m1 : mFl 1 bit 1 o2 = (flipF o2 bit) := rfl
    obtain ⟨⟨d1, o3, e3⟩, h3⟩ : ∃ r, takeF d (flipF o2 bit) = r := ⟨_, rfl⟩
    by_cases k3 : e3 = 0
    · have m2 : mFl 1 bit 2 o3 = o3 := rfl
      obtain ⟨⟨l3, o4, e4⟩, h4⟩ : ∃ r, takeF l2 o3 = r := ⟨_, rfl⟩
      by_cases k4 : e4 = 0
      · have m3 : mFl 1 bit 3 o4 = o4 := rfl
        obtain ⟨⟨d2, o5, e5⟩, h5⟩ : ∃ r, takeF d1 o4 = r := ⟨_, rfl⟩
        have e : runF d l hel 1 (mFl 1 bit) = (d2, l3, [hel, o2, o3, o4]) := by
          unfold runF run2 run3 run4; simp [m0, m1, m2, m3, h1, h2, h3, h4, h5, k1, k3, k4]
        rw [e]
        by_cases k5 : e5 = 0
        · exact spec1_D xd yd xn xw xc yn yw yc gx gy cx cy bit hbit W ht d l hel DY LY F0 G0 zh l1 o1 e1 h1 k1 l2 o2 e2 h2 k2 d1 o3 e3 h3 k3 l3 o4 e4 h4 k4 d2 o5 e5 h5 k5
        · exact spec1_E xd yd xn xw xc yn yw yc gx gy cx cy bit hbit W ht d l hel DY LY F0 G0 zh l1 o1 e1 h1 k1 l2 o2 e2 h2 k2 d1 o3 e3 h3 k3 l3 o4 e4 h4 k4 d2 o5 e5 h5 k5
      · have e : runF d l hel 1 (mFl 1 bit) = (d1, l3, [hel, o2, o3]) := by
          unfold runF run2 run3 run4; simp [m0, m1, m2, h1, h2, h3, h4, k1, k3, k4]
        rw [e]
        exact spec1_C xd yd xn xw xc yn yw yc gx gy cx cy bit hbit W ht d l hel DY LY F0 G0 zh l1 o1 e1 h1 k1 l2 o2 e2 h2 k2 d1 o3 e3 h3 k3 l3 o4 e4 h4 k4
    · have e : runF d l hel 1 (mFl 1 bit) = (d1, l2, [hel, o2]) := by
        unfold runF run2; simp [m0, m1, h1, h2, h3, k1, k3]
      rw [e]
      exact spec1_B xd yd xn xw xc yn yw yc gx gy cx cy bit hbit W ht d l hel DY LY F0 G0 zh l1 o1 e1 h1 k1 l2 o2 e2 h2 k2 d1 o3 e3 h3 k3
  · have e : runF d l hel 1 (mFl 1 bit) = (d, l1, [hel]) := by
      unfold runF; simp [m0, h1, k1]
    rw [e]
    exact spec1_A xd yd xn xw xc yn yw yc gx gy cx cy bit hbit W ht d l hel DY LY F0 G0 zh l1 o1 e1 h1 k1
theorem spec2_made (xd yd : Bool) (xn xw xc yn yw yc : ByteArray) (gx gy cx cy : Nat) (bit : Nat) (hbit : bit ≤ 65535) (W : World) (ht : Tabs W)
    (hzx : xn.size ≤ 6000 ∧ xw.size ≤ 6000 ∧ xc.size ≤ 6000) (hzy : yc.size ≤ 6000) (h64x : cx ≤ 18446744073709551615) (h64y : cy ≤ 18446744073709551615) (hd : dialB xn gx xw = true) (hv : (nameF yn && genI gy) = true) :
    Calls Tryd.prog 21 #[stgV (⟨xd, xn, gx, xw, xc, cx⟩ : Stg), stgV (⟨yd, yn, gy, yw, yc, cy⟩ : Stg), .int .i64 2, .int .u16 bit] W (SpecOut W (runF (dialS ⟨xn, gx⟩ xw xc cx) (listenS ⟨yn, gy⟩ yc cy) (helloF ⟨xn, gx⟩ xw) 1 (mFl 2 bit))) := by
  have F0 : Fine (dialS ⟨xn, gx⟩ xw xc cx) := Fine.dialS (prOk_of (dialB_parts hd).1) hzx.2.1 hzx.2.2 h64x
  have G0 : Fine (listenS ⟨yn, gy⟩ yc cy) := Fine.listenS (prOk_of hv) hzy h64y
  have zh : (helloF ⟨xn, gx⟩ xw).size ≤ 100000 := by
    rw [helloF_size]
    show xn.size + _ + 8 ≤ _
    have := hzx.1
    have := hzx.2.1
    omega
  have DY := fun W => rdial_yes xn gx xw xc cx hd W
  have LY := fun W => rlisten_yes yn gy yc cy hv W
  have LK := fun (b o : ByteArray) (l1 : Sd) (h : takeF (listenS ⟨yn, gy⟩ yc cy) b = (l1, o, 0)) => listen_take_ok h
  generalize helloF ⟨xn, gx⟩ xw = hel at *
  generalize dialS ⟨xn, gx⟩ xw xc cx = d at *
  generalize listenS ⟨yn, gy⟩ yc cy = l at *
  have m0 : mFl 2 bit 0 hel = hel := rfl
  obtain ⟨⟨l1, o1, e1⟩, h1⟩ : ∃ r, takeF l hel = r := ⟨_, rfl⟩
  by_cases k1 : e1 = 0
  · obtain ⟨⟨l2, o2, e2⟩, h2⟩ : ∃ r, answerF l1 1 = r := ⟨_, rfl⟩
    have k2 : e2 = 0 := by
      have := accept_ok (LK _ o1 l1 (by rw [h1, k1]))
      rw [h2] at this
      exact this
    have m1 : mFl 2 bit 1 o2 = o2 := rfl
    obtain ⟨⟨d1, o3, e3⟩, h3⟩ : ∃ r, takeF d o2 = r := ⟨_, rfl⟩
    by_cases k3 : e3 = 0
    · have m2 : mFl 2 bit 2 o3 = (flipF o3 bit) := rfl
      obtain ⟨⟨l3, o4, e4⟩, h4⟩ : ∃ r, takeF l2 (flipF o3 bit) = r := ⟨_, rfl⟩
      by_cases k4 : e4 = 0
      · have m3 : mFl 2 bit 3 o4 = o4 := rfl
        obtain ⟨⟨d2, o5, e5⟩, h5⟩ : ∃ r, takeF d1 o4 = r := ⟨_, rfl⟩
        have e : runF d l hel 1 (mFl 2 bit) = (d2, l3, [hel, o2, o3, o4]) := by
          unfold runF run2 run3 run4; simp [m0, m1, m2, m3, h1, h2, h3, h4, h5, k1, k3, k4]
        rw [e]
        by_cases k5 : e5 = 0
        · exact spec2_D xd yd xn xw xc yn yw yc gx gy cx cy bit hbit W ht d l hel DY LY F0 G0 zh l1 o1 e1 h1 k1 l2 o2 e2 h2 k2 d1 o3 e3 h3 k3 l3 o4 e4 h4 k4 d2 o5 e5 h5 k5
        · exact spec2_E xd yd xn xw xc yn yw yc gx gy cx cy bit hbit W ht d l hel DY LY F0 G0 zh l1 o1 e1 h1 k1 l2 o2 e2 h2 k2 d1 o3 e3 h3 k3 l3 o4 e4 h4 k4 d2 o5 e5 h5 k5
      · have e : runF d l hel 1 (mFl 2 bit) = (d1, l3, [hel, o2, o3]) := by
          unfold runF run2 run3 run4; simp [m0, m1, m2, h1, h2, h3, h4, k1, k3, k4]
        rw [e]
        exact spec2_C xd yd xn xw xc yn yw yc gx gy cx cy bit hbit W ht d l hel DY LY F0 G0 zh l1 o1 e1 h1 k1 l2 o2 e2 h2 k2 d1 o3 e3 h3 k3 l3 o4 e4 h4 k4
    · have e : runF d l hel 1 (mFl 2 bit) = (d1, l2, [hel, o2]) := by
        unfold runF run2; simp [m0, m1, h1, h2, h3, k1, k3]
      rw [e]
      exact spec2_B xd yd xn xw xc yn yw yc gx gy cx cy bit hbit W ht d l hel DY LY F0 G0 zh l1 o1 e1 h1 k1 l2 o2 e2 h2 k2 d1 o3 e3 h3 k3
  · have e : runF d l hel 1 (mFl 2 bit) = (d, l1, [hel]) := by
      unfold runF; simp [m0, h1, k1]
    rw [e]
    exact spec2_A xd yd xn xw xc yn yw yc gx gy cx cy bit hbit W ht d l hel DY LY F0 G0 zh l1 o1 e1 h1 k1
theorem spec3_made (xd yd : Bool) (xn xw xc yn yw yc : ByteArray) (gx gy cx cy : Nat) (bit : Nat) (hbit : bit ≤ 65535) (W : World) (ht : Tabs W)
    (hzx : xn.size ≤ 6000 ∧ xw.size ≤ 6000 ∧ xc.size ≤ 6000) (hzy : yc.size ≤ 6000) (h64x : cx ≤ 18446744073709551615) (h64y : cy ≤ 18446744073709551615) (hd : dialB xn gx xw = true) (hv : (nameF yn && genI gy) = true) :
    Calls Tryd.prog 21 #[stgV (⟨xd, xn, gx, xw, xc, cx⟩ : Stg), stgV (⟨yd, yn, gy, yw, yc, cy⟩ : Stg), .int .i64 3, .int .u16 bit] W (SpecOut W (runF (dialS ⟨xn, gx⟩ xw xc cx) (listenS ⟨yn, gy⟩ yc cy) (helloF ⟨xn, gx⟩ xw) 1 (mFl 3 bit))) := by
  have F0 : Fine (dialS ⟨xn, gx⟩ xw xc cx) := Fine.dialS (prOk_of (dialB_parts hd).1) hzx.2.1 hzx.2.2 h64x
  have G0 : Fine (listenS ⟨yn, gy⟩ yc cy) := Fine.listenS (prOk_of hv) hzy h64y
  have zh : (helloF ⟨xn, gx⟩ xw).size ≤ 100000 := by
    rw [helloF_size]
    show xn.size + _ + 8 ≤ _
    have := hzx.1
    have := hzx.2.1
    omega
  have DY := fun W => rdial_yes xn gx xw xc cx hd W
  have LY := fun W => rlisten_yes yn gy yc cy hv W
  have LK := fun (b o : ByteArray) (l1 : Sd) (h : takeF (listenS ⟨yn, gy⟩ yc cy) b = (l1, o, 0)) => listen_take_ok h
  generalize helloF ⟨xn, gx⟩ xw = hel at *
  generalize dialS ⟨xn, gx⟩ xw xc cx = d at *
  generalize listenS ⟨yn, gy⟩ yc cy = l at *
  have m0 : mFl 3 bit 0 hel = hel := rfl
  obtain ⟨⟨l1, o1, e1⟩, h1⟩ : ∃ r, takeF l hel = r := ⟨_, rfl⟩
  by_cases k1 : e1 = 0
  · obtain ⟨⟨l2, o2, e2⟩, h2⟩ : ∃ r, answerF l1 1 = r := ⟨_, rfl⟩
    have k2 : e2 = 0 := by
      have := accept_ok (LK _ o1 l1 (by rw [h1, k1]))
      rw [h2] at this
      exact this
    have m1 : mFl 3 bit 1 o2 = o2 := rfl
    obtain ⟨⟨d1, o3, e3⟩, h3⟩ : ∃ r, takeF d o2 = r := ⟨_, rfl⟩
    by_cases k3 : e3 = 0
    · have m2 : mFl 3 bit 2 o3 = o3 := rfl
      obtain ⟨⟨l3, o4, e4⟩, h4⟩ : ∃ r, takeF l2 o3 = r := ⟨_, rfl⟩
      by_cases k4 : e4 = 0
      · have m3 : mFl 3 bit 3 o4 = (flipF o4 bit) := rfl
        obtain ⟨⟨d2, o5, e5⟩, h5⟩ : ∃ r, takeF d1 (flipF o4 bit) = r := ⟨_, rfl⟩
        have e : runF d l hel 1 (mFl 3 bit) = (d2, l3, [hel, o2, o3, o4]) := by
          unfold runF run2 run3 run4; simp [m0, m1, m2, m3, h1, h2, h3, h4, h5, k1, k3, k4]
        rw [e]
        by_cases k5 : e5 = 0
        · exact spec3_D xd yd xn xw xc yn yw yc gx gy cx cy bit hbit W ht d l hel DY LY F0 G0 zh l1 o1 e1 h1 k1 l2 o2 e2 h2 k2 d1 o3 e3 h3 k3 l3 o4 e4 h4 k4 d2 o5 e5 h5 k5
        · exact spec3_E xd yd xn xw xc yn yw yc gx gy cx cy bit hbit W ht d l hel DY LY F0 G0 zh l1 o1 e1 h1 k1 l2 o2 e2 h2 k2 d1 o3 e3 h3 k3 l3 o4 e4 h4 k4 d2 o5 e5 h5 k5
      · have e : runF d l hel 1 (mFl 3 bit) = (d1, l3, [hel, o2, o3]) := by
          unfold runF run2 run3 run4; simp [m0, m1, m2, h1, h2, h3, h4, k1, k3, k4]
        rw [e]
        exact spec3_C xd yd xn xw xc yn yw yc gx gy cx cy bit hbit W ht d l hel DY LY F0 G0 zh l1 o1 e1 h1 k1 l2 o2 e2 h2 k2 d1 o3 e3 h3 k3 l3 o4 e4 h4 k4
    · have e : runF d l hel 1 (mFl 3 bit) = (d1, l2, [hel, o2]) := by
        unfold runF run2; simp [m0, m1, h1, h2, h3, k1, k3]
      rw [e]
      exact spec3_B xd yd xn xw xc yn yw yc gx gy cx cy bit hbit W ht d l hel DY LY F0 G0 zh l1 o1 e1 h1 k1 l2 o2 e2 h2 k2 d1 o3 e3 h3 k3
  · have e : runF d l hel 1 (mFl 3 bit) = (d, l1, [hel]) := by
      unfold runF; simp [m0, h1, k1]
    rw [e]
    exact spec3_A xd yd xn xw xc yn yw yc gx gy cx cy bit hbit W ht d l hel DY LY F0 G0 zh l1 o1 e1 h1 k1
theorem spec_made (k : Nat) (hk : k < 4) (xd yd : Bool) (xn xw xc yn yw yc : ByteArray) (gx gy cx cy : Nat) (bit : Nat) (hbit : bit ≤ 65535) (W : World) (ht : Tabs W)
    (hzx : xn.size ≤ 6000 ∧ xw.size ≤ 6000 ∧ xc.size ≤ 6000) (hzy : yc.size ≤ 6000) (h64x : cx ≤ 18446744073709551615) (h64y : cy ≤ 18446744073709551615) (hd : dialB xn gx xw = true) (hv : (nameF yn && genI gy) = true) :
    Calls Tryd.prog 21 #[stgV (⟨xd, xn, gx, xw, xc, cx⟩ : Stg), stgV (⟨yd, yn, gy, yw, yc, cy⟩ : Stg), .int .i64 k, .int .u16 bit] W (SpecOut W (runF (dialS ⟨xn, gx⟩ xw xc cx) (listenS ⟨yn, gy⟩ yc cy) (helloF ⟨xn, gx⟩ xw) 1 (mFl k bit))) := by
  match k, hk with
  | 0, _ => exact spec0_made xd yd xn xw xc yn yw yc gx gy cx cy bit hbit W ht hzx hzy h64x h64y hd hv
  | 1, _ => exact spec1_made xd yd xn xw xc yn yw yc gx gy cx cy bit hbit W ht hzx hzy h64x h64y hd hv
  | 2, _ => exact spec2_made xd yd xn xw xc yn yw yc gx gy cx cy bit hbit W ht hzx hzy h64x h64y hd hv
  | 3, _ => exact spec3_made xd yd xn xw xc yn yw yc gx gy cx cy bit hbit W ht hzx hzy h64x h64y hd hv
end Go.Proofs.YtnkkbkceapcahaaDoor
