/- Take of the reference: a hello. Take of the reference, whole. -/
import Derived.Test.YtnkkbkceapcahaaDoorRoffer
namespace Go.Proofs.YtnkkbkceapcahaaDoor
open Go.RowKit Go.Rt Go.Rw

set_option maxRecDepth 100000 in
set_option maxHeartbeats 2000000 in
theorem rtake_greet (s : Sd) (h1 : s.state = 1) (hd : s.dials = false) (he : s.sent = false) (b : ByteArray) (hb : b.size ≤ 100000) (B : Nat) (w : World) (hB : Blk w B 83 (sdC s)) :
    Calls Tryd.prog 29 #[.pointer (some ⟨B, 0, none⟩), .string b] w (Fin 83 B (takeF s b) w) := by
  have HB := Lib.hid hB
  have LTB := Lib.hid hB.lt
  have hT : Hid (takeF s b = greetF s b) := Lib.hid (by unfold takeF moveF; rw [if_neg (by simp [h1])]; simp [hd, he])
  rw [hT.out]
  have SC := sd_cells hB
  have c8 := SC.c8
  have c9 := SC.c9
  have c10 := SC.c10
  rw [hd] at c8
  rw [he] at c9
  rw [h1] at c10
  have c10' : w.cell? ⟨B, 10, none⟩ = some (.int .i64 1) := c10
  have RH := Lib.hid (fun W => readH_any b hb W)
  have HN := Lib.hid (fun h => greetF_none s b h)
  have HG := Lib.hid (fun want p h => greetF_some s b want p h)
  clear c10 SC hb hB h1 hd he hT
  go_enter Tryd.func29, Tryd.ntmps29
  go_wp2_with fail
  refine (RH.out _).mono ?_
  rintro e w1 ⟨⟨nm, g, want, ok, rfl, hrd⟩, b1⟩
  have HRD := Lib.hid hrd
  have B1 := Lib.hid b1
  have B2 := Lib.hid (B1.out.alloc B1.out.size (.cells #[.string nm, .int .i64 (g : Int)] 23))
  have FB := Lib.hid (fun e => fail_any s e B _ (HB.out.below B2.out LTB.out))
  clear hrd b1
  cases ok with
  | false =>
    have hA := Lib.hid (HN.out HRD.out)
    have FA := Lib.hid (FB.out 6)
    go_wp2_with fail
    refine (FA.out).mono ?_
    rintro e w9 ⟨rfl, f1, f2⟩
    have F1 := Lib.hid f1
    have F2 := Lib.hid ((Only.of_below [B] B2.out (Nat.le_refl _)).trans f2)
    clear f1 f2
    simp only [failS]
    go_wp2
    go_ret2
    exact ⟨by rw [hA.out]; rfl, by rw [hA.out]; exact F1.out, F2.out⟩
  | true =>
    have hA0 := Lib.hid (HG.out want ⟨nm, g⟩ HRD.out)
    have lx := B1.out.size
    have k0 : (w1.alloc (.cells #[.string nm, .int .i64 (g : Int)] 23)).cell? ⟨w1.heap.size, 0, none⟩ = some (.string nm) := by simp
    have k1 : (w1.alloc (.cells #[.string nm, .int .i64 (g : Int)] 23)).cell? ⟨w1.heap.size, 1, none⟩ = some (.int .i64 (g : Int)) := by simp
    have hB2 := HB.out.below B2.out LTB.out
    have neX : ¬ w1.heap.size = B := by have := LTB.out; omega
    have neX2 : ¬ B = w1.heap.size := by omega
    have SC2 := sd_cells hB2
    have s0 := SC2.c0
    have s2 := SC2.c2
    have s3 := SC2.c3
    have s10 := SC2.c10
    have fr := fun j => hB2.frozen j
    have HB2 := Lib.hid hB2
    clear hB2 SC2 HN HG HRD c8 c9 c10'
    go_wp2_with fail
    generalize w1.heap.size = X at neX neX2 k0 k1 lx ⊢
    generalize w1.alloc (.cells #[.string nm, .int .i64 (g : Int)] 23) = W2 at k0 k1 s0 s2 s3 s10 fr HB2 B2 FB ⊢
    cases x1 : (want.toList == s.self.name.toList) with
    | false =>
      have hA : Hid (greetF s b = failS s 351) := Lib.hid (by rw [hA0.out, if_pos (.inl (show seqB want s.self.name = false from x1))])
      go_quiet (fail)
      have FA := Lib.hid (fail_any s 351 B _ (HB2.out.drewN nq))
      go_wp2_with fail
      refine (FA.out).mono ?_
      rintro e w9 ⟨rfl, f1, f2⟩
      have F1 := Lib.hid f1
      have F2 := Lib.hid ((Only.of_below [B] (below_drewN B2.out nq) (Nat.le_refl _)).trans f2)
      clear f1 f2
      simp only [failS]
      go_wp2
      go_ret2
      exact ⟨by rw [hA.out]; rfl, by rw [hA.out]; exact F1.out, F2.out⟩
    | true =>
      cases x2 : (nm.toList == s.self.name.toList) with
      | true =>
        have hA : Hid (greetF s b = failS s 351) := Lib.hid (by rw [hA0.out, if_pos (.inr (show seqB nm s.self.name = true from x2))])
        go_quiet (fail)
        have FA := Lib.hid (fail_any s 351 B _ (HB2.out.drewN nq))
        go_wp2_with fail
        refine (FA.out).mono ?_
        rintro e w9 ⟨rfl, f1, f2⟩
        have F1 := Lib.hid f1
        have F2 := Lib.hid ((Only.of_below [B] (below_drewN B2.out nq) (Nat.le_refl _)).trans f2)
        clear f1 f2
        simp only [failS]
        go_wp2
        go_ret2
        exact ⟨by rw [hA.out]; rfl, by rw [hA.out]; exact F1.out, F2.out⟩
      | false =>
        have hE : Hid (greetF s b = ({ s with other := ⟨nm, g⟩, state := 2 }, ⟨#[]⟩, 0)) := by
          refine Lib.hid ?_
          rw [hA0.out, if_neg]
          rintro (h | h)
          · have : seqB want s.self.name = true := x1
            rw [this] at h; cases h
          · have : seqB nm s.self.name = false := x2
            rw [this] at h; cases h
        go_wp2_with fail
        go_quiet (fail)
        go_wp2
        go_ret2
        have O1 := Only.of_below [B] B2.out (Nat.le_refl _)
        have X := ((HB2.out.set_ 2 (.string nm)).set_ 3 (.int .i64 (g : Int))).set_ 10 (.int .i64 2)
        have O := ((O1.trans (Only.setCell W2 ⟨B, 2, none⟩ (.string nm) (by simp))).trans (Only.setCell _ ⟨B, 3, none⟩ (.int .i64 (g : Int)) (by simp))).trans (Only.setCell _ ⟨B, 10, none⟩ (.int .i64 2) (by simp))
        exact ⟨by rw [hE.out]; rfl, by rw [hE.out]; exact X.drewN nq, ⟨O.os, O.tape, O.output, O.size, O.block⟩⟩

/-- Take of the reference. -/
theorem rtake_any (s : Sd) (hs : SdOk s) (b : ByteArray) (hb : b.size ≤ 100000) (B : Nat) (w : World) (hB : Blk w B 83 (sdC s)) (ht : Tabs w) :
    Calls Tryd.prog 29 #[.pointer (some ⟨B, 0, none⟩), .string b] w (Fin 83 B (takeF s b) w) := by
  by_cases h1 : s.state = 1
  · cases hd : s.dials with
    | true =>
      cases he : s.sent with
      | true => exact rtake_ack s hs h1 hd he b hb B w hB ht
      | false => exact rtake_offer s hs h1 hd he b hb B w hB ht
    | false =>
      cases he : s.sent with
      | true => exact rtake_reply s hs h1 hd he b hb B w hB ht
      | false => exact rtake_greet s h1 hd he b hb B w hB
  · exact rtake_off s h1 b B w hB
end Go.Proofs.YtnkkbkceapcahaaDoor
