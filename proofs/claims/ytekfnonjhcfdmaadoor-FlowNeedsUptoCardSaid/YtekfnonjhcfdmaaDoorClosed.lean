/- FlowClosed: whatever follows what can be reached can be reached. -/
import Derived.Test.YtekfnonjhcfdmaaDoorAwake
import Derived.Test.YtekfnonjhcfdmaaDoorReach
import Derived.Test.YtekfnonjhcfdmaaDoorTries
import Derived.Test.YtekfnonjhcfdmaaDoorWalk1
import Derived.Test.YtekfnonjhcfdmaaDoorRef1
namespace Go.Proofs.YtekfnonjhcfdmaaDoor
open Go.RowKit Go.Shelf Go.Rt Go.Rw

theorem bools_cell {W : World} {g n : Nat} {Q : Nat → Bool} (h : Blk W g 4 ((List.range n).map fun i => Value.bool (Q i)).toArray) {i : Nat} (hi : i < n) : W.cell? ⟨g, i, none⟩ = some (.bool (Q i)) := by
  rw [h.cell i, List.getElem?_toArray]
  simp [hi]
/-- What a law answers. -/
def Yes (w : World) (e : Ending) (w' : World) : Prop := e = .returned (.bool true) ∧ Below w.heap.size w w'
set_option maxRecDepth 100000 in
set_option maxHeartbeats 8000000 in
theorem closed6 (l : List In) (fr mr : List Int) (v fv mv : Value) (w : World) (h : InsAt w l v) (hf : SlAt w 1 inC fv fr) (hm : SlAt w 1 inC mv mr) (hb1 : l.length ≤ 2000000000000) (hb2 : ∀ x ∈ l, x.cases.length ≤ 8999999999998) (hb3 : fr.length ≤ 17592186043904)
    (hT : TabAt 0 Lib.deBruijn64tab w) (hz : 0 < w.heap.size) : Calls Tryd.prog 6 #[v, fv, mv] w (Yes w) := by
  obtain ⟨_, sa, cap, rfl⟩ := h.form
  obtain ⟨hf0, sf, cf, rfl⟩ := hf.len
  obtain ⟨hm0, sm, cm, rfl⟩ := hm.len
  have CL := Lib.hid (large_any l (.slice sa l.length cap) (.slice sf fr.length cf) fr.length sf cf w h rfl hf0)
  have CA := Lib.hid (fun (W : World) (hW : Below w.heap.size w W) => awake11 W (tab_below hT hW hz) (Nat.lt_of_lt_of_le hz hW.size))
  obtain ⟨n, hn⟩ : ∃ q, q = l.length := ⟨_, rfl⟩
  obtain ⟨nf, hnf⟩ : ∃ q, q = fr.length := ⟨_, rfl⟩
  obtain ⟨nm, hnm⟩ : ∃ q, q = mr.length := ⟨_, rfl⟩
  have C27 := Lib.hid (fun (W : World) (u : Value) (g : List Int) (hW : Below w.heap.size w W) (hu : SlAt W 1 inC u g) => reach27 l g (.slice sa l.length cap) u W (h.keep hW) hu (by omega))
  have C16 := Lib.hid (fun (W : World) (i : Int) (hW : Below w.heap.size w W) => next16 l (.slice sa l.length cap) i W (h.keep hW) (by omega) hb2)
  rw [← hn] at hb1 CL C27 C16 ⊢
  rw [← hnf] at hf hb3 CL ⊢
  rw [← hnm] at hm hm0 ⊢
  have HN := Lib.hid hn
  have HNF := Lib.hid hnf
  have HNM := Lib.hid hnm
  have HF := Lib.hid hf
  have HM := Lib.hid hm
  have hnm2 : nm ≤ 9223372036854775807 := hm0
  clear h hf hm hb2 hT hz hn hnf hnm hf0 hm0
  go_enter Tryd.func6, Tryd.ntmps6
  go_wp2_with fail
  refine CL.out.mono ?_
  rintro e w1 ⟨b1, b, rfl, _⟩
  have B1 := Lib.hid b1
  clear b1 CL
  cases b with
  | true =>
    go_wp2_with fail
    refine (CA.out w1 B1.out).mono ?_
    rintro e w2 ⟨rfl, b2⟩
    have B2 := Lib.hid (B1.out.trans (b2.mono B1.out.size))
    clear b2
    go_wp2_with fail
    go_ret
    exact ⟨rfl, B2.out⟩
  | false =>
    by_cases hm1 : 100 < nm
    · have hm2 : (100 : Int) < (nm : Int) := by omega
      go_wp2_with fail
      refine (CA.out w1 B1.out).mono ?_
      rintro e w2 ⟨rfl, b2⟩
      have B2 := Lib.hid (B1.out.trans (b2.mono B1.out.size))
      clear b2
      go_wp2_with fail
      go_ret
      exact ⟨rfl, B2.out⟩
    · have hm2 : ¬ (100 : Int) < (nm : Int) := by omega
      have HM1 := Lib.hid hm1
      clear hm1
      go_wp2_with fail
      refine (C27.out w1 _ fr B1.out (HF.out.keep B1.out)).mono ?_
      rintro e w2 ⟨b2, g1, Q1, rfl, k1, _, r1⟩
      rw [← HN.out] at k1 ⊢
      have B2 := Lib.hid (B1.out.trans (b2.mono B1.out.size))
      have K1 := Lib.hid k1
      have R1 := Lib.hid r1
      clear b2 k1 r1 hm2
      obtain ⟨w3, hw3⟩ : ∃ W, w2.alloc (.cells #[] 3) = W := ⟨_, rfl⟩
      have b3 : Below w2.heap.size w2 w3 := by rw [← hw3]; exact (Below.refl _ _).alloc (Nat.le_refl _) _
      have s3 : Sl w3 w2.heap.size 3 1 inC (.slice (some ⟨w2.heap.size, 0, none⟩) 0 0) [] := by rw [← hw3]; exact Sl.lit (base := w2.heap.size) (m := 1) (e := 3) (c := inC) w2 ([] : List Int) (fun _ => rfl) (Nat.le_refl _) (by decide)
      obtain ⟨sx, cx, w4, hr1, s4, g4⟩ := apps23 s3 ((HF.out.keep B2.out).keep b3) (by simp only [List.length_nil]; rw [← HNF.out]; omega) b3.size
      have b4 : Below w2.heap.size w2 w4 := b3.trans ((grown_only g4).below (fun r hr => by rw [Option.mem_toList] at hr; exact (s3.lt r hr).1) b3.size)
      rw [List.nil_append, ← HNF.out] at hr1 s4
      obtain ⟨sy, cy, w5, hr2, s5, g5⟩ := apps23 s4 ((HM.out.keep B2.out).keep b4) (by rw [← HNF.out, ← HNM.out]; have := HM1.out; omega) b4.size
      have b5 : Below w2.heap.size w2 w5 := b4.trans ((grown_only g5).below (fun r hr => by rw [Option.mem_toList] at hr; exact (s4.lt r hr).1) b4.size)
      obtain ⟨nb, hnb⟩ : ∃ q, q = (fr ++ mr).length := ⟨_, rfl⟩
      rw [← hnb] at hr2 s5
      have HR1 := Lib.hid hr1
      have HR2 := Lib.hid hr2
      have S5 := Lib.hid (s5.at in_len)
      have B5 := Lib.hid (B2.out.trans (b5.mono B2.out.size))
      have K5 := Lib.hid (K1.out.below b5 K1.out.lt)
      clear b3 s3 hr1 s4 g4 b4 hr2 s5 g5 b5 hnb K1
      go_upto_region 5 with (at_builtin; first | refine wpList_append_run rfl _ _ 23 23 rfl rfl rfl HR1.out ?_ | refine wpList_append_run rfl _ _ 23 23 rfl rfl rfl HR2.out ?_)
      clear HR1 HR2 hw3
      go_wp2_with fail
      refine (C27.out w5 _ (fr ++ mr) B5.out S5.out).mono ?_
      rintro e w6 ⟨b6, g2, Q2, rfl, k2, _, r2⟩
      rw [← HN.out] at k2 ⊢
      have B6 := Lib.hid (B5.out.trans (b6.mono B5.out.size))
      have K6 := Lib.hid (K5.out.below b6 K5.out.lt)
      have K2 := Lib.hid k2
      have R2 := Lib.hid r2
      clear b6 k2 r2 S5 K5
      go_wp2_with fail
      refine (C27.out w6 (.slice none 0 0) [] B6.out (.inl ⟨rfl, none, 0, rfl⟩)).mono ?_
      rintro e w7 ⟨b7, g3, Q3, rfl, k3, _, r3⟩
      rw [← HN.out] at k3 ⊢
      obtain ⟨m7, hm7⟩ : ∃ q, q = w7.heap.size := ⟨_, rfl⟩
      have B7 := Lib.hid (B6.out.trans (b7.mono B6.out.size))
      have KA := K6.out.below b7 K6.out.lt
      have KB := K2.out.below b7 K2.out.lt
      have hl1 := KA.lt
      have hl2 := KB.lt
      have hl3 := k3.lt
      have HK1 : Hid (∀ W, Below m7 w7 W → ∀ i, i < n → W.cell? ⟨g1, i, none⟩ = some (.bool (Q1 i))) := Lib.hid (fun W hW i hi => bools_cell (KA.below hW (by omega)) hi)
      have HK2 : Hid (∀ W, Below m7 w7 W → ∀ i, i < n → W.cell? ⟨g2, i, none⟩ = some (.bool (Q2 i))) := Lib.hid (fun W hW i hi => bools_cell (KB.below hW (by omega)) hi)
      have HK3 : Hid (∀ W, Below m7 w7 W → ∀ i, i < n → W.cell? ⟨g3, i, none⟩ = some (.bool false)) := Lib.hid (fun W hW i hi => by
        have hq : Q3 i = false := by
          cases e : Q3 i with
          | false => rfl
          | true => exact absurd ((r3 i).1 e) (Rch.none i)
        rw [← hq]
        exact bools_cell (k3.below hW (by omega)) hi)
      have HB7 : Hid (∀ W, Below m7 w7 W → Below w.heap.size w W) := Lib.hid (fun W hW => B7.out.trans (hW.mono (by rw [hm7]; exact B7.out.size)))
      have HM7 := Lib.hid hm7
      have BB := Lib.hid (Below.refl m7 w7)
      clear b7 k3 r3 KA KB hl1 hl2 hl3 K6 K2 B1 B2 B5 B6 B7 hm7
      go_wp2_with fail
      go_loopw [11] (fun z W => ∃ (i : Nat), i ≤ n ∧ z = .int .i64 (i : Int) ∧ Hid (Below m7 w7 W)) (fun z _ => n - (intOf z).toNat)
      case atStart => exact ⟨0, Nat.zero_le _, rfl, BB⟩
      case round =>
        obtain ⟨i, hi, rfl, HW⟩ := hrel
        clear BB
        by_cases hlt : i < n
        · have hlti : (i : Int) < (n : Int) := by omega
          have ck3 := HK3.out wr HW.out i hlt
          have ck1 := HK1.out wr HW.out i hlt
          have ck2 := HK2.out wr HW.out i hlt
          have hil : i < l.length := by rw [← HN.out]; exact hlt
          obtain ⟨q1, hq1⟩ : ∃ q, q = Q1 i := ⟨_, rfl⟩
          rw [← hq1] at ck1
          have HQ1 := Lib.hid hq1
          have CN := Lib.hid (C16.out wr i (HB7.out wr HW.out))
          have hgo : (q1 = true → Q2 i = true) := fun h => (R2.out i).2 (Rch.more (fun k hk => List.mem_append_left _ hk) i ((R1.out i).1 (by rw [← hq1]; exact h)))
          clear hq1
          cases q1 with
          | true =>
            rw [hgo rfl] at ck2
            clear hgo
            go_wp2_with fail
            refine CN.out.mono ?_
            rintro e w8 ⟨b8, v8, rfl, s8⟩
            obtain ⟨s8a, c8a, rfl⟩ := sl_form2 s8
            obtain ⟨nn, hnn⟩ : ∃ q, q = (nextF l i).length := ⟨_, rfl⟩
            have hnnb : nn ≤ 9223372036854775807 := by rw [hnn]; exact (s8.at in_len).len.1
            rw [← hnn] at s8 ⊢
            have HNN := Lib.hid hnn
            have HW8 := Lib.hid (HW.out.trans (b8.mono (by have := HW.out.size; have := HM7.out; omega)))
            have S8 := Lib.hid s8
            obtain ⟨z8, hz8⟩ : ∃ q, q = w8.heap.size := ⟨_, rfl⟩
            have HZ8 := Lib.hid hz8
            have BB8 := Lib.hid (Below.refl z8 w8)
            clear b8 s8 hnn CN HW hz8 ck1 ck2 ck3
            go_wp2_with fail
            go_loopw [13] (fun z W => ∃ (k : Nat), k ≤ nn ∧ z = .int .i64 (k : Int) ∧ Hid (Below z8 w8 W)) (fun z _ => nn - (intOf z).toNat)
            case atStart => exact ⟨0, Nat.zero_le _, rfl, BB8⟩
            case round =>
              obtain ⟨k, hk, rfl, HX⟩ := hrel
              clear BB8
              have HX7 : Hid (Below m7 w7 wr) := Lib.hid (HW8.out.trans (HX.out.mono (by have := HW8.out.size; have := HZ8.out; have := HM7.out; omega)))
              by_cases hkn : k < nn
              · have hkni : (k : Int) < (nn : Int) := by omega
                obtain ⟨g8, rfl⟩ : ∃ g, s8a = some ⟨g, 0, none⟩ := by
                  rcases S8.out.form with ⟨e, _⟩ | ⟨g, cap, e, _⟩
                  · simp only [Value.slice.injEq] at e
                    omega
                  · simp only [Value.slice.injEq] at e
                    exact ⟨g, e.1⟩
                have hkl : k < (nextF l i).length := by rw [← HNN.out]; exact hkn
                have S8W := S8.out.below HX.out (fun g hg => by rw [HZ8.out]; exact (S8.out.lt g hg).2)
                have ck := S8W.cell in_len k 0 hkl (by omega)
                obtain ⟨x, hx⟩ : ∃ x, x = (nextF l i)[k] := ⟨_, rfl⟩
                rw [← hx] at ck
                simp only [inC, List.getElem?_cons_zero, Nat.add_zero, Nat.mul_one] at ck
                have hxm : x ∈ nextF l i := by rw [hx]; exact List.getElem_mem _
                rw [mem_nextF l i hil] at hxm
                obtain ⟨⟨hx0, hx1⟩, hx2⟩ := hxm
                obtain ⟨j, rfl⟩ : ∃ j : Nat, x = j := ⟨x.toNat, by omega⟩
                have hjn : j < n := by rw [HN.out]; omega
                have hjni : (j : Int) < (n : Int) := by omega
                have cki := HK1.out wr HX7.out i hlt
                rw [← HQ1.out] at cki
                have ckj := HK1.out wr HX7.out j hjn
                rw [(R1.out j).2 (Rch.step i j hil ((R1.out i).1 HQ1.out.symm) (by rw [← HN.out]; exact hjn) hx2)] at ckj
                clear hx hx0 hx1 hx2 S8W
                go_wp2_with fail
                go_roundw
                case rel => exact ⟨k + 1, by omega, by go_num, HX⟩
                case measure => simp [intOf]; omega
              · have hkni : ¬ (k : Int) < (nn : Int) := by omega
                clear hkn
                go_wp2_with fail
                go_roundw
                case rel => exact ⟨i + 1, by omega, by go_num, HX7⟩
                case measure => simp [intOf]; omega
          | false =>
            clear hgo
            go_wp2_with fail
            refine CN.out.mono ?_
            rintro e w8 ⟨b8, v8, rfl, s8⟩
            obtain ⟨s8a, c8a, rfl⟩ := sl_form2 s8
            obtain ⟨nn, hnn⟩ : ∃ q, q = (nextF l i).length := ⟨_, rfl⟩
            have hnnb : nn ≤ 9223372036854775807 := by rw [hnn]; exact (s8.at in_len).len.1
            rw [← hnn] at s8 ⊢
            have HNN := Lib.hid hnn
            have HW8 := Lib.hid (HW.out.trans (b8.mono (by have := HW.out.size; have := HM7.out; omega)))
            have S8 := Lib.hid s8
            obtain ⟨z8, hz8⟩ : ∃ q, q = w8.heap.size := ⟨_, rfl⟩
            have HZ8 := Lib.hid hz8
            have BB8 := Lib.hid (Below.refl z8 w8)
            clear b8 s8 hnn CN HW hz8 ck1 ck2 ck3
            go_wp2_with fail
            go_loopw [13] (fun z W => ∃ (k : Nat), k ≤ nn ∧ z = .int .i64 (k : Int) ∧ Hid (Below z8 w8 W)) (fun z _ => nn - (intOf z).toNat)
            case atStart => exact ⟨0, Nat.zero_le _, rfl, BB8⟩
            case round =>
              obtain ⟨k, hk, rfl, HX⟩ := hrel
              clear BB8
              have HX7 : Hid (Below m7 w7 wr) := Lib.hid (HW8.out.trans (HX.out.mono (by have := HW8.out.size; have := HZ8.out; have := HM7.out; omega)))
              by_cases hkn : k < nn
              · have hkni : (k : Int) < (nn : Int) := by omega
                obtain ⟨g8, rfl⟩ : ∃ g, s8a = some ⟨g, 0, none⟩ := by
                  rcases S8.out.form with ⟨e, _⟩ | ⟨g, cap, e, _⟩
                  · simp only [Value.slice.injEq] at e
                    omega
                  · simp only [Value.slice.injEq] at e
                    exact ⟨g, e.1⟩
                have hkl : k < (nextF l i).length := by rw [← HNN.out]; exact hkn
                have S8W := S8.out.below HX.out (fun g hg => by rw [HZ8.out]; exact (S8.out.lt g hg).2)
                have ck := S8W.cell in_len k 0 hkl (by omega)
                obtain ⟨x, hx⟩ : ∃ x, x = (nextF l i)[k] := ⟨_, rfl⟩
                rw [← hx] at ck
                simp only [inC, List.getElem?_cons_zero, Nat.add_zero, Nat.mul_one] at ck
                have hxm : x ∈ nextF l i := by rw [hx]; exact List.getElem_mem _
                rw [mem_nextF l i hil] at hxm
                obtain ⟨⟨hx0, hx1⟩, hx2⟩ := hxm
                obtain ⟨j, rfl⟩ : ∃ j : Nat, x = j := ⟨x.toNat, by omega⟩
                have hjn : j < n := by rw [HN.out]; omega
                have hjni : (j : Int) < (n : Int) := by omega
                have cki := HK1.out wr HX7.out i hlt
                rw [← HQ1.out] at cki
                have ckj := HK1.out wr HX7.out j hjn
                clear hx hx0 hx1 hx2 S8W
                go_wp2_with fail
                go_roundw
                case rel => exact ⟨k + 1, by omega, by go_num, HX⟩
                case measure => simp [intOf]; omega
              · have hkni : ¬ (k : Int) < (nn : Int) := by omega
                clear hkn
                go_wp2_with fail
                go_roundw
                case rel => exact ⟨i + 1, by omega, by go_num, HX7⟩
                case measure => simp [intOf]; omega
        · have hlti : ¬ (i : Int) < (n : Int) := by omega
          obtain rfl : n = i := by omega
          clear hlt
          go_wp2_with fail
          go_loopw [14] (fun z W => ∃ (k : Nat), k ≤ nf ∧ z = .int .i64 (k : Int) ∧ Hid (Below m7 w7 W)) (fun z _ => nf - (intOf z).toNat)
          case atStart => exact ⟨0, Nat.zero_le _, rfl, HW⟩
          case round =>
            obtain ⟨k, hk, rfl, HX⟩ := hrel
            clear HW
            by_cases hkf : k < nf
            · have hkfi : (k : Int) < (nf : Int) := by omega
              obtain ⟨bf, of, rfl, hbf, hcf⟩ := HF.out.get (by rw [← HNF.out]; omega)
              have hkl : k < fr.length := by rw [← HNF.out]; exact hkf
              have c0 := hcf k 0 hkl (by omega)
              obtain ⟨x, hx⟩ : ∃ x, x = fr[k] := ⟨_, rfl⟩
              rw [← hx] at c0
              simp only [inC, List.getElem?_cons_zero, Nat.add_zero, Nat.mul_one] at c0
              have ck := ((HB7.out wr HX.out).cell (p := ⟨bf, _, none⟩) hbf).trans c0
              have hxm : x ∈ fr := by rw [hx]; exact List.getElem_mem _
              clear c0 hcf hx
              by_cases hx0 : 0 ≤ x
              · by_cases hxn : x < (n : Int)
                · obtain ⟨j, rfl⟩ : ∃ j : Nat, x = j := ⟨x.toNat, by omega⟩
                  have hjn : j < n := by omega
                  have ck1 := HK1.out wr HX.out j hjn
                  rw [(R1.out j).2 (Rch.entry j hxm (by rw [← HN.out]; exact hjn))] at ck1
                  clear hxm
                  go_wp2_with fail
                  go_roundw
                  case rel => exact ⟨k + 1, by omega, by go_num, HX⟩
                  case measure => simp [intOf]; omega
                · clear hxm
                  go_wp2_with fail
                  go_roundw
                  case rel => exact ⟨k + 1, by omega, by go_num, HX⟩
                  case measure => simp [intOf]; omega
              · clear hxm
                go_wp2_with fail
                go_roundw
                case rel => exact ⟨k + 1, by omega, by go_num, HX⟩
                case measure => simp [intOf]; omega
            · have hkfi : ¬ (k : Int) < (nf : Int) := by omega
              go_wp2_with fail
              refine (CA.out wr (HB7.out wr HX.out)).mono ?_
              rintro e w8 ⟨rfl, b8⟩
              have B8 := Lib.hid ((HB7.out wr HX.out).trans (b8.mono (HB7.out wr HX.out).size))
              clear b8
              go_wp2_with fail
              go_ret
              exact ⟨rfl, B8.out⟩
end Go.Proofs.YtekfnonjhcfdmaaDoor
