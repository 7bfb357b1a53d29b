/- digest.Sum. -/
import Derived.Test.YtnkkbkceapcahaaDoorIter
import Derived.Test.YtnkkbkceapcahaaDoorComp
namespace Go.Rw
open Go Go.RowKit Go.Rt
theorem wpListIn_store_run {F : Fence} {n : Nat} {P : Program} {w w' : World} {ops : Array Oper} {rest : List Oper} {o : Oper} {a : Act} {Q : Exit → Act → World → Prop} {v1 v2 : Value}
    (hg : o.guard = none) (ty : TypeId) (x y : Operand) (hop : o.op = Op.store ty x y) (hdst : o.dst = none) (hx : a.eval x = v1) (hy : a.eval y = v2) (hrun : (Instr.storeAt ty v1 v2).run P w = .ok () w') (hK : wpListIn F n P ops Q rest a w') :
    wpListIn F n P ops Q (o :: rest) a w := by
  refine wpListIn_plain hg fun K hK' => ?_
  unfold Oper.wpIn
  refine ⟨?_, ?_⟩
  · simp [Oper.about, hop]
  · rw [Oper.semAt_plain F _ _ (by rw [hop]; intro c hc'; cases hc')]
    simp [execOp, hop, hx, hy, hrun, Result.andThen]
    have e : a.put o.dst undef = a := by rw [hdst]; rfl
    have := hK' _ _ hK
    simpa [Oper.uponIn, e] using this
end Go.Rw
namespace Go.Proofs.YtnkkbkceapcahaaDoor
open Go.RowKit Go.Shelf Go.Rt Go.Rw
attribute [local go_sem] Oper.semAt_some

theorem load_blk {P : Program} {w : World} {b : Nat} {ty t : TypeId} {cs : Array Value} {d : TypeDesc} (hc : Blk w b t cs) (hu : P.underlying ty = some d) (hd : d.isRow = true) (hi : (P.info? ty).map (·.size) = some cs.size) :
    (Instr.loadAt ty (.pointer (some ⟨b, 0, none⟩))).run P w = .ok (.agg cs) w := by
  have := run_loadAt_mid (P := P) w b 0 ty cs.toList d hc.range hu hd (by simpa using hi)
  simpa using this
theorem store_blk {P : Program} {w : World} {b : Nat} {ty t : TypeId} {cs cells : Array Value} (hc : Blk w b t cs) (hs : cells.size = cs.size) (hi : (P.info? ty).map (·.size) = some cells.size) (h1 : cells.all (·.oneCell') = true) :
    ∃ w', (Instr.storeAt ty (.pointer (some ⟨b, 0, none⟩)) (.agg cells)).run P w = .ok () w' ∧ Blk w' b t cells ∧ Only [b] w w' :=
  ⟨_, run_storeAt_mid (P := P) w b 0 ty cells (by rw [hs]; exact hc.there) hi h1, by simpa using hc.setCells cells.toList (by simpa using hs), only_setCells b _ 0 w⟩

/-- The state behind k blocks. -/
def stF (b : ByteArray) : Nat → S8
  | 0 => startF
  | k + 1 => compF (stF b k) (blkL (allL b) k)
theorem start_ok : startF.ok := by unfold S8.ok startF; decide
theorem st_ok (b : ByteArray) (k : Nat) : (stF b k).ok := by
  cases k with
  | zero => exact start_ok
  | succ k => exact comp_ok _ _
def outF (s : S8) : List Nat := (List.range 32).map fun i => s.l.getD (i / 4) 0 / 2 ^ (24 - i % 4 * 8) % 256
def outK (s : S8) (i : Nat) : List Nat := (outF s).take i ++ List.replicate (32 - i) 0
theorem outF_len (s : S8) : (outF s).length = 32 := by simp [outF]
theorem outK_set (s : S8) (i : Nat) (hi : i < 32) : (outK s i).set i (s.l.getD (i / 4) 0 / 2 ^ (24 - i % 4 * 8) % 256) = outK s (i + 1) := by
  unfold outK
  rw [List.set_append_right _ _ (by simp [outF_len]; omega), List.take_succ_eq_append_getElem (by rw [outF_len]; exact hi), List.append_assoc]
  congr 1
  rw [show 32 - i = (32 - (i + 1)) + 1 by omega, List.replicate_succ]
  have : i - ((outF s).take i).length = 0 := by rw [List.length_take, outF_len]; omega
  rw [this]
  simp [outF]
theorem outK_end (s : S8) : outK s 32 = outF s := by
  unfold outK
  rw [List.take_of_length_le (by rw [outF_len]; omega)]
  simp
def sumF (b : ByteArray) : List Nat := outF (stF b (manyN b))
def toBytes (l : List Nat) : ByteArray := ⟨(l.map UInt8.ofNat).toArray⟩
theorem l_size (s : S8) : ((s.l.map wv).toArray).size = 8 := rfl
theorem i32s {s : S8} : (Tryd.prog.info? 101).map (·.size) = some ((s.l.map wv).toArray).size := by
  have : (Tryd.prog.info? 101).map (·.size) = some 8 := by kernel_rfl
  rw [this]; rfl

/-- blocks(b). -/
theorem blocks_in (F : Fence) (n : Nat) (h19 : F.fn 76) (hro : F.round = none) (b : ByteArray) (w : World) :
    CallsIn F n Tryd.prog 76 #[.string b] w fun e w' => e = .returned (.func (.func 79) #[] #[.pointer (some ⟨w.heap.size, 0, none⟩)]) ∧ w' = w.alloc (.cells #[.string b] 9) := by
  refine callsIn_of_wp Tryd.func76 rfl h19 ?_ hro
  simp only [Tryd.ntmps76, List.size_toArray, List.length_cons, List.length_nil, Nat.reduceAdd, Nat.reduceSub, Array.replicate_succ, Array.replicate_zero, List.push_toArray, List.append_toArray, List.nil_append, List.cons_append]
  gi_wp2
  go_ret
  exact ⟨rfl, rfl⟩

def SumI (w : World) (Bs : Nat) (b : ByteArray) (k : Nat) (T : List Nat) (W : World) : Prop :=
  Blk W Bs 101 ((stF b k).l.map wv).toArray ∧ Bs ∉ T ∧ Below w.heap.size w W ∧ (∀ r ∈ T, w.heap.size ≤ r) ∧ w.heap.size ≤ Bs
def SumA (w : World) (b : ByteArray) (Bp k : Nat) : Act := ⟨#[.string b, undef, .string ⟨#[]⟩, .pointer (some ⟨w.heap.size, 0, none⟩), .pointer (some ⟨Bp, 0, none⟩), undef, undef, .agg #[wv 1779033703, wv 3144134277, wv 1013904242, wv 2773480762, wv 1359893119, wv 2600822924, wv 528734635, wv 1541459225], .string b, .func (.func 79) #[] #[.pointer (some ⟨w.heap.size + 1, 0, none⟩)], .agg ((blkL (allL b) k).map bv).toArray, undef, undef, undef, undef, undef, undef, undef, undef, undef, undef, undef, undef, undef, undef, undef, undef, undef, undef, undef, undef, undef], []⟩
def SumJ (w : World) (b : ByteArray) (a' : Act) (k : Nat) (T : List Nat) (W : World) : Prop :=
  ∃ Bp, a' = SumA w b Bp k ∧ Blk W Bp 110 ((blkL (allL b) k).map bv).toArray ∧ Bp ∉ T ∧ w.heap.size < Bp ∧ SumI w w.heap.size b k T W
theorem blk_more {W : World} {B : Nat} {t : TypeId} {cs : Array Value} (h : Blk W B t cs) {T T' : List Nat} (ho : B ∉ T) (hT : ∀ r ∈ T', r ∈ T ∨ W.heap.size ≤ r) : B ∉ T' := by
  intro hm
  have := h.lt
  rcases hT B hm with q | q
  · exact ho q
  · omega
theorem sumI_abides (w : World) (Bs : Nat) (b : ByteArray) : Rt.Abides (SumI w Bs b) := by
  rintro k T A T' B ⟨h1, h2, h3, h4, h5⟩ ho hT hlt
  have hz := h3.size
  exact ⟨h1.only ho h2, blk_more h1 h2 hT, h3.trans (ho.below h4 hz), fun r hr => (hT r hr).elim (h4 r) (fun q => by omega), h5⟩

theorem sumJ_abides (w : World) (b : ByteArray) (a' : Act) : Rt.Abides (SumJ w b a') := by
  rintro k T A T' B ⟨Bp, h1, h2, h3, h4, h5⟩ ho hT hlt
  exact ⟨Bp, h1, h2.only ho h3, blk_more h2 h3 hT, h4, sumI_abides w w.heap.size b k T A T' B h5 ho hT hlt⟩
theorem only_not {bs T : List Nat} {A B : World} (h : Only bs A B) (hb : ∀ r ∈ T, r ∉ bs) (hT : ∀ r ∈ T, r < A.heap.size) : KeepsT T A B := KeepsT.of_only h hb hT

set_option maxRecDepth 100000 in
set_option maxHeartbeats 2000000 in
theorem sum_any (b : ByteArray) (hb : b.size ≤ 100000) (w : World) (ht : Tabs w) :
    Calls Tryd.prog 73 #[.string b] w fun e w' => e = .returned (.string (toBytes (sumF b))) ∧ Below w.heap.size w w' := by
  refine (callsIn_wide (n := 4)).1 ?_
  refine callsIn_of_wp_marks Tryd.func73 rfl trivial ?_ rfl
  simp only [Tryd.ntmps73, List.size_toArray, List.length_cons, List.length_nil, Nat.reduceAdd, Nat.reduceSub, Array.replicate_succ, Array.replicate_zero, List.push_toArray, List.append_toArray, List.nil_append, List.cons_append]
  have s0 := ht.st 0 (by omega)
  have s1 := ht.st 1 (by omega)
  have s2 := ht.st 2 (by omega)
  have s3 := ht.st 3 (by omega)
  have s4 := ht.st 4 (by omega)
  have s5 := ht.st 5 (by omega)
  have s6 := ht.st 6 (by omega)
  have s7 := ht.st 7 (by omega)
  simp only [S8.l, startF, List.getD_cons_zero, List.getD_cons_succ] at s0 s1 s2 s3 s4 s5 s6 s7
  have HT := Lib.hid ht
  clear ht
  gi_wp2_with (refine ⟨trivial, ?_⟩; gi_at_call 76; refine (blocks_in Fence.wide _ trivial rfl _ _).mono ?_; rintro e w' ⟨rfl, rfl⟩)
  clear s0 s1 s2 s3 s4 s5 s6 s7
  obtain ⟨W0, hW0⟩ : ∃ W0, (w.alloc (.cells (startF.l.map wv).toArray 101)).alloc (.cells #[.string b] 9) = W0 := ⟨_, rfl⟩
  have bS : Blk W0 w.heap.size 101 (startF.l.map wv).toArray := by rw [← hW0]; exact (Blk.new w 101 _).alloc _
  have bB : Boxed W0 (w.heap.size + 1) 9 (.string b) := by
    rw [← hW0]; have := Boxed.new (w.alloc (.cells (startF.l.map wv).toArray 101)) 9 (.string b); rw [World.size_alloc] at this; exact this
  have hB0 : Below w.heap.size w W0 := by rw [← hW0]; exact ((Below.refl _ w).alloc (Nat.le_refl _) _).alloc (by simp) _
  have hsz : W0.heap.size = w.heap.size + 2 := by rw [← hW0]; simp
  have hW1 : (w.alloc (.cells #[.int .u32 1779033703, .int .u32 3144134277, .int .u32 1013904242, .int .u32 2773480762, .int .u32 1359893119, .int .u32 2600822924, .int .u32 528734635, .int .u32 1541459225] 101)).alloc (.cells #[.string b] 9) = W0 := hW0
  rw [hW1]
  clear hW0 hW1
  refine wpIn_rangeFunc_TB (F := Fence.wide) (n := 4) rfl (by omega) (gf := 79) (lb := #[.pointer (some ⟨w.heap.size + 1, 0, none⟩)]) rfl trivial (enters_of Tryd.func79 (by kernel_rfl) rfl)
    (blocks1_runs Fence.wide 3 trivial rfl (by omega) (w.heap.size + 1) b hb) ?pre ?lt (fun _ => rfl) (SumI w w.heap.size b) (fun _ _ _ _ => False) (sumI_abides w w.heap.size b) ?abx ?start
    (SumJ w b) (sumJ_abides w b) ?assign ?body ?done ?stop
  case pre => intro W hW; exact (hW.block _ bB.lt).trans bB
  case lt => intro r hr; simp only [List.mem_singleton] at hr; subst hr; exact bB.lt
  case abx => intro c k T A T' B h; exact h.elim
  case start => exact ⟨bS, by simp, hB0, by intro r hr; simp only [List.mem_singleton] at hr; omega, Nat.le_refl _⟩
  case assign =>
    intro l k hk T W K hI hTl hK
    rw [blocks_len] at hk
    obtain ⟨W2, hrun, b2, o2⟩ := store_blk (P := Tryd.prog) (ty := 110) (cells := ((blkL (allL b) k).map bv).toArray) (Blk.new W 110 (List.replicate 64 (bv 0)).toArray) (by simp [blk_len b k hk]) (i37 (blk_len b k hk)) (one_map (fun _ => rfl) _)
    have HRN := Lib.hid hrun
    have fin : KeepsT T W W2 ∧ SumJ w b (SumA w b W.heap.size k) k T W2 := by
      obtain ⟨h1, h2, h3, h4, h5⟩ := hI
      have hn : W.heap.size ∉ T := fun hm => by have := hTl _ hm; omega
      have oo : Only [W.heap.size] W W2 := (Only.alloc _ _ _).trans o2
      have hlt := h1.lt
      refine ⟨KeepsT.of_only oo (fun r hr => by have := hTl r hr; simp; omega) hTl, W.heap.size, rfl, b2, hn, by omega, h1.only oo (by simp; omega), h2, h3.trans (oo.below (by simp; exact h3.size) h3.size), h4, h5⟩
    have HK := Lib.hid (hK _ W2 fin.1 fin.2)
    clear hK fin hrun b2 o2 hI
    simp only [blocks_get]
    gi_wp2_with (refine wpListIn_store_run rfl 110 _ _ rfl rfl rfl rfl HRN.out ?_)
    exact HK.out
  case body =>
    rintro l k hk T a' W ⟨Bp, rfl, bp, hn, hlt, h1, h2, h3, h4, h5⟩ hTl
    rw [blocks_len] at hk
    unfold SumA
    have ld1 := Lib.hid (load_blk (P := Tryd.prog) h1 Tryd.underlying101 rfl i32s)
    have ld2 := Lib.hid (load_blk (P := Tryd.prog) bp Tryd.underlying110 rfl (i37 (blk_len b k hk)))
    have hc := Lib.hid (compress_any (stF b k) (blkL (allL b) k) (st_ok b k) (blk_len b k hk) (blk_lt b k) W (HT.out.below h3 HT.out.two))
    have H1 := Lib.hid h1
    have H3 := Lib.hid h3
    have H4 := Lib.hid h4
    clear bp hn h1 h3 h4
    gi_wp2_with (first
      | (refine wpListIn_load_run rfl 101 _ rfl rfl ld1.out ?_)
      | (refine wpListIn_load_run rfl 110 _ rfl rfl ld2.out ?_))
    refine ⟨trivial, ?_⟩
    refine (CallsIn.inRound l ((callsIn_wide (n := 1)).2 hc.out)).mono ?_
    rintro e w2 ⟨rfl, b2⟩
    have hBs := H1.out.lt
    obtain ⟨W3, hrun3, b3, o3⟩ := store_blk (P := Tryd.prog) (ty := 101) (cells := ((stF b (k + 1)).l.map wv).toArray) (H1.out.below b2 hBs) (by rw [l_size, l_size]) i32s (one_map (fun _ => rfl) _)
    have HRN := Lib.hid hrun3
    have fin : KeepsT T W W3 ∧ SumI w w.heap.size b (k + 1) T W3 := by
      have oo : Only [w.heap.size] W W3 := (Only.of_below b2).trans o3
      refine ⟨KeepsT.of_only oo (fun r hr hm => ?_) hTl, b3, h2, H3.out.trans (oo.below (by simp) H3.out.size), H4.out, Nat.le_refl _⟩
      simp only [List.mem_singleton] at hm
      subst hm
      exact h2 hr
    have FIN := Lib.hid fin
    clear fin hrun3 b3 o3 b2
    gi_wp2_with (refine wpListIn_store_run rfl 101 _ _ rfl rfl rfl rfl HRN.out ?_)
    exact FIN.out
  case done =>
    rintro D T W hD hTl ⟨h1, h2, h3, h4, h5⟩ hK
    rw [blocks_len] at h1
    obtain ⟨S, hS⟩ : ∃ S, S = stF b (manyN b) := ⟨_, rfl⟩
    rw [← hS] at h1
    have HS := Lib.hid hS
    have H1 := Lib.hid h1
    have H3 := Lib.hid h3
    have HK := Lib.hid hK
    have hDl := hTl D hD
    have hBl := h1.lt
    have hDb := h4 D hD
    have h4' := Lib.hid h4
    clear hS h1 h3 hK h4 h5
    gi_wp2
    gi_loopw [14] (fun x wr => ∃ i : Nat, i ≤ 32 ∧ x = .int .i64 i ∧ Blk wr W.heap.size 116 ((outK S i).map bv).toArray ∧ Only [W.heap.size] W wr) (fun s _ => 32 - (intOf s).toNat)
    case atStart =>
      refine ⟨0, by omega, rfl, ?_, Only.alloc _ _ _⟩
      exact Blk.new W 116 ((outK S 0).map bv).toArray
    case round =>
      obtain ⟨i, hi, rfl, b1, o1⟩ := hrel
      by_cases hlt : i < 32
      · have hst : Blk wr w.heap.size 101 (S.l.map wv).toArray := H1.out.only o1 (by simp; omega)
        have hSl : S.l.length = 8 := rfl
        have c1 := hst.cell (i / 4)
        rw [map_get _ _ (by rw [hSl]; omega)] at c1
        have hx : S.l[i / 4]'(by rw [hSl]; omega) = S.l.getD (i / 4) 0 := by rw [List.getD_eq_getElem?_getD, List.getElem?_eq_getElem (by rw [hSl]; omega)]; rfl
        rw [hx] at c1
        obtain ⟨x, hxe⟩ : ∃ x, x = S.l.getD (i / 4) 0 := ⟨_, rfl⟩
        rw [← hxe] at c1
        have HX := Lib.hid hxe
        have c2 : wr.cell? ⟨W.heap.size, i, none⟩ = some (bv 0) := by
          refine (b1.cell i).trans ?_
          rw [map_get _ _ (by simp [outK, outF]; omega)]
          unfold outK
          rw [List.getElem_append_right (by simp [outF]; omega)]
          simp
        have f2 := b1.frozen i
        have HB1 := Lib.hid b1
        have HO1 := Lib.hid o1
        clear b1 o1 hst hx hxe hSl
        have r0 : 0 ≤ (i : Int) / 4 := by omega
        have r1 : (i : Int) / 4 < 8 := by omega
        have r2 : ((i : Int) / 4).toNat = i / 4 := by omega
        have r3 : (0 : Int) ≤ (i : Int) := by omega
        have r4 : (i : Int) < 32 := by omega
        have r5 : 0 ≤ 24 - (i : Int) % 4 * 8 := by omega
        have r6 : (i : Int) % 4 * 8 ≤ 24 := by omega
        have r7 : (24 - (i : Int) % 4 * 8).toNat = 24 - i % 4 * 8 := by omega
        gi_wp2
        go_roundw
        case rel =>
          have ev : Value.int .u8 ((x : Int) / 2 ^ (24 - i % 4 * 8) % 256) = bv (x / 2 ^ (24 - i % 4 * 8) % 256) := by
            unfold bv
            rw [Int.natCast_emod, Int.natCast_ediv, Int.natCast_pow]
            rfl
          rw [ev]
          have q := HB1.out.set_ i (bv (x / 2 ^ (24 - i % 4 * 8) % 256))
          rw [map_set, HX.out, outK_set S i hlt] at q
          rw [HX.out]
          exact ⟨i + 1, by omega, by go_num, q, HO1.out.trans (Only.setCell _ _ _ (by simp))⟩
        case measure => simp [intOf]; omega
      · obtain rfl : i = 32 := by omega
        rw [outK_end] at b1
        have hcv : (convert 81 9 (.slice (some ⟨W.heap.size, 0, none⟩) 32 32)).run Tryd.prog wr = .ok (.string (toBytes (outF S))) wr := by
          have hl : ((outF S).map UInt8.ofNat).length = 32 := by rw [List.length_map, outF_len]
          have q := run_convert_bytes_back (P := Tryd.prog) wr 81 9 5 ⟨W.heap.size, 0, none⟩ 32 ((outF S).map UInt8.ofNat) und29 und5 und9 ?_
          · rw [hl] at q; exact q
          · intro j hj
            rw [hl] at hj
            have e : (⟨W.heap.size, 0, none⟩ : Addr).add j = ⟨W.heap.size, j, none⟩ := by unfold Addr.add; split <;> simp_all
            rw [e, b1.cell j, map_get _ _ (by rw [outF_len]; exact hj), List.getElem_map]
            have hlt : (outF S)[j]'(by rw [outF_len]; exact hj) < 256 := by simp only [outF, List.getElem_map]; exact Nat.mod_lt _ (by omega)
            rw [UInt8.toNat_ofNat', Nat.mod_eq_of_lt hlt]
        have HCV := Lib.hid hcv
        have HO1 := Lib.hid o1
        clear b1 hcv o1
        gi_wp2_with (refine wpListIn_conv_run rfl 81 9 _ rfl rfl HCV.out ?_)
        have hKr : wr.heap[D]? = some (.deferred (some [])) := (HO1.out.block D hDl (by simp; omega)).trans HK.out
        refine ⟨by simp, .inl ⟨_, _, rfl, run_takeDeferred hKr, ?_⟩⟩
        refine ⟨_, results_tmp rfl _ _ _, ?_, ?_⟩
        · rw [HS.out]; rfl
        · exact (H3.out.trans (HO1.out.below (by simp; omega) (by omega))).trans ((Only.putObj (bs := T) _ _ _ hD).below h4'.out (by have := HO1.out.size; omega))
  case stop =>
    rintro D T c k W _ _ _ h _
    exact h.elim
end Go.Proofs.YtnkkbkceapcahaaDoor
