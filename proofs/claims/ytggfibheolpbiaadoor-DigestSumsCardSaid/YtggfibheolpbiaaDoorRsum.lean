/- The reference's Sum. -/
import Derived.Test.YtggfibheolpbiaaDoorRpad
namespace Go.Proofs.YtggfibheolpbiaaDoor
open Go.RowKit Go.Rt Go.Rw
attribute [local go_sem ↓] Go.wp_at_zero Go.wp_at_succ

theorem bytesN_app (a b : ByteArray) : bytesN (a ++ b) = bytesN a ++ bytesN b := by simp [bytesN]
theorem bytesN_to (L : List Nat) (h : ∀ x ∈ L, x < 256) : bytesN (toBytes L) = L := by
  unfold bytesN toBytes
  simp only [List.map_map]
  have : ∀ L : List Nat, (∀ x ∈ L, x < 256) → L.map (UInt8.toNat ∘ UInt8.ofNat) = L := by
    intro L
    induction L with
    | nil => intro _; rfl
    | cons a r ih =>
      intro h
      rw [List.map_cons, ih (fun x hx => h x (by simp [hx]))]
      congr 1
      simp only [Function.comp]
      rw [UInt8.toNat_ofNat', Nat.mod_eq_of_lt (h a (by simp))]
  exact this L h
def allB (b : ByteArray) : ByteArray := b ++ toBytes (padL b.size)
theorem allB_bytes (b : ByteArray) : bytesN (allB b) = allL b := by
  unfold allB allL
  rw [bytesN_app, bytesN_to _ (padL_lt _)]
theorem allB_size (b : ByteArray) : (allB b).size = 64 * manyN b := by rw [← bytesN_len, allB_bytes, all_len]
theorem padL_len (n : Nat) : (padL n).length ≤ 72 := by
  unfold padL
  have := zeros_lt n
  simp only [List.length_cons, List.length_append, List.length_replicate, be8N_len]
  omega
theorem allB_blk (b : ByteArray) (k : Nat) : bytesN ((allB b).extract (64 * k) (64 * k + 64)) = blkL (allL b) k := by
  rw [bytesN_extract, allB_bytes]
  unfold blkL
  congr 1
  omega
def outJ (x : Nat) : List Nat := [x / 16777216 % 256, x / 65536 % 256, x / 256 % 256, x % 256]
theorem out_next (s : S8) (j : Nat) (hj : j < 8) : (outF s).take (4 * (j + 1)) = (outF s).take (4 * j) ++ outJ (s.l.getD j 0) := by
  have g : ∀ i (hi : i < (outF s).length), (outF s)[i] = s.l.getD (i / 4) 0 / 2 ^ (24 - i % 4 * 8) % 256 := by intro i hi; simp [outF]
  have hl := outF_len s
  rw [show 4 * (j + 1) = 4 * j + 1 + 1 + 1 + 1 by omega]
  rw [List.take_succ_eq_append_getElem (by omega), List.take_succ_eq_append_getElem (by omega), List.take_succ_eq_append_getElem (by omega), List.take_succ_eq_append_getElem (by omega)]
  rw [g, g, g, g]
  rw [show 4 * j / 4 = j by omega, show (4 * j + 1) / 4 = j by omega, show (4 * j + 1 + 1) / 4 = j by omega, show (4 * j + 1 + 1 + 1) / 4 = j by omega]
  rw [show 4 * j % 4 = 0 by omega, show (4 * j + 1) % 4 = 1 by omega, show (4 * j + 1 + 1) % 4 = 2 by omega, show (4 * j + 1 + 1 + 1) % 4 = 3 by omega]
  simp [outJ]
theorem out_lt (s : S8) : ∀ x ∈ outF s, x < 256 := by
  intro x hx
  obtain ⟨i, _, rfl⟩ := List.mem_map.1 hx
  exact Nat.mod_lt _ (by omega)

theorem step_append_sl {ops : Array Oper} {o : Oper} {a : Act} {w : World} {K : Act → World → Prop} {Q : Exit → Act → World → Prop} {E : Prop} {base b cc m : Nat} {v : Value} {L M : List Nat} {e' : TypeId} {fr' : Nat × Nat}
    (hg : o.guard = none) (s x : Operand) (hop : o.op = Op.call { callee := Callee.builtin Builtin.append, args := #[s, x], argTypes := #[29, 29] })
    (hs : a.eval s = v) (hx : a.eval x = .slice (some ⟨b, 0, none⟩) m cc) (hsl : Sl w base 5 1 bc v L) (hM : M.length = m) (hb : w.heap[b]? = some (.cells (M.flatMap bc).toArray e' fr')) (h0 : 0 < m) (hl : L.length + m ≤ 1000000) (hbase : base ≤ w.heap.size)
    (hK : ∀ g' cap' W', Sl W' base 5 1 bc (.slice (some ⟨g', 0, none⟩) (L.length + m) cap') (L ++ M) → w.grownBy W' v.ownBlock → K (a.put o.dst (.slice (some ⟨g', 0, none⟩) (L.length + m) cap')) W') :
    if Region.wanted o (yielded ops a.tmps) = true then Oper.wp Tryd.prog o a w K Q else E := by
  subst hM
  obtain ⟨v', W', hrun, h1, h2, _⟩ := Sl.pushs (P := Tryd.prog) (t := 29) (ty := o.type) (b := b) (o := 0) hsl und29 info5 rfl (by omega) bc_len bc_one M (fun j u hj => by rw [Nat.zero_add, cell_at hb]; simpa using hj) (by omega) (by omega) hbase cc
  rcases h1.form with ⟨_, q⟩ | ⟨g, cap, q, _⟩
  · have := congrArg List.length q
    rw [List.length_append, List.length_nil] at this
    omega
  · rw [List.length_append] at q
    subst q
    have hw : Region.wanted o (yielded ops a.tmps) = true := by simp [Region.wanted, hg]
    rw [if_pos hw]
    unfold Oper.wp
    simp [execOp, hop, resolve, invoke, builtin, hs, hx, hrun, Result.andThen]
    exact hK _ _ _ h1 h2
theorem step_append_sl2 {ops : Array Oper} {o : Oper} {a : Act} {w : World} {K : Act → World → Prop} {Q : Exit → Act → World → Prop} {E : Prop} {w0 : World} {base cc m n : Nat} {v : Value} {L M : List Nat}
    (hg : o.guard = none) (s x : Operand) (hop : o.op = Op.call { callee := Callee.builtin Builtin.append, args := #[s, x], argTypes := #[29, 29] })
    (hs : a.eval s = v) (hx : a.eval x = .slice (some ⟨w0.heap.size, 0, none⟩) m cc) (hsl : Sl w0 base 5 1 bc v L) (hM : M.length = m) (hn : L.length = n) (hw : w.heap = (w0.alloc (.cells (M.flatMap bc).toArray 5)).heap) (ho : w.os = w0.os) (ht : w.tape = w0.tape) (hp : w.output = w0.output) (h0 : 0 < m) (hl : n + m ≤ 1000000) (hbase : base ≤ w0.heap.size)
    (hK : ∀ g' cap' W', Sl W' base 5 1 bc (.slice (some ⟨g', 0, none⟩) (n + m) cap') (L ++ M) → Only v.ownBlock.toList w0 W' → K (a.put o.dst (.slice (some ⟨g', 0, none⟩) (n + m) cap')) W') :
    if Region.wanted o (yielded ops a.tmps) = true then Oper.wp Tryd.prog o a w K Q else E := by
  subst hn
  refine step_append_sl (b := w0.heap.size) hg s x hop hs hx (hsl.same (by rw [hw]; simp) (fun g hg => by rw [hw]; exact Below.heap_alloc _ _ _ (hsl.lt g hg).2)) hM (by rw [hw]; exact World.alloc_heap_new w0 _) h0 hl (by rw [hw]; simp; omega) (fun g' cap' W' h1 h2 => hK g' cap' W' h1 ?_)
  have hz : w.heap.size = w0.heap.size + 1 := by rw [hw]; simp
  obtain ⟨a1, a2, a3, a4, a5⟩ := h2
  refine ⟨a1.trans ho, a2.trans ht, a3.trans hp, by omega, fun k hk hm => ?_⟩
  refine (a5 k (by omega) (fun q => hm (by first | (rw [q]; simp) | (rw [← q]; simp)))).trans ?_
  rw [hw]
  exact Below.heap_alloc _ _ _ hk
theorem l_ok {s : S8} (h : s.ok) (j : Nat) (hj : j < 8) : s.l.getD j 0 < 4294967296 := by
  obtain ⟨h1, h2, h3, h4, h5, h6, h7, h8⟩ := h
  have : j = 0 ∨ j = 1 ∨ j = 2 ∨ j = 3 ∨ j = 4 ∨ j = 5 ∨ j = 6 ∨ j = 7 := by omega
  rcases this with rfl | rfl | rfl | rfl | rfl | rfl | rfl | rfl <;> assumption
set_option maxRecDepth 100000 in
set_option maxHeartbeats 2000000 in
theorem rsum_any (b : ByteArray) (hb : b.size ≤ 100000) (w : World) :
    Calls Tryd.prog 17 #[.string b] w fun e w' => e = .returned (.string (toBytes (sumF b))) ∧ Below w.heap.size w w' := by
  have hpl := padL_len b.size
  have hps := toBytes_size (padL b.size)
  have has := allB_size b
  have HPD := Lib.hid (fun w => pad_any b.size (by omega) w)
  have HBK := Lib.hid (allB_blk b)
  obtain ⟨Pd, hPd⟩ : ∃ P, P = toBytes (padL b.size) := ⟨_, rfl⟩
  have hal : allB b = b ++ Pd := by rw [hPd]; rfl
  rw [← hPd] at hps HPD
  rw [hal] at has HBK
  have hsz : (b ++ Pd).size = b.size + Pd.size := ByteArray.size_append
  have hpz : Pd.size ≤ 72 := by omega
  obtain ⟨A, hA⟩ : ∃ A, A = b ++ Pd := ⟨_, rfl⟩
  rw [← hA] at has HBK hsz
  obtain ⟨M, hM⟩ : ∃ M, M = manyN b := ⟨_, rfl⟩
  rw [← hM] at has
  have HRES : Hid (sumF b = outF (stF b M)) := by refine Lib.hid ?_; rw [hM]; rfl
  have hM2 : M ≤ 2000 := by omega
  have HAA := Lib.hid hA
  clear hpl hps hal hM hPd hA
  go_enter Tryd.func17, Tryd.ntmps17
  go_wp2_with fail
  refine (HPD.out _).mono ?_
  rintro e w1 ⟨rfl, b1⟩
  have HB1 := Lib.hid b1
  clear b1
  go_wp2_with fail
  rw [← HAA.out]
  clear HAA
  refine (adds_any _).mono ?_
  rintro e w2 ⟨v, rfl, s2, b2⟩
  obtain ⟨_, sK, cK, rfl⟩ := (s2.at uc_len).len
  rw [KL_len] at s2 ⊢
  obtain ⟨gK, rfl⟩ : ∃ gK, sK = some ⟨gK, 0, none⟩ := by
    rcases s2.form with ⟨_, h0⟩ | ⟨g0, cap0, e, _⟩
    · have := KL_len; rw [h0] at this; simp at this
    · simp at e; exact ⟨g0, e.1⟩
  have HS2 := Lib.hid s2
  have HB2 := Lib.hid (HB1.out.trans (b2.mono HB1.out.size))
  clear s2 b2 HB1
  go_wp2_with fail
  refine (start_any _).mono ?_
  rintro e w3 ⟨rfl, b3⟩
  have hs3 : Sl w3 w1.heap.size 31 1 uc (.slice (some ⟨gK, 0, none⟩) 64 cK) KL := HS2.out.below b3 (fun g hg => (HS2.out.lt g hg).2)
  have HS3 := Lib.hid hs3
  have HB3 := Lib.hid (HB2.out.trans (b3.mono HB2.out.size))
  have hgk := (hs3.lt gK rfl).2
  clear b3 HS2 HB2 hs3
  obtain ⟨S0, hS0⟩ : ∃ S, S = startF := ⟨_, rfl⟩
  have HST : Hid (stF b 0 = S0) := Lib.hid hS0.symm
  rw [← hS0]
  clear hS0
  simp only []
  go_wp2_with (refine wpList_store_blk rfl 32 _ _ rfl rfl w3.heap.size _ _ 32 rfl rfl (Blk.new w3 32 ((List.replicate 8 0).map wv).toArray) rfl (i32l (l_len S0)) (one_map (fun _ => rfl) _) ?_
               intro w4 b4 o4
               have HB4 := Lib.hid b4
               have HO4 := Lib.hid o4
               clear b4 o4)
  have hz4 : w3.heap.size < w4.heap.size := HB4.out.lt
  have HBE : Hid (∀ W, Only [w3.heap.size] w4 W → Below w.heap.size w W ∧ SlAt W 1 uc (.slice (some ⟨gK, 0, none⟩) 64 cK) KL) := by
    refine Lib.hid fun W o => ?_
    have q : Only [w3.heap.size] (w3.alloc (.cells ((List.replicate 8 0).map wv).toArray 32)) W := HO4.out.trans o
    have q1 : Below w3.heap.size w3 W := ((Below.refl _ w3).alloc (Nat.le_refl _) _).trans (q.below (by simp) (by simp))
    refine ⟨HB3.out.trans (q1.mono HB3.out.size), ?_⟩
    exact (HS3.out.below q1 (fun g hg => (HS3.out.lt g hg).2)).at uc_len
  go_loopw [6] (fun i wr => ∃ k : Nat, k ≤ M ∧ i = .int .i64 ((64 * k : Nat) : Int) ∧ Blk wr w3.heap.size 32 ((stF b k).l.map wv).toArray ∧ Only [w3.heap.size] w4 wr) (fun i _ => 64 * M + 64 - (intOf i).toNat)
  case atStart => exact ⟨0, by omega, rfl, by rw [HST.out]; exact HB4.out, Only.refl _ _⟩
  case round =>
    obtain ⟨k, hk, rfl, mv, ov⟩ := hrel
    have hok := st_ok b k
    by_cases hlt : k < M
    · have hbk := HBK.out k
      have hnx : Hid (stF b (k + 1) = compF (stF b k) (blkL (allL b) k)) := Lib.hid rfl
      rw [← hbk] at hnx
      have hxs : (A.extract (64 * k) (64 * k + 64)).size = 64 := by rw [ByteArray.size_extract]; omega
      obtain ⟨B, hB⟩ : ∃ B, B = A.extract (64 * k) (64 * k + 64) := ⟨_, rfl⟩
      rw [← hB] at hnx hxs
      have HBB := Lib.hid hB
      obtain ⟨S, hS⟩ : ∃ S, S = stF b k := ⟨_, rfl⟩
      rw [← hS] at hok hnx mv
      clear hS hB hbk
      have HOK := Lib.hid hok
      have hcells := mv.cell
      have MV := Lib.hid mv
      have OV := Lib.hid ov
      clear mv ov hok
      obtain ⟨sa, sb, sc, sd, se, sf, sg, sh⟩ := S
      have s0 := hcells 0
      have s1 := hcells 1
      have s2 := hcells 2
      have s3 := hcells 3
      have s4 := hcells 4
      have s5 := hcells 5
      have s6 := hcells 6
      have s7 := hcells 7
      simp only [S8.l, List.map_cons, List.map_nil, List.getElem?_toArray, List.getElem?_cons_zero, List.getElem?_cons_succ] at s0 s1 s2 s3 s4 s5 s6 s7
      clear hcells
      have q1 : IntKind.i64.wrap (64 * (k : Int) + 64) = 64 * (k : Int) + 64 := IntWalk.i64_in _ (by omega)
      have q2 : 64 * (k : Int) + 64 ≤ (A.size : Int) := by omega
      have q3 : (64 * (k : Int)).toNat = 64 * k := by omega
      have q4 : (64 * (k : Int) + 64).toNat = 64 * k + 64 := by omega
      have q5 : 64 * (k : Int) ≤ 64 * (k : Int) + 64 := by omega
      have q6 : 0 ≤ 64 * (k : Int) := by omega
      go_upto_region 7 with fail
      go_still_tail 7, (by kernel_rfl)
      go_wp2_with fail
      rw [← HBB.out]
      obtain ⟨wq, hwq⟩ : ∃ wq, wq = wr.drew := ⟨_, rfl⟩
      rw [← hwq]
      have mq : Hid (Blk wq w3.heap.size 32 #[wv sa, wv sb, wv sc, wv sd, wv se, wv sf, wv sg, wv sh]) := by rw [hwq]; exact Lib.hid MV.out.drew
      have oq : Hid (Only [w3.heap.size] w4 wq) := by rw [hwq]; exact Lib.hid ⟨OV.out.os, OV.out.tape, OV.out.output, OV.out.size, OV.out.block⟩
      clear hwq MV OV s0 s1 s2 s3 s4 s5 s6 s7
      refine (rcomp_any ⟨sa, sb, sc, sd, se, sf, sg, sh⟩ HOK.out B hxs _ wq (HBE.out wq oq.out).2).mono ?_
      rintro e w5 ⟨rfl, b5⟩
      rw [← hnx.out]
      obtain ⟨SN, hSN⟩ : ∃ S, S = stF b (k + 1) := ⟨_, rfl⟩
      have HSN := Lib.hid hSN
      rw [← hSN]
      clear hSN
      have M5 := Lib.hid (mq.out.below b5 mq.out.lt)
      have O5 := Lib.hid (oq.out.trans (Only.of_below b5))
      clear b5
      simp only []
      go_wp2_with (refine wpList_store_blk rfl 32 _ _ rfl rfl w3.heap.size _ _ 32 rfl rfl M5.out rfl (i32l (l_len SN)) (one_map (fun _ => rfl) _) ?_
                   intro w6 b6 o6
                   have HB6 := Lib.hid b6
                   have HO6 := Lib.hid o6
                   clear b6 o6)
      go_roundw
      case rel => exact ⟨k + 1, by omega, by go_num, by rw [← HSN.out]; exact HB6.out, O5.out.trans HO6.out⟩
      case measure => simp [intOf]; omega
    · obtain rfl : k = M := by omega
      obtain ⟨S, hS⟩ : ∃ S, S = stF b k := ⟨_, rfl⟩
      rw [← hS] at mv hok HRES
      have hol := outF_len S
      have MV := Lib.hid mv
      have OV := Lib.hid ov
      have HBV := Lib.hid (HBE.out wr ov).1
      have hwz := mv.lt
      have hwz2 := (HBE.out wr ov).1.size
      have HOU := Lib.hid (out_next S)
      have HOL := Lib.hid (out_lt S)
      have HLO := Lib.hid (l_ok hok)
      clear hS mv ov
      have qn : ¬ 64 * (k : Int) + 64 ≤ (b.size : Int) + (Pd.size : Int) := by omega
      rw [show ((64 * k : Nat) : Int) = 64 * (k : Int) by omega]
      go_wp2_with fail
      go_loopw [7, 8] (fun s i wq => ∃ j : Nat, j ≤ 8 ∧ i = .int .i64 j ∧ Sl wq wr.heap.size 5 1 bc s ((outF S).take (4 * j)) ∧ Below wr.heap.size wr wq) (fun _ i _ => 8 - (intOf i).toNat)
      case atStart => exact ⟨0, by omega, rfl, Sl.nil _ _ _ _ _, Below.refl _ _⟩
      case round =>
        obtain ⟨j, hj, rfl, s1, b1⟩ := hrel
        have hkl : ((outF S).take (4 * j)).length = 4 * j := by rw [List.length_take, hol]; omega
        obtain ⟨_, sb, cb, rfl⟩ := (s1.at bc_len).len
        rw [hkl] at s1 ⊢
        by_cases hj8 : j < 8
        · have c0 := (MV.out.below b1 hwz).cell j
          rw [map_get _ _ (by rw [l_len]; exact hj8)] at c0
          have hou := HOU.out j hj8
          have hx : S.l[j]'(by rw [l_len]; exact hj8) = S.l.getD j 0 := by rw [List.getD_eq_getElem?_getD, List.getElem?_eq_getElem (by rw [l_len]; exact hj8)]; rfl
          rw [hx] at c0
          obtain ⟨x, hxx⟩ : ∃ x, x = S.l.getD j 0 := ⟨_, rfl⟩
          rw [← hxx] at c0 hou
          have hx32 : x < 4294967296 := by rw [hxx]; exact HLO.out j hj8
          clear hx hxx
          obtain ⟨y0, hy0⟩ : ∃ y, y = x / 16777216 % 256 := ⟨_, rfl⟩
          obtain ⟨y1, hy1⟩ : ∃ y, y = x / 65536 % 256 := ⟨_, rfl⟩
          obtain ⟨y2, hy2⟩ : ∃ y, y = x / 256 % 256 := ⟨_, rfl⟩
          obtain ⟨y3, hy3⟩ : ∃ y, y = x % 256 := ⟨_, rfl⟩
          have hoj : outJ x = [y0, y1, y2, y3] := by rw [outJ, hy0, hy1, hy2, hy3]
          have z0 : IntKind.u8.wrap ((x : Int) / 16777216) = (y0 : Int) := by rw [IntKind.wrap_u8']; omega
          have z1 : IntKind.u8.wrap ((x : Int) / 65536) = (y1 : Int) := by rw [IntKind.wrap_u8']; omega
          have z2 : IntKind.u8.wrap ((x : Int) / 256) = (y2 : Int) := by rw [IntKind.wrap_u8']; omega
          have z3 : IntKind.u8.wrap (x : Int) = (y3 : Int) := by rw [IntKind.wrap_u8']; omega
          have k0 : (0 : Int) ≤ (j : Int) := by omega
          have k1 : (j : Int) < 8 := by omega
          rw [hoj, show 4 * (j + 1) = 4 * j + 4 by omega] at hou
          have HOO := Lib.hid hou
          have HS1 := Lib.hid s1
          have HB1 := Lib.hid b1
          clear hy0 hy1 hy2 hy3 hoj hou s1 b1
          go_upto_region 12 with fail
          have hz := HB1.out.size
          go_region_held3 (fun w' => w'.cell? ⟨w3.heap.size, j, none⟩ = some (wv x)) (go_keep) ((refine step_append_sl2 (w0 := wr) (m := 4) (n := 4 * j) (M := [y0, y1, y2, y3]) (by rfl) _ _ (by rfl) (by rfl) (by rfl) HS1.out rfl hkl (by rfl) (by rfl) (by rfl) (by rfl) (by omega) (by omega) hz ?_; intro g2 cap2 W2 s2 o2; have k2 : W2.cell? ⟨w3.heap.size, j, none⟩ = some (wv x) := (World.cell?_of_block (a := ⟨w3.heap.size, j, none⟩) (o2.block w3.heap.size (by omega) (by intro hm; have := HS1.out.lt w3.heap.size (by simpa using hm); omega))).trans c0))
          go_wp2_with fail
          go_roundw
          case rel => exact ⟨j + 1, by omega, by go_num, by rw [show 4 * (j + 1) = 4 * j + 4 by omega, HOO.out]; exact s2, HB1.out.trans (o2.below (fun r hr => (HS1.out.lt r (by simpa using hr)).1) hz)⟩
          case measure => simp [intOf]; omega
        · obtain rfl : j = 8 := by omega
          rw [List.take_of_length_le (by rw [hol]; omega)] at s1
          have hcv := slb_conv s1 HOL.out
          have HB := Lib.hid (HBV.out.trans (b1.mono HBV.out.size))
          clear s1 b1
          go_wp2_with fail
          go_ret
          exact ⟨by rw [HRES.out]; rfl, HB.out⟩
end Go.Proofs.YtggfibheolpbiaaDoor
