/- append(v, many...): the run, for an owned slice as a list. No condition beyond the premises. The reference's Padding and Xor. The reference's Sum. -/
import Derived.Test.YtnkkbkceapcahaaDoorLists
import Derived.Maps.AppendAt
import Derived.Test.YtnkkbkceapcahaaDoorRcomp1
import Derived.Test.YtnkkbkceapcahaaDoorMac1
import Derived.Lib.BufferRead
namespace Go.Rw
open Go Go.RowKit Go.Rt
variable {α : Type} {w : World} {base e m : Nat} {c : α → List Value} {v : Value} {L : List α}
theorem Sl.pushs {P : Program} {t ty : TypeId} {z : Value} {bytes b o : Nat} (h : Sl w base e m c v L) (hu : P.underlying t = some (.slice e)) (hi : (P.info? e).map (fun i => (i.zero, i.size, i.bytes)) = some (some z, m, bytes))
    (hz : z.cells.size = m) (hm : 0 < m) (hc : ∀ a, (c a).length = m) (h1 : ∀ a, ∀ u ∈ c a, u.oneCell' = true) (M : List α) (hb : ∀ j u, (M.flatMap c)[j]? = some u → w.cell? ⟨b, o + j, none⟩ = some u)
    (hl : L.length + M.length ≤ 1000000000000) (hby : (L.length + M.length) * bytes ≤ 140737488355328) (hbase : base ≤ w.heap.size) (cc : Nat) :
    ∃ (v' : Value) (W2 : World), (Builtin.append_ #[t, t] ty #[v, .slice (some ⟨b, o, none⟩) M.length cc]).run P w = .ok v' W2 ∧ Sl W2 base e m c v' (L ++ M) ∧ w.grownBy W2 v.ownBlock ∧ (v'.ownBlock = v.ownBlock ∨ v'.ownBlock = some w.heap.size) := by
  obtain ⟨i0, hi0, hz0, hz1, hz2⟩ := info_parts hi
  obtain ⟨v', W2, hrun, hown, hgrow, _, hwh⟩ := run_append_own_at (P := P) w base t ty e i0 z m bytes hu hi0 hz0 hz1 hz2 hz hm v L.length (L.flatMap c) h ⟨b, o, none⟩ M.length cc (M.flatMap c) (flat_len hc M)
    (fun j u hj => by rw [add_none]; exact hb j u hj) (fun u hu => by obtain ⟨a, _, ha⟩ := List.mem_flatMap.1 hu; exact h1 a u ha) (by unfold maxLen; omega) hby hbase
  refine ⟨v', W2, hrun, ?_, hgrow, hwh⟩
  unfold Sl
  rw [List.flatMap_append, List.length_append]
  exact hown
end Go.Rw
namespace Go.Proofs.YtnkkbkceapcahaaDoor
open Go.RowKit Go.Rt Go.Rw

def bc (n : Nat) : List Value := [bv n]
theorem bc_len (n : Nat) : (bc n).length = 1 := rfl
theorem bc_one (n : Nat) : ∀ u ∈ bc n, u.oneCell' = true := by simp [bc, Value.oneCell']
theorem bc_flat (L : List Nat) : L.flatMap bc = L.map bv := by
  induction L with
  | nil => rfl
  | cons a r ih => simp [bc, ih]
/-- string(v) of an owned row of bytes. -/
theorem slb_conv {W : World} {base : Nat} {v : Value} {L : List Nat} (h : Sl W base 5 1 bc v L) (hL : ∀ x ∈ L, x < 256) : (convert 81 9 v).run Tryd.prog W = .ok (.string (toBytes L)) W := by
  rcases h.form with ⟨rfl, rfl⟩ | ⟨g, cap, rfl, _⟩
  · rw [Go.Lib.run_convert_nil_bytes W 81 9 5 0 und29 und5 und9]
    rfl
  · unfold Sl at h
    rw [bc_flat] at h
    exact (Ts.of_own h).conv hL

def padK (n k : Nat) : List Nat := 128 :: (List.replicate (zerosN n) 0 ++ (be8N (8 * n)).take k)
theorem padK_end (n : Nat) : padK n 8 = padL n := by
  unfold padK padL
  rw [List.take_of_length_le (by rw [be8N_len]; omega)]
theorem padK_len (n k : Nat) (hk : k ≤ 8) : (padK n k).length = 1 + zerosN n + k := by
  unfold padK
  simp only [List.length_cons, List.length_append, List.length_replicate, List.length_take, be8N_len]
  omega
theorem padK_next (n k : Nat) (hk : k < 8) : padK n (k + 1) = padK n k ++ [byteAt (8 * n) k] := by
  unfold padK
  rw [be8N_take _ _ hk]
  simp
def headK (z : Nat) : List Nat := 128 :: List.replicate z 0
theorem headK_len (z : Nat) : (headK z).length = 1 + z := by simp [headK]; omega
theorem headK_next (z : Nat) : headK (z + 1) = headK z ++ [0] := by simp [headK, List.replicate_succ']
theorem headK_end (n : Nat) : headK (zerosN n) = padK n 0 := by simp [headK, padK]
theorem padL_lt (n : Nat) : ∀ x ∈ padL n, x < 256 := by
  intro x hx
  unfold padL at hx
  simp only [List.mem_append, List.mem_cons] at hx
  rcases hx with rfl | h | h
  · omega
  · have := List.eq_of_mem_replicate h; omega
  · obtain ⟨k, _, rfl⟩ := List.mem_map.1 h
    exact Nat.mod_lt _ (by omega)

set_option maxRecDepth 100000 in
set_option maxHeartbeats 2000000 in
theorem pad_any (n : Nat) (hn : n ≤ 1000000) (w : World) :
    Calls Tryd.prog 62 #[.int .i64 n] w fun e w' => e = .returned (.string (toBytes (padL n))) ∧ Below w.heap.size w w' := by
  have hz64 := zeros_lt n
  have HZE := Lib.hid (zeros_eq n)
  have HZF := Lib.hid (zeros_first n)
  go_enter Tryd.func62, Tryd.ntmps62
  go_wp2_with fail
  go_loopw [3] (fun s wr => ∃ z : Nat, z ≤ zerosN n ∧ Sl wr w.heap.size 5 1 bc s (headK z) ∧ Below w.heap.size w wr) (fun s _ => match s with | .slice _ l _ => 1 + zerosN n - l | _ => 0)
  case atStart => exact ⟨0, by omega, Sl.lit (e := 5) w [128] bc_len (Nat.le_refl _) (by decide), (Below.refl _ w).alloc (Nat.le_refl _) _⟩
  case round =>
    obtain ⟨z, hz, s1, b1⟩ := hrel
    have hkl := headK_len z
    obtain ⟨_, sb, cb, rfl⟩ := (s1.at bc_len).len
    rw [hkl] at s1 ⊢
    have hw0 := b1.size
    by_cases hlt : z < zerosN n
    · have hne := HZF.out z hlt
      have y1 : (((n : Int) + ((1 + z : Nat) : Int) + 8) % 64 != 0) = true := by rw [bne_iff_ne]; omega
      obtain ⟨g, cg, W2, hrun, s3, hgrow, hwhere⟩ := Sl.push (P := Tryd.prog) (t := 81) (ty := 81) (s1.only (Only.alloc [] wr (.cells (bc 0).toArray 5)) (fun g _ => by simp)) und29 info5 rfl (by omega) bc_len bc_one 0 (World.alloc_heap_new wr _) (by rw [hkl]; omega) (by rw [hkl]; omega) (by simp; omega) 1
      rw [hkl] at hrun s3
      have HS3 : Hid (Sl W2 w.heap.size 5 1 bc (.slice (some ⟨g, 0, none⟩) (1 + z + 1) cg) (headK (z + 1))) := by refine Lib.hid ?_; rw [headK_next]; exact s3
      have HB3 : Hid (Below w.heap.size w W2) := Lib.hid (b1.trans (((Below.refl w.heap.size wr).alloc hw0 _).grown hgrow (by simp; omega) (fun r hr => (s1.lt r hr).1)))
      simp only [bc] at hrun
      have HRN := Lib.hid hrun
      clear hrun s3 hgrow hwhere s1 b1 hne
      go_wp2_with (at_builtin; refine wpList_append_run rfl _ _ 81 81 rfl rfl rfl HRN.out ?_)
      go_roundw
      case rel => exact ⟨z + 1, by omega, HS3.out, HB3.out⟩
      case measure => simp; omega
    · obtain rfl : z = zerosN n := by omega
      have hze := HZE.out
      have y1 : (((n : Int) + (1 + (zerosN n : Int)) + 8) % 64 != 0) = false := by rw [bne_eq_false_iff_eq]; omega
      rw [headK_end] at s1
      have HS1 := Lib.hid s1
      have HB1 := Lib.hid b1
      clear s1 b1 hze
      go_wp2_with fail
      go_loopw [3, 5] (fun s i wq => ∃ k : Nat, k ≤ 8 ∧ i = .int .i64 k ∧ Sl wq w.heap.size 5 1 bc s (padK n k) ∧ Below w.heap.size w wq) (fun _ i _ => 8 - (intOf i).toNat)
      case atStart => exact ⟨0, by omega, rfl, HS1.out, HB1.out⟩
      case round =>
        obtain ⟨k, hk, rfl, s1, b1⟩ := hrel
        have hkl := padK_len n k hk
        obtain ⟨_, sb2, cb2, rfl⟩ := (s1.at bc_len).len
        rw [hkl] at s1 ⊢
        have hw0 := b1.size
        by_cases hk8 : k < 8
        · have y2 : (8 * (n : Int)) / 2 ^ (56 - 8 * k) % 256 = ((byteAt (8 * n) k : Nat) : Int) := by
            unfold byteAt
            rw [Int.natCast_emod, Int.natCast_ediv, Int.natCast_pow, Int.natCast_mul]
            rfl
          have hnx := padK_next n k hk8
          obtain ⟨x, hx⟩ : ∃ x, x = byteAt (8 * n) k := ⟨_, rfl⟩
          rw [← hx] at y2 hnx
          obtain ⟨g, cg, W2, hrun, s3, hgrow, hwhere⟩ := Sl.push (P := Tryd.prog) (t := 81) (ty := 81) (s1.only (Only.alloc [] wr (.cells (bc x).toArray 5)) (fun g _ => by simp)) und29 info5 rfl (by omega) bc_len bc_one x (World.alloc_heap_new wr _) (by rw [hkl]; omega) (by rw [hkl]; omega) (by simp; omega) 1
          rw [hkl] at hrun s3
          have HS3 : Hid (Sl W2 w.heap.size 5 1 bc (.slice (some ⟨g, 0, none⟩) (1 + zerosN n + k + 1) cg) (padK n (k + 1))) := by refine Lib.hid ?_; rw [hnx]; exact s3
          have HB3 : Hid (Below w.heap.size w W2) := Lib.hid (b1.trans (((Below.refl w.heap.size wr).alloc hw0 _).grown hgrow (by simp; omega) (fun r hr => (s1.lt r hr).1)))
          simp only [bc] at hrun
          have HRN := Lib.hid hrun
          have k0 : 0 ≤ 56 - 8 * (k : Int) := by omega
          clear hrun s3 hgrow hwhere s1 b1 hx hnx
          go_wp2_with (at_builtin; refine wpList_append_run rfl _ _ 81 81 rfl rfl rfl HRN.out ?_)
          go_roundw
          case rel => exact ⟨k + 1, by omega, by go_num, HS3.out, HB3.out⟩
          case measure => simp [intOf]; omega
        · obtain rfl : k = 8 := by omega
          rw [padK_end] at s1
          have hcv := slb_conv s1 (padL_lt n)
          have HB := Lib.hid b1
          clear s1 b1
          go_wp2_with fail
          go_ret
          exact ⟨rfl, HB.out⟩

/-- The reference's Xor. -/
def xorB (b : ByteArray) (y : Nat) : List Nat := (bytesN b).map (· ^^^ y)
theorem xorB_len (b : ByteArray) (y : Nat) : (xorB b y).length = b.size := by simp [xorB, bytesN_len]
theorem xorB_lt (b : ByteArray) (y : Nat) (hy : y < 256) : ∀ x ∈ xorB b y, x < 256 := by
  intro x hx
  obtain ⟨c, hc, rfl⟩ := List.mem_map.1 hx
  exact Nat.xor_lt_two_pow (n := 8) (bytesN_lt b c hc) hy
theorem xorB_next (b : ByteArray) (y k : Nat) (h : k < b.size) : (xorB b y).take (k + 1) = (xorB b y).take k ++ [b[k].toNat ^^^ y] := by
  rw [List.take_succ_eq_append_getElem (by rw [xorB_len]; exact h)]
  simp only [xorB, bytesN, List.getElem_map]
  rfl
set_option maxRecDepth 100000 in
set_option maxHeartbeats 2000000 in
theorem xor_any (b : ByteArray) (hb : b.size ≤ 1000000) (y : Nat) (hy : y < 256) (w : World) :
    Calls Tryd.prog 53 #[.string b, .int .u8 y] w fun e w' => e = .returned (.string (toBytes (xorB b y))) ∧ Below w.heap.size w w' := by
  have HLEN := Lib.hid (xorB_len b y)
  have HNX := Lib.hid (xorB_next b y)
  have HLT := Lib.hid (xorB_lt b y hy)
  obtain ⟨L, hL⟩ : ∃ L, L = xorB b y := ⟨_, rfl⟩
  rw [← hL] at HLEN HNX HLT ⊢
  clear hL
  go_enter Tryd.func53, Tryd.ntmps53
  go_wp2_with fail
  go_loopw [5, 6] (fun s i wr => ∃ k : Nat, k ≤ b.size ∧ i = .int .i64 k ∧ Sl wr w.heap.size 5 1 bc s (L.take k) ∧ Below w.heap.size w wr) (fun _ i _ => b.size - (intOf i).toNat)
  case atStart => exact ⟨0, by omega, rfl, Sl.nil _ _ _ _ _, Below.refl _ _⟩
  case round =>
    obtain ⟨k, hk, rfl, s1, b1⟩ := hrel
    have hkl : (L.take k).length = k := by rw [List.length_take, HLEN.out]; omega
    obtain ⟨_, sb, cb, rfl⟩ := (s1.at bc_len).len
    rw [hkl] at s1 ⊢
    have hw0 := b1.size
    by_cases hlt : k < b.size
    · have hnx := HNX.out k hlt
      have hcl : b[k].toNat < 256 := b[k].toNat_lt
      have y2 : bits .xor .u8 (b[k].toNat : Int) (y : Int) = ((b[k].toNat ^^^ y : Nat) : Int) := u8_xor_nat _ _ hcl hy
      obtain ⟨x, hx⟩ : ∃ x, x = b[k].toNat ^^^ y := ⟨_, rfl⟩
      rw [← hx] at y2 hnx
      obtain ⟨g, cg, W2, hrun, s3, hgrow, hwhere⟩ := Sl.push (P := Tryd.prog) (t := 81) (ty := 81) (s1.only (Only.alloc [] wr (.cells (bc x).toArray 5)) (fun g _ => by simp)) und29 info5 rfl (by omega) bc_len bc_one x (World.alloc_heap_new wr _) (by rw [hkl]; omega) (by rw [hkl]; omega) (by simp; omega) 1
      rw [hkl] at hrun s3
      have HS3 : Hid (Sl W2 w.heap.size 5 1 bc (.slice (some ⟨g, 0, none⟩) (k + 1) cg) (L.take (k + 1))) := by refine Lib.hid ?_; rw [hnx]; exact s3
      have HB3 : Hid (Below w.heap.size w W2) := Lib.hid (b1.trans (((Below.refl w.heap.size wr).alloc hw0 _).grown hgrow (by simp; omega) (fun r hr => (s1.lt r hr).1)))
      simp only [bc] at hrun
      have HRN := Lib.hid hrun
      clear hrun s3 hgrow hwhere s1 b1 hx hnx
      go_wp2_with (at_builtin; refine wpList_append_run rfl _ _ 81 81 rfl rfl rfl HRN.out ?_)
      go_roundw
      case rel => exact ⟨k + 1, by omega, by go_num, HS3.out, HB3.out⟩
      case measure => simp [intOf]; omega
    · obtain rfl : k = b.size := by omega
      rw [List.take_of_length_le (by rw [HLEN.out]; exact Nat.le_refl _)] at s1
      have hcv := slb_conv s1 HLT.out
      have HB := Lib.hid b1
      clear s1 b1
      go_wp2_with fail
      go_ret
      exact ⟨rfl, HB.out⟩
end Go.Proofs.YtnkkbkceapcahaaDoor
namespace Go.Proofs.YtnkkbkceapcahaaDoor
open Go.RowKit Go.Rt Go.Rw
attribute [local go_sem ↓] Go.wp_at_zero Go.wp_at_succ

theorem bytesN_app (a b : ByteArray) : bytesN (a ++ b) = bytesN a ++ bytesN b := by simp [bytesN]
theorem bytesN_to (L : List Nat) (h : ∀ x ∈ L, x < 256) : bytesN (toBytes L) = L := by
  unfold bytesN toBytes
  simp only [List.map_map]
  have : ∀ L : List Nat, (∀ x ∈ L, x < 256) → L.map (UInt8.toNat ∘ UInt8.ofNat) = L := by
    intro L
    induction L with
    | nil => intro _; rfl
    | cons a r ih =>
      intro h
      rw [List.map_cons, ih (fun x hx => h x (by simp [hx]))]
      congr 1
      simp only [Function.comp]
      rw [UInt8.toNat_ofNat', Nat.mod_eq_of_lt (h a (by simp))]
  exact this L h
def allB (b : ByteArray) : ByteArray := b ++ toBytes (padL b.size)
theorem allB_bytes (b : ByteArray) : bytesN (allB b) = allL b := by
  unfold allB allL
  rw [bytesN_app, bytesN_to _ (padL_lt _)]
theorem allB_size (b : ByteArray) : (allB b).size = 64 * manyN b := by rw [← bytesN_len, allB_bytes, all_len]
theorem padL_len (n : Nat) : (padL n).length ≤ 72 := by
  unfold padL
  have := zeros_lt n
  simp only [List.length_cons, List.length_append, List.length_replicate, be8N_len]
  omega
theorem allB_blk (b : ByteArray) (k : Nat) : bytesN ((allB b).extract (64 * k) (64 * k + 64)) = blkL (allL b) k := by
  rw [bytesN_extract, allB_bytes]
  unfold blkL
  congr 1
  omega
def outJ (x : Nat) : List Nat := [x / 16777216 % 256, x / 65536 % 256, x / 256 % 256, x % 256]
theorem out_next (s : S8) (j : Nat) (hj : j < 8) : (outF s).take (4 * (j + 1)) = (outF s).take (4 * j) ++ outJ (s.l.getD j 0) := by
  have g : ∀ i (hi : i < (outF s).length), (outF s)[i] = s.l.getD (i / 4) 0 / 2 ^ (24 - i % 4 * 8) % 256 := by intro i hi; simp [outF]
  have hl := outF_len s
  rw [show 4 * (j + 1) = 4 * j + 1 + 1 + 1 + 1 by omega]
  rw [List.take_succ_eq_append_getElem (by omega), List.take_succ_eq_append_getElem (by omega), List.take_succ_eq_append_getElem (by omega), List.take_succ_eq_append_getElem (by omega)]
  rw [g, g, g, g]
  rw [show 4 * j / 4 = j by omega, show (4 * j + 1) / 4 = j by omega, show (4 * j + 1 + 1) / 4 = j by omega, show (4 * j + 1 + 1 + 1) / 4 = j by omega]
  rw [show 4 * j % 4 = 0 by omega, show (4 * j + 1) % 4 = 1 by omega, show (4 * j + 1 + 1) % 4 = 2 by omega, show (4 * j + 1 + 1 + 1) % 4 = 3 by omega]
  simp [outJ]
theorem out_lt (s : S8) : ∀ x ∈ outF s, x < 256 := by
  intro x hx
  obtain ⟨i, _, rfl⟩ := List.mem_map.1 hx
  exact Nat.mod_lt _ (by omega)

theorem step_append_sl {ops : Array Oper} {o : Oper} {a : Act} {w : World} {K : Act → World → Prop} {Q : Exit → Act → World → Prop} {E : Prop} {base b cc m : Nat} {v : Value} {L M : List Nat} {e' : TypeId} {fr' : Nat × Nat}
    (hg : o.guard = none) (s x : Operand) (hop : o.op = Op.call { callee := Callee.builtin Builtin.append, args := #[s, x], argTypes := #[81, 81] })
    (hs : a.eval s = v) (hx : a.eval x = .slice (some ⟨b, 0, none⟩) m cc) (hsl : Sl w base 5 1 bc v L) (hM : M.length = m) (hb : w.heap[b]? = some (.cells (M.flatMap bc).toArray e' fr')) (h0 : 0 < m) (hl : L.length + m ≤ 1000000) (hbase : base ≤ w.heap.size)
    (hK : ∀ g' cap' W', Sl W' base 5 1 bc (.slice (some ⟨g', 0, none⟩) (L.length + m) cap') (L ++ M) → w.grownBy W' v.ownBlock → K (a.put o.dst (.slice (some ⟨g', 0, none⟩) (L.length + m) cap')) W') :
    if Region.wanted o (yielded ops a.tmps) = true then Oper.wp Tryd.prog o a w K Q else E := by
  subst hM
  obtain ⟨v', W', hrun, h1, h2, _⟩ := Sl.pushs (P := Tryd.prog) (t := 81) (ty := o.type) (b := b) (o := 0) hsl und29 info5 rfl (by omega) bc_len bc_one M (fun j u hj => by rw [Nat.zero_add, cell_at hb]; simpa using hj) (by omega) (by omega) hbase cc
  rcases h1.form with ⟨_, q⟩ | ⟨g, cap, q, _⟩
  · have := congrArg List.length q
    rw [List.length_append, List.length_nil] at this
    omega
  · rw [List.length_append] at q
    subst q
    have hw : Region.wanted o (yielded ops a.tmps) = true := by simp [Region.wanted, hg]
    rw [if_pos hw]
    unfold Oper.wp
    simp [execOp, hop, resolve, invoke, builtin, hs, hx, hrun, Result.andThen]
    exact hK _ _ _ h1 h2
theorem step_append_sl2 {ops : Array Oper} {o : Oper} {a : Act} {w : World} {K : Act → World → Prop} {Q : Exit → Act → World → Prop} {E : Prop} {w0 : World} {base cc m n : Nat} {v : Value} {L M : List Nat}
    (hg : o.guard = none) (s x : Operand) (hop : o.op = Op.call { callee := Callee.builtin Builtin.append, args := #[s, x], argTypes := #[81, 81] })
    (hs : a.eval s = v) (hx : a.eval x = .slice (some ⟨w0.heap.size, 0, none⟩) m cc) (hsl : Sl w0 base 5 1 bc v L) (hM : M.length = m) (hn : L.length = n) (hw : w.heap = (w0.alloc (.cells (M.flatMap bc).toArray 5)).heap) (ho : w.os = w0.os) (ht : w.tape = w0.tape) (hp : w.output = w0.output) (h0 : 0 < m) (hl : n + m ≤ 1000000) (hbase : base ≤ w0.heap.size)
    (hK : ∀ g' cap' W', Sl W' base 5 1 bc (.slice (some ⟨g', 0, none⟩) (n + m) cap') (L ++ M) → Only v.ownBlock.toList w0 W' → K (a.put o.dst (.slice (some ⟨g', 0, none⟩) (n + m) cap')) W') :
    if Region.wanted o (yielded ops a.tmps) = true then Oper.wp Tryd.prog o a w K Q else E := by
  subst hn
  refine step_append_sl (b := w0.heap.size) hg s x hop hs hx (hsl.same (by rw [hw]; simp) (fun g hg => by rw [hw]; exact Below.heap_alloc _ _ _ (hsl.lt g hg).2)) hM (by rw [hw]; exact World.alloc_heap_new w0 _) h0 hl (by rw [hw]; simp; omega) (fun g' cap' W' h1 h2 => hK g' cap' W' h1 ?_)
  have hz : w.heap.size = w0.heap.size + 1 := by rw [hw]; simp
  obtain ⟨a1, a2, a3, a4, a5⟩ := h2
  refine ⟨a1.trans ho, a2.trans ht, a3.trans hp, by omega, fun k hk hm => ?_⟩
  refine (a5 k (by omega) (fun q => hm (by first | (rw [q]; simp) | (rw [← q]; simp)))).trans ?_
  rw [hw]
  exact Below.heap_alloc _ _ _ hk
theorem l_ok {s : S8} (h : s.ok) (j : Nat) (hj : j < 8) : s.l.getD j 0 < 4294967296 := by
  obtain ⟨h1, h2, h3, h4, h5, h6, h7, h8⟩ := h
  have : j = 0 ∨ j = 1 ∨ j = 2 ∨ j = 3 ∨ j = 4 ∨ j = 5 ∨ j = 6 ∨ j = 7 := by omega
  rcases this with rfl | rfl | rfl | rfl | rfl | rfl | rfl | rfl <;> assumption
set_option maxRecDepth 100000 in
set_option maxHeartbeats 2000000 in
theorem rsum_any (b : ByteArray) (hb : b.size ≤ 100000) (w : World) :
    Calls Tryd.prog 52 #[.string b] w fun e w' => e = .returned (.string (toBytes (sumF b))) ∧ Below w.heap.size w w' := by
  have hpl := padL_len b.size
  have hps := toBytes_size (padL b.size)
  have has := allB_size b
  have HPD := Lib.hid (fun w => pad_any b.size (by omega) w)
  have HBK := Lib.hid (allB_blk b)
  obtain ⟨Pd, hPd⟩ : ∃ P, P = toBytes (padL b.size) := ⟨_, rfl⟩
  have hal : allB b = b ++ Pd := by rw [hPd]; rfl
  rw [← hPd] at hps HPD
  rw [hal] at has HBK
  have hsz : (b ++ Pd).size = b.size + Pd.size := ByteArray.size_append
  have hpz : Pd.size ≤ 72 := by omega
  obtain ⟨A, hA⟩ : ∃ A, A = b ++ Pd := ⟨_, rfl⟩
  rw [← hA] at has HBK hsz
  obtain ⟨M, hM⟩ : ∃ M, M = manyN b := ⟨_, rfl⟩
  rw [← hM] at has
  have HRES : Hid (sumF b = outF (stF b M)) := by refine Lib.hid ?_; rw [hM]; rfl
  have hM2 : M ≤ 2000 := by omega
  have HAA := Lib.hid hA
  clear hpl hps hal hM hPd hA
  go_enter Tryd.func52, Tryd.ntmps52
  go_wp2_with fail
  refine (HPD.out _).mono ?_
  rintro e w1 ⟨rfl, b1⟩
  have HB1 := Lib.hid b1
  clear b1
  go_wp2_with fail
  rw [← HAA.out]
  clear HAA
  refine (adds_any _).mono ?_
  rintro e w2 ⟨v, rfl, s2, b2⟩
  obtain ⟨_, sK, cK, rfl⟩ := (s2.at uc_len).len
  rw [KL_len] at s2 ⊢
  obtain ⟨gK, rfl⟩ : ∃ gK, sK = some ⟨gK, 0, none⟩ := by
    rcases s2.form with ⟨_, h0⟩ | ⟨g0, cap0, e, _⟩
    · have := KL_len; rw [h0] at this; simp at this
    · simp at e; exact ⟨g0, e.1⟩
  have HS2 := Lib.hid s2
  have HB2 := Lib.hid (HB1.out.trans (b2.mono HB1.out.size))
  clear s2 b2 HB1
  go_wp2_with fail
  refine (start_any _).mono ?_
  rintro e w3 ⟨rfl, b3⟩
  have hs3 : Sl w3 w1.heap.size 100 1 uc (.slice (some ⟨gK, 0, none⟩) 64 cK) KL := HS2.out.below b3 (fun g hg => (HS2.out.lt g hg).2)
  have HS3 := Lib.hid hs3
  have HB3 := Lib.hid (HB2.out.trans (b3.mono HB2.out.size))
  have hgk := (hs3.lt gK rfl).2
  clear b3 HS2 HB2 hs3
  obtain ⟨S0, hS0⟩ : ∃ S, S = startF := ⟨_, rfl⟩
  have HST : Hid (stF b 0 = S0) := Lib.hid hS0.symm
  rw [← hS0]
  clear hS0
  simp only []
  go_wp2_with (refine wpList_store_blk rfl 101 _ _ rfl rfl w3.heap.size _ _ 101 rfl rfl (Blk.new w3 101 ((List.replicate 8 0).map wv).toArray) rfl (i32l (l_len S0)) (one_map (fun _ => rfl) _) ?_
               intro w4 b4 o4
               have HB4 := Lib.hid b4
               have HO4 := Lib.hid o4
               clear b4 o4)
  have hz4 : w3.heap.size < w4.heap.size := HB4.out.lt
  have HBE : Hid (∀ W, Only [w3.heap.size] w4 W → Below w.heap.size w W ∧ SlAt W 1 uc (.slice (some ⟨gK, 0, none⟩) 64 cK) KL) := by
    refine Lib.hid fun W o => ?_
    have q : Only [w3.heap.size] (w3.alloc (.cells ((List.replicate 8 0).map wv).toArray 101)) W := HO4.out.trans o
    have q1 : Below w3.heap.size w3 W := ((Below.refl _ w3).alloc (Nat.le_refl _) _).trans (q.below (by simp) (by simp))
    refine ⟨HB3.out.trans (q1.mono HB3.out.size), ?_⟩
    exact (HS3.out.below q1 (fun g hg => (HS3.out.lt g hg).2)).at uc_len
  go_loopw [6] (fun i wr => ∃ k : Nat, k ≤ M ∧ i = .int .i64 ((64 * k : Nat) : Int) ∧ Blk wr w3.heap.size 101 ((stF b k).l.map wv).toArray ∧ Only [w3.heap.size] w4 wr) (fun i _ => 64 * M + 64 - (intOf i).toNat)
  case atStart => exact ⟨0, by omega, rfl, by rw [HST.out]; exact HB4.out, Only.refl _ _⟩
  case round =>
    obtain ⟨k, hk, rfl, mv, ov⟩ := hrel
    have hok := st_ok b k
    by_cases hlt : k < M
    · have hbk := HBK.out k
      have hnx : Hid (stF b (k + 1) = compF (stF b k) (blkL (allL b) k)) := Lib.hid rfl
      rw [← hbk] at hnx
      have hxs : (A.extract (64 * k) (64 * k + 64)).size = 64 := by rw [ByteArray.size_extract]; omega
      obtain ⟨B, hB⟩ : ∃ B, B = A.extract (64 * k) (64 * k + 64) := ⟨_, rfl⟩
      rw [← hB] at hnx hxs
      have HBB := Lib.hid hB
      obtain ⟨S, hS⟩ : ∃ S, S = stF b k := ⟨_, rfl⟩
      rw [← hS] at hok hnx mv
      clear hS hB hbk
      have HOK := Lib.hid hok
      have hcells := mv.cell
      have MV := Lib.hid mv
      have OV := Lib.hid ov
      clear mv ov hok
      obtain ⟨sa, sb, sc, sd, se, sf, sg, sh⟩ := S
      have s0 := hcells 0
      have s1 := hcells 1
      have s2 := hcells 2
      have s3 := hcells 3
      have s4 := hcells 4
      have s5 := hcells 5
      have s6 := hcells 6
      have s7 := hcells 7
      simp only [S8.l, List.map_cons, List.map_nil, List.getElem?_toArray, List.getElem?_cons_zero, List.getElem?_cons_succ] at s0 s1 s2 s3 s4 s5 s6 s7
      clear hcells
      have q1 : IntKind.i64.wrap (64 * (k : Int) + 64) = 64 * (k : Int) + 64 := IntWalk.i64_in _ (by omega)
      have q2 : 64 * (k : Int) + 64 ≤ (A.size : Int) := by omega
      have q3 : (64 * (k : Int)).toNat = 64 * k := by omega
      have q4 : (64 * (k : Int) + 64).toNat = 64 * k + 64 := by omega
      have q5 : 64 * (k : Int) ≤ 64 * (k : Int) + 64 := by omega
      have q6 : 0 ≤ 64 * (k : Int) := by omega
      go_upto_region 7 with fail
      go_still_tail 7, (by kernel_rfl)
      go_wp2_with fail
      rw [← HBB.out]
      obtain ⟨wq, hwq⟩ : ∃ wq, wq = wr.drew := ⟨_, rfl⟩
      rw [← hwq]
      have mq : Hid (Blk wq w3.heap.size 101 #[wv sa, wv sb, wv sc, wv sd, wv se, wv sf, wv sg, wv sh]) := by rw [hwq]; exact Lib.hid MV.out.drew
      have oq : Hid (Only [w3.heap.size] w4 wq) := by rw [hwq]; exact Lib.hid ⟨OV.out.os, OV.out.tape, OV.out.output, OV.out.size, OV.out.block⟩
      clear hwq MV OV s0 s1 s2 s3 s4 s5 s6 s7
      refine (rcomp_any ⟨sa, sb, sc, sd, se, sf, sg, sh⟩ HOK.out B hxs _ wq (HBE.out wq oq.out).2).mono ?_
      rintro e w5 ⟨rfl, b5⟩
      rw [← hnx.out]
      obtain ⟨SN, hSN⟩ : ∃ S, S = stF b (k + 1) := ⟨_, rfl⟩
      have HSN := Lib.hid hSN
      rw [← hSN]
      clear hSN
      have M5 := Lib.hid (mq.out.below b5 mq.out.lt)
      have O5 := Lib.hid (oq.out.trans (Only.of_below b5))
      clear b5
      simp only []
      go_wp2_with (refine wpList_store_blk rfl 101 _ _ rfl rfl w3.heap.size _ _ 101 rfl rfl M5.out rfl (i32l (l_len SN)) (one_map (fun _ => rfl) _) ?_
                   intro w6 b6 o6
                   have HB6 := Lib.hid b6
                   have HO6 := Lib.hid o6
                   clear b6 o6)
      go_roundw
      case rel => exact ⟨k + 1, by omega, by go_num, by rw [← HSN.out]; exact HB6.out, O5.out.trans HO6.out⟩
      case measure => simp [intOf]; omega
    · obtain rfl : k = M := by omega
      obtain ⟨S, hS⟩ : ∃ S, S = stF b k := ⟨_, rfl⟩
      rw [← hS] at mv hok HRES
      have hol := outF_len S
      have MV := Lib.hid mv
      have OV := Lib.hid ov
      have HBV := Lib.hid (HBE.out wr ov).1
      have hwz := mv.lt
      have hwz2 := (HBE.out wr ov).1.size
      have HOU := Lib.hid (out_next S)
      have HOL := Lib.hid (out_lt S)
      have HLO := Lib.hid (l_ok hok)
      clear hS mv ov
      have qn : ¬ 64 * (k : Int) + 64 ≤ (b.size : Int) + (Pd.size : Int) := by omega
      rw [show ((64 * k : Nat) : Int) = 64 * (k : Int) by omega]
      go_wp2_with fail
      go_loopw [7, 8] (fun s i wq => ∃ j : Nat, j ≤ 8 ∧ i = .int .i64 j ∧ Sl wq wr.heap.size 5 1 bc s ((outF S).take (4 * j)) ∧ Below wr.heap.size wr wq) (fun _ i _ => 8 - (intOf i).toNat)
      case atStart => exact ⟨0, by omega, rfl, Sl.nil _ _ _ _ _, Below.refl _ _⟩
      case round =>
        obtain ⟨j, hj, rfl, s1, b1⟩ := hrel
        have hkl : ((outF S).take (4 * j)).length = 4 * j := by rw [List.length_take, hol]; omega
        obtain ⟨_, sb, cb, rfl⟩ := (s1.at bc_len).len
        rw [hkl] at s1 ⊢
        by_cases hj8 : j < 8
        · have c0 := (MV.out.below b1 hwz).cell j
          rw [map_get _ _ (by rw [l_len]; exact hj8)] at c0
          have hou := HOU.out j hj8
          have hx : S.l[j]'(by rw [l_len]; exact hj8) = S.l.getD j 0 := by rw [List.getD_eq_getElem?_getD, List.getElem?_eq_getElem (by rw [l_len]; exact hj8)]; rfl
          rw [hx] at c0
          obtain ⟨x, hxx⟩ : ∃ x, x = S.l.getD j 0 := ⟨_, rfl⟩
          rw [← hxx] at c0 hou
          have hx32 : x < 4294967296 := by rw [hxx]; exact HLO.out j hj8
          clear hx hxx
          obtain ⟨y0, hy0⟩ : ∃ y, y = x / 16777216 % 256 := ⟨_, rfl⟩
          obtain ⟨y1, hy1⟩ : ∃ y, y = x / 65536 % 256 := ⟨_, rfl⟩
          obtain ⟨y2, hy2⟩ : ∃ y, y = x / 256 % 256 := ⟨_, rfl⟩
          obtain ⟨y3, hy3⟩ : ∃ y, y = x % 256 := ⟨_, rfl⟩
          have hoj : outJ x = [y0, y1, y2, y3] := by rw [outJ, hy0, hy1, hy2, hy3]
          have z0 : IntKind.u8.wrap ((x : Int) / 16777216) = (y0 : Int) := by rw [IntKind.wrap_u8']; omega
          have z1 : IntKind.u8.wrap ((x : Int) / 65536) = (y1 : Int) := by rw [IntKind.wrap_u8']; omega
          have z2 : IntKind.u8.wrap ((x : Int) / 256) = (y2 : Int) := by rw [IntKind.wrap_u8']; omega
          have z3 : IntKind.u8.wrap (x : Int) = (y3 : Int) := by rw [IntKind.wrap_u8']; omega
          have k0 : (0 : Int) ≤ (j : Int) := by omega
          have k1 : (j : Int) < 8 := by omega
          rw [hoj, show 4 * (j + 1) = 4 * j + 4 by omega] at hou
          have HOO := Lib.hid hou
          have HS1 := Lib.hid s1
          have HB1 := Lib.hid b1
          clear hy0 hy1 hy2 hy3 hoj hou s1 b1
          go_upto_region 12 with fail
          have hz := HB1.out.size
          go_region_held3 (fun w' => w'.cell? ⟨w3.heap.size, j, none⟩ = some (wv x)) (go_keep) ((refine step_append_sl2 (w0 := wr) (m := 4) (n := 4 * j) (M := [y0, y1, y2, y3]) (by rfl) _ _ (by rfl) (by rfl) (by rfl) HS1.out rfl hkl (by rfl) (by rfl) (by rfl) (by rfl) (by omega) (by omega) hz ?_; intro g2 cap2 W2 s2 o2; have k2 : W2.cell? ⟨w3.heap.size, j, none⟩ = some (wv x) := (World.cell?_of_block (a := ⟨w3.heap.size, j, none⟩) (o2.block w3.heap.size (by omega) (by intro hm; have := HS1.out.lt w3.heap.size (by simpa using hm); omega))).trans c0))
          go_wp2_with fail
          go_roundw
          case rel => exact ⟨j + 1, by omega, by go_num, by rw [show 4 * (j + 1) = 4 * j + 4 by omega, HOO.out]; exact s2, HB1.out.trans (o2.below (fun r hr => (HS1.out.lt r (by simpa using hr)).1) hz)⟩
          case measure => simp [intOf]; omega
        · obtain rfl : j = 8 := by omega
          rw [List.take_of_length_le (by rw [hol]; omega)] at s1
          have hcv := slb_conv s1 HOL.out
          have HB := Lib.hid (HBV.out.trans (b1.mono HBV.out.size))
          clear s1 b1
          go_wp2_with fail
          go_ret
          exact ⟨by rw [HRES.out]; rfl, HB.out⟩
end Go.Proofs.YtnkkbkceapcahaaDoor
