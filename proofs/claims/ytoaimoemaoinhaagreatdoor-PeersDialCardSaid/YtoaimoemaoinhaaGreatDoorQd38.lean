/- PeersX: a part of the proof. No condition beyond the premises of each theorem. -/
import Derived.Test.YtoaimoemaoinhaaGreatDoorQd37
import Derived.Test.YtoaimoemaoinhaaGreatDoorQd33
import Derived.Maps.Own
import Derived.Maps.OwnSet
import Derived.Test.YtoaimoemaoinhaaGreatDoorQd18
import Derived.Test.YtoaimoemaoinhaaGreatDoorQd01
import Derived.ChangeSame
import Derived.DataReads
namespace Go.Proofs.YtoaimoemaoinhaaGreatDoor
open Go.RowKit Go.Rt Go.Rw Go.Mp Go.Maps Go.Sort Go.Shelf
theorem sortsA (m : Nat) : AnyZ.SortsIn Tryz.prog Tryz.sortedA_ren Fence.wide m :=
  ⟨fun blk off cap ss W hH hblk hsz => callsIn_wide.2 (AnyM.slices_Sort_string Tryz.sortA blk off cap ss W hH hblk hsz),
   fun p cap W => callsIn_wide.2 (AnyM.slices_Sort_string_none Tryz.sortA p cap W)⟩
def rdAny : Value → Option (DataW Unit × List MemPlace) := fun _ => some (.lit (.bool false), [])
def keyNo (v : Value) : List UInt8 := match v with | .string s => s.data.toList | _ => []
theorem keyOf_str_mk (s : ByteArray) (h : s.size ≤ maxLen) : keyOf Tryz.prog 9 (.string s) = some (.string s.data.toList) := by
  have h' : s.data.size ≤ maxLen := h
  simp only [keyOf, undS, mapKey]
  simp []
  exact h
set_option maxRecDepth 100000 in
theorem ents_own {w : World} {b : Nat} {l : List (ByteArray × Nat)} (h : MapAt w b strK ptrV l) (hl : l.length ≤ 1000000) (hw : ∀ p ∈ l, p.1.size ≤ maxLen) :
    ∃ D0 : DataW Unit, w.ownsMap Tryz.prog 9 rdAny b l.length D0 ∧ (strKeys D0).Perm (l.map (fun p => p.1.data.toList)) ∧ Maps.size D0 = l.length := by
  obtain ⟨es, c, hb, he, hst⟩ := h
  have hsz : es.size = l.length := by have := congrArg List.length he; simpa using this
  have hrd : ∀ x ∈ es.toList, ∃ n : ByteArray, x.key = .string n ∧ Go.WideElems.rd Tryz.prog 9 rdAny x = some (.string n.data.toList, .lit (.bool false)) := by
    intro x hx
    have hm : (x.key, x.val) ∈ l.map (fun p => (strK p.1, ptrV p.2)) := he ▸ List.mem_map.2 ⟨x, hx, rfl⟩
    obtain ⟨p, hp, e⟩ := List.mem_map.1 hm
    simp only [Prod.mk.injEq] at e
    refine ⟨p.1, e.1.symm, ?_⟩
    unfold Go.WideElems.rd
    rw [← e.1, show keyOf Tryz.prog 9 (strK p.1) = _ from keyOf_str_mk p.1 (hw p hp)]
    rfl
  refine ⟨_, ⟨es, c, hb, ⟨by rw [hsz]; unfold maxLen; omega, hst, fun x hx => ?_⟩, by omega, rfl⟩, ?_, ?_⟩
  · obtain ⟨n, _, h2⟩ := hrd x hx
    exact ⟨_, h2⟩
  · have e1 : ∀ x ∈ es.toList, Go.strOf (Go.WideElems.rg Tryz.prog 9 rdAny x).1 = keyNo x.key := by
      intro x hx
      obtain ⟨n, h1, h2⟩ := hrd x hx
      rw [Go.WideElems.rg_of h2, h1]
      rfl
    have e2 : (es.toList.map (Go.WideElems.rg Tryz.prog 9 rdAny)).map (fun p => Go.strOf p.1) = l.map (fun p => p.1.data.toList) := by
      rw [List.map_map]
      have : es.toList.map ((fun p => Go.strOf p.1) ∘ Go.WideElems.rg Tryz.prog 9 rdAny) = (es.toList.map (fun e => (e.key, e.val))).map (fun q => keyNo q.1) := by
        rw [List.map_map]
        exact List.map_congr_left fun x hx => e1 x hx
      rw [this, he, List.map_map]
      rfl
    rw [← e2]
    exact (Go.WideShapes.sorted_perm _).map _
  · simp [Maps.size, length_sorted, hsz]
theorem keys_c (m : Nat) (W : World) : Calls Tryz.prog 38 #[.map (some m)] W fun e w' => e = .returned (.func (.func 72) #[] #[.pointer (some ⟨W.heap.size, 0, none⟩)]) ∧ w' = W.alloc (.cells #[.map (some m)] 54) :=
  (callsIn_wide (n := 5)).1 (AnyZ.keys_in Tryz.keysA Fence.wide 5 trivial rfl (some m) W)
theorem sorted_c {w : World} {m : Nat} {l : List (ByteArray × Nat)} (h : MapAt w m strK ptrV l) (hl : l.length ≤ 1000000) (hw : ∀ p ∈ l, p.1.size ≤ maxLen) :
    Calls Tryz.prog 37 #[.func (.func 72) #[] #[.pointer (some ⟨w.heap.size, 0, none⟩)]] (w.alloc (.cells #[.map (some m)] 54)) fun e w' => ∃ (v : Value) (ss : List (List UInt8)), e = .returned v ∧ ss.Perm (l.map (fun p => p.1.data.toList)) ∧
      w'.ownsRow (w.heap.size + 1) 9 1 v ss.length ((ss.mergeSort (fun x y => decide (x ≤ y))).map encStr) ∧ (v = .slice none 0 0 ↔ ss = []) ∧ Below w.heap.size w w' := by
  obtain ⟨D0, hown, hperm, hsize⟩ := ents_own h hl hw
  have hbl := hown.lt
  have hmax : Maps.size D0 ≤ maxLen := by unfold maxLen; omega
  have hbytes : Maps.size D0 * 16 ≤ 140737488355328 := by omega
  have hseq : SeqGives Fence.wide 2 Tryz.prog 72 #[.pointer (some ⟨w.heap.size, 0, none⟩)] encStr (fun ss => ss.Perm (strKeys D0)) (Maps.size D0) (w.alloc (.cells #[.map (some m)] 54)) :=
    AnyZ.keys_gives (ρ := Tryz.keysA_ren) { Tryz.keysA with } Fence.wide _ trivial rfl (by omega) w.heap.size m l.length D0 _ (by simp) (by simp) (by
      obtain ⟨es, clock, hb, Ft, hs, hD⟩ := hown
      exact ⟨es, clock, (Below.heap_alloc _ _ m hbl).trans hb, Ft, hs, hD⟩)
  have cS := AnyZ.sorted_in Tryz.sortedA Fence.wide 5 trivial trivial trivial trivial rfl (by omega) (sortsA _) (enters_of Tryz.func71 (by kernel_rfl) rfl) 72 #[.pointer (some ⟨w.heap.size, 0, none⟩)] trivial (enters_of Tryz.func72 (by kernel_rfl) rfl) _ _ hmax hbytes _ hseq
  change CallsIn _ _ Tryz.prog 37 _ _ _ at cS
  refine ((callsIn_wide (n := 5)).1 cS).mono ?_
  rintro e w' ⟨v, ss, h1, h2, h3, h4, h5⟩
  have h3' : w'.ownsRow (w.alloc (.cells #[.map (some m)] 54)).heap.size 9 1 v ss.length ((ss.mergeSort (fun x y => decide (x ≤ y))).map encStr) := h3
  refine ⟨v, ss, h1, h2.trans hperm, by simpa using h3', h4, ((Below.refl _ w).alloc (Nat.le_refl _) _).trans (h5.mono (by simp))⟩
set_option maxRecDepth 100000 in
set_option maxHeartbeats 4000000 in
theorem nodes_none {w : World} {base : Nat} {n : Nd} {a : Nm} (h : NdAt w base n a) (hc : n.C = []) : Calls Tryz.prog 18 #[ptrV a.g] w fun e w' => e = .returned (.slice none 0 0) ∧ Below w.heap.size w w' := by
  have ha : a.C = [] := by
    have := h.eC
    rw [hc] at this
    exact List.map_eq_nil_iff.1 this
  have hm := h.pm.cm
  rw [ha, List.map_nil] at hm
  have c5 : w.cell? ⟨a.g, 5, none⟩ = some (.map (some a.mc)) := h.pm.blk.cell 5
  have CN := Lib.hid (none_no a.g a.mc w c5)
  have CS := Lib.hid (sorted_c hm (by simp) (fun p hp => by cases hp))
  clear h hc ha hm
  unfold ptrV at *
  go_enter Tryz.func18, Tryz.ntmps18
  go_wp2_with fail
  refine CN.out.mono ?_
  rintro e w1 ⟨rfl, rfl⟩
  go_wp2_with fail
  refine (keys_c a.mc _).mono ?_
  rintro e w2 ⟨rfl, rfl⟩
  go_wp2_with fail
  refine CS.out.mono ?_
  rintro e w3 ⟨v, ss, rfl, hp, -, hnil, b3⟩
  obtain rfl : ss = [] := by simpa using hp
  obtain rfl := hnil.2 rfl
  have B3 := Lib.hid b3
  clear CS CN hp hnil b3 c5
  go_wp2_with fail
  go_loopw [3, 15] (fun o i wr => o = .slice none 0 0 ∧ i = .int .i64 0 ∧ wr = w3) (fun _ i _ => (intOf i).toNat)
  case atStart => exact ⟨rfl, rfl, rfl⟩
  case round =>
    obtain ⟨rfl, rfl, rfl⟩ := hrel
    go_wp2_with fail
    go_ret
    exact ⟨rfl, B3.out⟩
set_option maxRecDepth 100000 in
set_option maxHeartbeats 4000000 in
theorem nodes_one {w : World} {base : Nat} {n : Nd} {a : Nm} (h : NdAt w base n a) (k : ByteArray) (x : Cx) (hc : n.C = [(k, x)]) (hk : k.size ≤ 1000) (hx : x.gen = 1) : Calls Tryz.prog 18 #[ptrV a.g] w fun e w' => (∃ sa cap, e = .returned (.slice sa 1 cap)) ∧ Below w.heap.size w w' := by
  obtain ⟨m, ha⟩ : ∃ m, a.C = [(k, (x, m))] := by
    have := h.eC
    rw [hc] at this
    rcases ha : a.C with _ | ⟨⟨k', x', m'⟩, r⟩
    · rw [ha] at this; cases this
    · rw [ha] at this
      simp only [List.map_cons, List.cons.injEq, Prod.mk.injEq, List.map_eq_nil_iff] at this
      obtain ⟨⟨rfl, rfl⟩, rfl⟩ := this
      exact ⟨_, rfl⟩
  have hm := h.pm.cm
  rw [ha] at hm
  have hcn := (h.conn (k := k) (x := x) (m := m) (by rw [ha]; simp [Mp.get])).con
  have c5 : w.cell? ⟨a.g, 5, none⟩ = some (.map (some a.mc)) := h.pm.blk.cell 5
  have CN := Lib.hid (none_no a.g a.mc w c5)
  have CS := Lib.hid (sorted_c hm (by simp) (fun p hp => by simp only [List.map_cons, List.map_nil, List.mem_singleton] at hp; rw [hp]; show k.size ≤ maxLen; unfold maxLen; omega))
  have HM := Lib.hid hm
  have HCN := Lib.hid hcn
  have HPB := Lib.hid h.pm.blk
  clear h hc ha hm hcn
  unfold ptrV at *
  go_enter Tryz.func18, Tryz.ntmps18
  go_wp2_with fail
  refine CN.out.mono ?_
  rintro e w1 ⟨rfl, rfl⟩
  go_wp2_with fail
  refine (keys_c a.mc _).mono ?_
  rintro e w2 ⟨rfl, rfl⟩
  go_wp2_with fail
  refine CS.out.mono ?_
  rintro e w3 ⟨v, ss, rfl, hp, hrow, -, b3⟩
  obtain rfl : ss = [k.data.toList] := List.perm_singleton.1 (by simpa using hp)
  have hsl : Sl w3 (w1.heap.size + 1) 9 1 strC v [k] := by
    have e1 : ([k.data.toList].mergeSort (fun x y => decide (x ≤ y))).map encStr = [k].flatMap strC := by simp [strC, encStr]
    rw [e1] at hrow
    exact hrow
  obtain ⟨g, cap, rfl, -, hg, -, -, -⟩ : ∃ g cap, v = .slice (some ⟨g, 0, none⟩) 1 cap ∧ True ∧ g < w3.heap.size ∧ True ∧ True ∧ True := by
    rcases hsl.form with ⟨-, e⟩ | ⟨g, cap, e, _, e2, _⟩
    · cases e
    · exact ⟨g, cap, e, trivial, e2, trivial, trivial, trivial⟩
  have cg : w3.cell? ⟨g, 0, none⟩ = some (.string k) := hsl.cell (fun _ => rfl) 0 0 (by simp) (by omega)
  have d5 : w3.cell? ⟨a.g, 5, none⟩ = some (.map (some a.mc)) := (HPB.out.below b3 HPB.out.lt).cell 5
  have k4 : w3.cell? ⟨m.c, 4, none⟩ = some (.int .i64 1) := by
    have := (HCN.out.below b3 HCN.out.lt).cell 4
    rw [this, hx]
    rfl
  have lk := look_con (HM.out.of_heap (w' := w3) (b3.block _ HM.out.lt)) k
  have hcv : conV (([(k, (x, m))] : List (ByteArray × (Cx × Cm))).map fun p => (p.1, p.2.2.c)) k = .pointer (some ⟨m.c, 0, none⟩) := by simp [conV, Mp.get, ptrV]
  rw [hcv] at lk
  obtain ⟨gn, c9, w5, hrun, hown, hgrow, -⟩ := (Sl.nil (w3.alloc (.cells #[.string k] 9)) w3.heap.size 9 1 strC).push (P := Tryz.prog) (t := 28) (ty := 28) und28 info9 rfl (by omega) (fun _ => rfl) (fun a u hu => by simp [strC] at hu; subst hu; rfl) k (World.alloc_heap_new w3 _) (by simp) (by simp) (by simp) 1
  have HRN := Lib.hid hrun
  have B5 : Hid (Below w1.heap.size w1 w5) := Lib.hid ((b3.alloc b3.size (.cells #[.string k] 9)).grown hgrow (by have := b3.size; simp; omega) (fun q hq => by cases hq))
  clear CS CN hp hrow b3 c5 hsl hrun hown hgrow hcv HM HCN HPB hx
  go_wp2_with fail
  go_loopw [3, 15] (fun o i wr => (o = .slice none 0 0 ∧ i = .int .i64 0 ∧ wr = w3) ∨ (o = .slice (some ⟨gn, 0, none⟩) 1 c9 ∧ i = .int .i64 1 ∧ wr = w5)) (fun _ i _ => 1 - (intOf i).toNat)
  case atStart => exact .inl ⟨rfl, rfl, rfl⟩
  case round =>
    rcases hrel with ⟨rfl, rfl, rfl⟩ | ⟨rfl, rfl, rfl⟩
    · go_wp2_with (at_builtin; refine wpList_append_run rfl _ _ 28 28 rfl rfl rfl HRN.out ?_)
      go_roundw
      case rel => exact .inr ⟨rfl, rfl, trivial⟩
      case measure => simp [intOf]
    · go_wp2_with fail
      go_ret
      exact ⟨⟨_, _, rfl⟩, B5.out⟩
end Go.Proofs.YtoaimoemaoinhaaGreatDoor
namespace Go.Proofs.YtoaimoemaoinhaaGreatDoor.Sk
open Go.RowKit Go.Rt Go.Rw
theorem bytesN_app (a b : ByteArray) : bytesN (a ++ b) = bytesN a ++ bytesN b := by
 unfold bytesN
 rw [app_list, List.map_append]
theorem bytesN_to (l : List Nat) (h : ∀ x ∈ l, x < 256) : bytesN (toBytes l) = l := by
 unfold bytesN toBytes
 simp only [List.map_map]
 refine (List.map_congr_left (g := id) fun x hx => ?_).trans (List.map_id l)
 have := h x hx
 simp [Nat.mod_eq_of_lt this]
theorem sum2 (K : List Nat) (hK : K.length = 64) (hlt : ∀ x ∈ K, x < 256) (M : ByteArray) (hM : M.size ≤ 55) : sumF (toBytes K ++ M) = outF (compF (compF startF K) (bytesN M ++ padL (64 + M.size))) := by
 have hs : (toBytes K ++ M).size = 64 + M.size := by rw [ByteArray.size_append, toBytes_size, hK]
 have hz : zerosN (64 + M.size) = 55 - M.size := by unfold zerosN; omega
 have hm : manyN (toBytes K ++ M) = 2 := by
  unfold manyN
  rw [hs, hz]
  omega
 have ha : allL (toBytes K ++ M) = K ++ (bytesN M ++ padL (64 + M.size)) := by
  unfold allL
  rw [bytesN_app, bytesN_to K hlt, hs, List.append_assoc]
 have hl : (bytesN M ++ padL (64 + M.size)).length = 64 := by
  unfold padL
  rw [List.length_append, bytesN_len, List.length_cons, List.length_append, List.length_replicate, hz, be8N_len]
  omega
 have b0 : blkL (allL (toBytes K ++ M)) 0 = K := by
  unfold blkL
  rw [ha, Nat.mul_zero, List.drop_zero, List.take_append_of_le_length (by omega), List.take_of_length_le (by omega)]
 have b1 : blkL (allL (toBytes K ++ M)) 1 = bytesN M ++ padL (64 + M.size) := by
  unfold blkL
  rw [ha, Nat.mul_one, List.drop_append_of_le_length (by omega), List.drop_of_length_le (by omega), List.nil_append, List.take_of_length_le (by omega)]
 unfold sumF
 rw [hm]
 show outF (compF (compF startF (blkL _ 0)) (blkL _ 1)) = _
 rw [b0, b1]
theorem xorL_len (k : ByteArray) (hk : k.size ≤ 64) (x : Nat) : (xorL k x).length = 64 := by unfold xorL; rw [List.length_map, blkK_len k hk]
def macO (I O : S8) (m : List Nat) : List Nat := outF (compF O (outF (compF I (m ++ padL (64 + m.length))) ++ padL 96))
theorem outF_lt (s : S8) : ∀ x ∈ outF s, x < 256 := by
 intro x hx
 unfold outF at hx
 obtain ⟨i, _, rfl⟩ := List.mem_map.1 hx
 exact Nat.mod_lt _ (by omega)
theorem macF_short (k b : ByteArray) (hk : k.size ≤ 64) (hb : b.size ≤ 55) (I O : S8) (hI : compF startF (xorL k 54) = I) (hO : compF startF (xorL k 92) = O) : macF k b = macO I O (bytesN b) := by
 have hkk : keyF k = k := by unfold keyF; rw [if_neg (by omega)]
 unfold macF macO
 rw [hkk]
 have e1 := sum2 (xorL k 54) (xorL_len k hk 54) (xorL_lt k 54 (by omega)) b hb
 rw [hI] at e1
 have hz : (toBytes (sumF (toBytes (xorL k 54) ++ b))).size = 32 := by rw [toBytes_size, sumF_len]
 have e2 := sum2 (xorL k 92) (xorL_len k hk 92) (xorL_lt k 92 (by omega)) (toBytes (sumF (toBytes (xorL k 54) ++ b))) (by omega)
 rw [hO, hz, bytesN_to _ (by unfold sumF; exact outF_lt _)] at e2
 rw [e2, e1, bytesN_len]
def ckX : ByteArray := ⟨#[120]⟩
def ckY : ByteArray := ⟨#[121]⟩
def iX : S8 := ⟨347169198, 573455530, 715429741, 413262700, 2861505904, 1098793458, 1595435983, 2110135651⟩
def oX : S8 := ⟨1009421160, 559777052, 2058489840, 2561633796, 590150724, 2834601878, 3843014813, 1123114719⟩
def iY : S8 := ⟨3834380036, 29547565, 98111002, 3034291617, 3123047009, 2230132284, 1329110998, 2290236899⟩
def oY : S8 := ⟨2706357105, 2953887900, 2965276457, 3849544589, 34460700, 1265291876, 1136084667, 1832307062⟩
theorem s8_ext {s t : S8} (h : s.l = t.l) : s = t := by
 cases s; cases t
 unfold S8.l at h
 simpa using h
theorem iX_is : compF startF (xorL ckX 54) = iX := s8_ext (by decide +kernel)
theorem oX_is : compF startF (xorL ckX 92) = oX := s8_ext (by decide +kernel)
theorem iY_is : compF startF (xorL ckY 54) = iY := s8_ext (by decide +kernel)
theorem oY_is : compF startF (xorL ckY 92) = oY := s8_ext (by decide +kernel)
def msgL (a b t o : Nat) : List Nat := [68, 1, a, 0, 0, 0, 1, 1, b, 0, 0, 0, 1, 0, 0, 0, 0, 0, 0, 0, t, 0, 0, 0, 0, 0, 0, 0, o]
def nmO (b : UInt8) : ByteArray := ⟨#[b]⟩
theorem numF_small (n : Nat) (h : n < 256) : bytesN (numF n 8) = [0, 0, 0, 0, 0, 0, 0, n] := by
 have e : ∀ k, 0 < k → n / 2 ^ (8 * k) % 256 = 0 := fun k hk => by
  have : 256 ≤ 2 ^ (8 * k) := by
   have := Nat.pow_le_pow_right (show 0 < 2 by omega) (show 8 ≤ 8 * k by omega)
   simpa using this
  rw [Nat.div_eq_of_lt (by omega)]
 have h0 : n / 2 ^ (8 * 0) % 256 = n := by simp; omega
 show ((numL n 8).map UInt8.ofNat).toArray.toList.map UInt8.toNat = _
 have hl : numL n 8 = [0, 0, 0, 0, 0, 0, 0, n] := by
  show [n / 2 ^ (8 * 7) % 256, n / 2 ^ (8 * 6) % 256, n / 2 ^ (8 * 5) % 256, n / 2 ^ (8 * 4) % 256, n / 2 ^ (8 * 3) % 256, n / 2 ^ (8 * 2) % 256, n / 2 ^ (8 * 1) % 256, n / 2 ^ (8 * 0) % 256] = _
  rw [e 7 (by omega), e 6 (by omega), e 5 (by omega), e 4 (by omega), e 3 (by omega), e 2 (by omega), e 1 (by omega), h0]
 rw [hl]
 simp [Nat.mod_eq_of_lt h]
theorem msg_is (a b : UInt8) (t o : Nat) (ht : t < 256) (ho : o < 256) : bytesN (letD ++ encF ⟨nmO a, 1⟩ ++ encF ⟨nmO b, 1⟩ ++ numF t 8 ++ numF o 8) = msgL a.toNat b.toNat t o := by
 have e : ∀ c : UInt8, bytesN (encF ⟨nmO c, 1⟩) = [1, c.toNat, 0, 0, 0, 1] := fun c => by
  show bytesN (numF 1 1 ++ nmO c ++ numF 1 4) = _
  rw [bytesN_app, bytesN_app, show bytesN (numF 1 1) = [1] by decide +kernel, show bytesN (numF 1 4) = [0, 0, 0, 1] by decide +kernel]
  rfl
 rw [bytesN_app, bytesN_app, bytesN_app, bytesN_app, numF_small t ht, numF_small o ho, e, e]
 rfl
def difB (m : List Nat) : Bool := macO iX oX m != macO iY oY m
theorem dif_proof (a b : UInt8) (t o : Nat) (ht : t < 256) (ho : o < 256) (h : difB (msgL a.toNat b.toNat t o) = true) : proofF letD ⟨nmO a, 1⟩ ⟨nmO b, 1⟩ ckX t o ≠ proofF letD ⟨nmO a, 1⟩ ⟨nmO b, 1⟩ ckY t o := by
 have hz : (letD ++ encF ⟨nmO a, 1⟩ ++ encF ⟨nmO b, 1⟩ ++ numF t 8 ++ numF o 8).size ≤ 55 := by
  rw [← bytesN_len, msg_is a b t o ht ho]
  show 29 ≤ 55
  omega
 have mx := macF_short ckX _ (by decide) hz iX oX iX_is oX_is
 have my := macF_short ckY _ (by decide) hz iY oY iY_is oY_is
 rw [msg_is a b t o ht ho] at mx my
 intro e
 unfold proofF macS at e
 rw [mx, my] at e
 have e2 := congrArg bytesN e
 rw [bytesN_to _ (by unfold macO; exact outF_lt _), bytesN_to _ (by unfold macO; exact outF_lt _)] at e2
 unfold difB at h
 rw [e2] at h
 simp at h
end Go.Proofs.YtoaimoemaoinhaaGreatDoor.Sk
namespace Go.Proofs.YtoaimoemaoinhaaGreatDoor.Sk
theorem difMd1 : ((List.range 7).all fun k => difB (msgL 97 98 (70 + k) (7 + k)) && difB (msgL 97 98 (71 + k) (7 + k)) && difB (msgL 98 97 (7 + k) (70 + k))) = true := by decide +kernel
theorem difMd1' : ((List.range 7).all fun k => difB (msgL 97 98 (77 + k) (14 + k)) && difB (msgL 97 98 (78 + k) (14 + k)) && difB (msgL 98 97 (14 + k) (77 + k))) = true := by decide +kernel
theorem difMd2 : ((List.range 7).all fun k => difB (msgL 97 98 (84 + k) (21 + k)) && difB (msgL 97 98 (85 + k) (21 + k)) && difB (msgL 98 97 (21 + k) (84 + k))) = true := by decide +kernel
theorem difMd2' : ((List.range 7).all fun k => difB (msgL 97 98 (91 + k) (28 + k)) && difB (msgL 97 98 (92 + k) (28 + k)) && difB (msgL 98 97 (28 + k) (91 + k))) = true := by decide +kernel
end Go.Proofs.YtoaimoemaoinhaaGreatDoor.Sk
namespace Go.Proofs.YtoaimoemaoinhaaGreatDoor
open Go.RowKit Go.Rt Go.Rw Go.Mp
def difK (k : Nat) : Bool := Sk.difB (Sk.msgL 97 98 (70 + k) (7 + k)) && Sk.difB (Sk.msgL 97 98 (71 + k) (7 + k)) && Sk.difB (Sk.msgL 98 97 (7 + k) (70 + k))
theorem difK_at (a : Nat) (h : ((List.range 7).all fun k => Sk.difB (Sk.msgL 97 98 (70 + a + k) (7 + a + k)) && Sk.difB (Sk.msgL 97 98 (71 + a + k) (7 + a + k)) && Sk.difB (Sk.msgL 98 97 (7 + a + k) (70 + a + k))) = true) (k : Nat) (h1 : a ≤ k) (h2 : k < a + 7) : difK k = true := by
 have := List.all_eq_true.1 h (k - a) (by simp; omega)
 unfold difK
 rw [show 70 + a + (k - a) = 70 + k by omega, show 71 + a + (k - a) = 71 + k by omega, show 7 + a + (k - a) = 7 + k by omega] at this
 exact this
theorem difK_all (k : Nat) (h : k < 28) : difK k = true := by
 rcases (show k < 7 ∨ (7 ≤ k ∧ k < 14) ∨ (14 ≤ k ∧ k < 21) ∨ (21 ≤ k ∧ k < 28) by omega) with q | q | q | q
 ·
  exact difK_at 0 Sk.difMd1 k (by omega) (by omega)
 ·
  exact difK_at 7 Sk.difMd1' k q.1 q.2
 ·
  exact difK_at 14 Sk.difMd2 k q.1 q.2
 ·
  exact difK_at 21 Sk.difMd2' k q.1 q.2
theorem seq_no {a b : ByteArray} (h : a ≠ b) : Sk.seqB a b = false := by
 rw [Bool.eq_false_iff]
 exact fun e => h (Sk.seqB_eq.1 e)
theorem rej28 : Rej Sk.ckX Sk.ckY 28 := by
 intro k hk
 have := difK_all k hk
 unfold difK at this
 rw [Bool.and_eq_true, Bool.and_eq_true] at this
 obtain ⟨⟨h1, h2⟩, h3⟩ := this
 refine ⟨fun t ht => ?_, ?_⟩
 ·
  rcases (show t = 0 ∨ t = 1 by omega) with rfl | rfl
  ·
   exact seq_no (Sk.dif_proof 97 98 (70 + k) (7 + k) (by omega) (by omega) h1)
  ·
   exact seq_no (Sk.dif_proof 97 98 (70 + k + 1) (7 + k) (by omega) (by omega) (by rw [show 70 + k + 1 = 71 + k by omega]; exact h2))
 ·
  exact seq_no (Ne.symm (Sk.dif_proof 98 97 (7 + k) (70 + k) (by omega) (by omega) h3))
theorem Rej.mono {x y : ByteArray} {K L : Nat} (h : Rej x y K) (hl : L ≤ K) : Rej x y L := fun k hk => h k (by omega)
end Go.Proofs.YtoaimoemaoinhaaGreatDoor
namespace Go.Rw
open Go Go.RowKit Go.Rt
variable {α : Type}
theorem choose_list (p : Nat → α → Prop) : ∀ n, (∀ i, i < n → ∃ a, p i a) → ∃ l : List α, l.length = n ∧ ∀ i (h : i < l.length), p i l[i]
 | 0, _ => ⟨[], rfl, fun i h => by simp at h⟩
 | n + 1, h => by
  obtain ⟨l, h1, h2⟩ := choose_list p n (fun i hi => h i (by omega))
  obtain ⟨a, ha⟩ := h n (by omega)
  refine ⟨l ++ [a], by simp [h1], fun i hi => ?_⟩
  rcases Nat.lt_or_ge i l.length with q | q
  ·
   rw [List.getElem_append_left q]; exact h2 i q
  ·
   simp only [List.length_append, List.length_cons, List.length_nil] at hi
   obtain rfl : i = l.length := by omega
   rw [List.getElem_append_right (Nat.le_refl _)]
   simp only [Nat.sub_self, List.getElem_cons_zero, h1]
   exact ha
theorem slice_at {H : Type} {enc : TypeId × Value → H} {P : Program} {W : World} {fuel : Nat} {t e : TypeId} {k : Nat} {v : Value} {x : DataW H × List MemPlace} (c : α → List Value) (good : α → Prop)
  (ht : P.underlying t = some (.slice e)) (hk : P.cellsOf e = k) (hk0 : 0 < k)
  (hopen : ∀ n cs y, DataW.trod enc P W 0 (fun _ => true) true n e cs = some y → ∃ a, cs = c a ∧ good a)
  (h : DataW.trod enc P W 0 (fun _ => true) true fuel t [v] = some x) : ∃ As, SlAt W k c v As ∧ ∀ a ∈ As, good a := by
 rcases DataW.trod_slice ht h with ⟨hcs, _⟩ | ⟨a, len, cap, elems, rest, n, _, hcs, _, _, hl, hm, hlen, hel, _⟩
 ·
  simp only [List.cons.injEq, and_true] at hcs
  exact ⟨[], .inl ⟨rfl, none, 0, hcs⟩, by simp⟩
 ·
  simp only [List.cons.injEq, and_true] at hcs
  subst hcs
  have each : ∀ i, i < len → ∃ u : α, (∀ j, j < k → W.cell? ((a.add (i * k)).add j) = (c u)[j]?) ∧ (c u).length = k ∧ good u := by
   intro i hi
   have := hel i hi
   rw [List.getElem?_eq_getElem (by omega), Option.bind_eq_some_iff] at this
   obtain ⟨cs, h1, h2⟩ := this
   rw [hk] at h1
   obtain ⟨_, q2, q3⟩ := World.cells?_some h1
   obtain ⟨u, rfl, hu⟩ := hopen _ _ _ h2
   exact ⟨u, q3, q2, hu⟩
  obtain ⟨As, hA, hg⟩ := choose_list _ len each
  refine ⟨As, ?_, fun u hu => ?_⟩
  ·
   by_cases h0 : len = 0
   ·
    subst h0
    exact .inl ⟨List.eq_nil_of_length_eq_zero hA, some a, cap, rfl⟩
   ·
    have c0 := (hg 0 (by omega)).1 0 hk0
    rw [List.getElem?_eq_getElem (by rw [(hg 0 (by omega)).2.1]; exact hk0)] at c0
    obtain ⟨b, o, sp⟩ := a
    have hb : b < W.heap.size ∧ sp = none := by
     unfold World.cell? at c0
     simp only [Addr.add] at c0
     split at c0
     ·
      rename_i hh
      cases sp with
      | none =>
       simp only [Nat.zero_mul, Nat.add_zero] at hh
       exact ⟨(Array.getElem?_eq_some_iff.1 (by simpa using hh)).1, rfl⟩
      | some q => simp at c0
     ·
      cases c0
    obtain ⟨hb, rfl⟩ := hb
    refine .inr ⟨b, o, cap, by rw [hA], by rw [hA]; unfold maxLen at hm; omega, hb, ?_⟩
    intro i j hi hj
    have := (hg i hi).1 j hj
    rw [add_none, add_none] at this
    exact this
  ·
   obtain ⟨i, hi, rfl⟩ := List.getElem_of_mem hu
   exact (hg i hi).2.2
end Go.Rw
namespace Go.Proofs.YtoaimoemaoinhaaGreatDoor
open Go.RowKit Go.Rt Go.Rw
def intC (n : Int) : List Value := [.int .i64 n]
def I64 (n : Int) : Prop := -9223372036854775808 ≤ n ∧ n ≤ 9223372036854775807
theorem lit_bounds {n : Int} (h : (Lit.int .i64 n).wf = true) : I64 n := by
 unfold Lit.wf at h
 rw [Bool.and_eq_true, decide_eq_true_eq, decide_eq_true_eq, show IntKind.i64.min = -9223372036854775808 from rfl, show IntKind.i64.max = 9223372036854775807 from rfl] at h
 exact h
theorem int_open {H : Type} {enc : TypeId × Value → H} {W : World} (n : Nat) (cs : List Value) (y : DataW H × List MemPlace) (h : DataW.trod enc Tryz.prog W 0 (fun _ => true) true n 3 cs = some y) : ∃ a : Int, cs = intC a ∧ I64 a := by
 obtain ⟨s, e, -, wf⟩ := DataW.trod_int Tryz.underlying3 h
 exact ⟨s, e, lit_bounds wf⟩
end Go.Proofs.YtoaimoemaoinhaaGreatDoor
