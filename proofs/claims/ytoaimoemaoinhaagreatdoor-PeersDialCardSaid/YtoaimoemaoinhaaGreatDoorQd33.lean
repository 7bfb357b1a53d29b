/- PeersX: a part of the proof. No condition beyond the premises of each theorem. -/
import Derived.Test.YtoaimoemaoinhaaGreatDoorQd32
import Derived.Test.YtoaimoemaoinhaaGreatDoorQd11
import Derived.Deep.Upon
namespace Go.Proofs.YtoaimoemaoinhaaGreatDoor
open Go.RowKit Go.Rt Go.Rw Go.Mp
structure Ds where
 na : Nd
 nb : Nd
 wa : List ByteArray
 wb : List ByteArray
 ua : Bool
 ub : Bool
abbrev NA (x : ByteArray) (ch di : Nat) (c : Option Cx) (l : Bool) : Nd := mkN exA exB x ch di c l []
abbrev NB (y : ByteArray) (ch di : Nat) (c : Option Cx) (l : Bool) : Nd := mkN exB exA y ch di c l []
inductive Ph (x y : ByteArray) (acc : Bool) : Nat → Nat → Nat → Ds → Prop
 | I (k i j : Nat) (la lb : Bool) (h : i + j = k) (h0 : acc = true → k = 0) : Ph x y acc k 0 0 ⟨NA x (7 + k) i none la, NB y (70 + k) j none lb, [], [], false, false⟩
 | S1 (k i j : Nat) (la lb : Bool) (h : i + j = k + 1) : Ph x y acc (k + 1) 3 4 ⟨NA x (7 + k + 1) i (some (cD exA exB x i (7 + k))) la, NB y (70 + k) j none lb, [], [pH exA exB i], false, false⟩
 | S2 (k i j : Nat) (la lb : Bool) (h : i + j = k + 2) : Ph x y acc (k + 2) 6 6 ⟨NA x (7 + k + 1) i (some (cD exA exB x i (7 + k))) la, NB y (70 + k + 1) j (some (cD exB exA y j (70 + k))) lb, [pH exB exA j], [pH exA exB i], false, false⟩
 | S2p (k i j : Nat) (la lb : Bool) (h : i + j = k + 2) : Ph x y acc (k + 2) 5 5 ⟨NA x (7 + k + 2) i (some (cD exA exB x i (7 + k))) la, NB y (70 + k + 1) j (some (cD exB exA y j (70 + k))) lb, [], [pH exA exB i, pY j], false, false⟩
 | S3a (k t i j : Nat) (la lb : Bool) (ht : t ≤ 1) (h : i + j = k + 1 + t) : Ph x y acc (k + 1 + t) 3 3 ⟨NA x (7 + k + 1 + t) i (some (cD exA exB x i (7 + k))) la, NB y (70 + k + t + 1) j (some (cI exB exA y i (70 + k + t))) lb, [pO exB i (70 + k + t)], [], false, false⟩
 | S3b (k i j : Nat) (la lb : Bool) (h : i + j = k + 2) : Ph x y acc (k + 2) 5 5 ⟨NA x (7 + k + 1) i (some (cD exA exB x i (7 + k))) la, NB y (70 + k + 1 + 1) j (some (cI exB exA y i (70 + k + 1))) lb, [pH exB exA j, pO exB i (70 + k + 1)], [], false, false⟩
 | S3c (k i j : Nat) (la lb : Bool) (h : i + j = k + 2) : Ph x y acc (k + 2) 4 4 ⟨NA x (7 + k + 2) i (some (cD exA exB x i (7 + k))) la, NB y (70 + k + 1 + 1) j (some (cI exB exA y i (70 + k + 1))) lb, [pO exB i (70 + k + 1)], [pY j], false, false⟩
 | S4a (k t i j : Nat) (la lb : Bool) (ht : t ≤ 1) (h : i + j = k + 1 + t) : Ph x y acc (k + 1 + t) 2 2 ⟨NA x (7 + k + 1 + t) i (some (cE exA exB x i (7 + k) (70 + k + t))) la, NB y (70 + k + t + 1) j (some (cI exB exA y i (70 + k + t))) lb, [], [pR exA exB x i (7 + k) (70 + k + t)], false, false⟩
 | S4b (k i j : Nat) (la lb : Bool) (h : i + j = k + 2) : Ph x y acc (k + 2) 3 3 ⟨NA x (7 + k + 2) i (some (cE exA exB x i (7 + k) (70 + k + 1))) la, NB y (70 + k + 1 + 1) j (some (cI exB exA y i (70 + k + 1))) lb, [], [pY j, pR exA exB x i (7 + k) (70 + k + 1)], false, false⟩
 | S5 (k t i j : Nat) (la : Bool) (ha : acc = true) (h : i + j = k + 1 + t) : Ph x y acc (k + 1 + t) 1 1 ⟨NA x (7 + k + 1 + t) i (some (cE exA exB x i (7 + k) (70 + k + t))) la, NB y (70 + k + t + 1) j (some (cV exB exA y i (7 + k) (70 + k + t) 0)) true, [pA exB exA y i (7 + k) (70 + k + t)], [], false, true⟩
 | S6 (k t i j : Nat) (ha : acc = true) (h : i + j = k + 1 + t) : Ph x y acc (k + 1 + t) 0 0 ⟨NA x (7 + k + 1 + t) i (some (cU exA exB x i (7 + k) (70 + k + t) 0)) true, NB y (70 + k + t + 1) j (some (cV exB exA y i (7 + k) (70 + k + t) 0)) true, [], [], true, true⟩
 | T1 (k i j : Nat) (la lb : Bool) (h : i + j = k + 1) : Ph x y acc (k + 1) 3 4 ⟨NA x (7 + k) i none la, NB y (70 + k + 1) j (some (cD exB exA y j (70 + k))) lb, [pH exB exA j], [], false, false⟩
 | T2 (k i j : Nat) (la lb : Bool) (h : i + j = k + 1) : Ph x y acc (k + 1) 2 3 ⟨NA x (7 + k + 1) i (some (cI exA exB x j (7 + k))) la, NB y (70 + k + 1) j (some (cD exB exA y j (70 + k))) lb, [], [pO exA j (7 + k)], false, false⟩
 | T3 (k i j : Nat) (la lb : Bool) (h : i + j = k + 1) : Ph x y acc (k + 1) 1 2 ⟨NA x (7 + k + 1) i (some (cI exA exB x j (7 + k))) la, NB y (70 + k + 1) j (some (cE exB exA y j (70 + k) (7 + k))) lb, [pR exB exA y j (70 + k) (7 + k)], [], false, false⟩
 | T4 (k i j : Nat) (lb : Bool) (ha : acc = true) (h : i + j = k + 1) : Ph x y acc (k + 1) 0 1 ⟨NA x (7 + k + 1) i (some (cV exA exB x j (70 + k) (7 + k) 0)) true, NB y (70 + k + 1) j (some (cE exB exA y j (70 + k) (7 + k))) lb, [], [pA exA exB x j (70 + k) (7 + k)], true, false⟩
 | T6 (k i j : Nat) (ha : acc = true) (h : i + j = k + 1) : Ph x y acc (k + 1) 0 0 ⟨NA x (7 + k + 1) i (some (cV exA exB x j (70 + k) (7 + k) 0)) true, NB y (70 + k + 1) j (some (cU exB exA y j (70 + k) (7 + k) 0)) true, [], [], true, true⟩
 | X1 (k i j p t : Nat) (la lb : Bool) (hp : p ≤ k) (ht : t ≤ k) (ha : acc = false) (h : i + j = k) : Ph x y acc k 1 1 ⟨NA x (7 + k) i (some (cE exA exB x i (7 + p) (70 + t))) la, NB y (70 + k) j none lb, [pE i], [], false, false⟩
 | X2 (k i j p t : Nat) (la lb : Bool) (hp : p ≤ k) (ht : t ≤ k) (ha : acc = false) (h : i + j = k + 1) : Ph x y acc (k + 1) 4 5 ⟨NA x (7 + k) i (some (cE exA exB x i (7 + p) (70 + t))) la, NB y (70 + k + 1) j (some (cD exB exA y j (70 + k))) lb, [pE i, pH exB exA j], [], false, false⟩
 | Y1 (k i j p t : Nat) (la lb : Bool) (hp : p ≤ k) (ht : t ≤ k) (ha : acc = false) (h : i + j = k) : Ph x y acc k 0 1 ⟨NA x (7 + k) i none la, NB y (70 + k) j (some (cE exB exA y j (70 + p) (7 + t))) lb, [], [pE j], false, false⟩
 | Y2 (k i j p t : Nat) (la lb : Bool) (hp : p ≤ k) (ht : t ≤ k) (ha : acc = false) (h : i + j = k + 1) : Ph x y acc (k + 1) 3 5 ⟨NA x (7 + k + 1) i (some (cD exA exB x i (7 + k))) la, NB y (70 + k) j (some (cE exB exA y j (70 + p) (7 + t))) lb, [], [pE j, pH exA exB i], false, false⟩
theorem TAB : Two exA exB := ⟨by decide +kernel, by decide +kernel, by decide +kernel⟩
theorem TBA : Two exB exA := TAB.flip
def Rej (x y : ByteArray) (K : Nat) : Prop := ∀ k, k < K →
 (∀ t, t ≤ 1 → Sk.seqB (Sk.proofD ⟨exA, 1⟩ ⟨exB, 1⟩ x (7 + k) (70 + k + t)) (Sk.proofD ⟨exA, 1⟩ ⟨exB, 1⟩ y (7 + k) (70 + k + t)) = false) ∧
 Sk.seqB (Sk.proofD ⟨exB, 1⟩ ⟨exA, 1⟩ y (70 + k) (7 + k)) (Sk.proofD ⟨exB, 1⟩ ⟨exA, 1⟩ x (70 + k) (7 + k)) = false
section
variable {x y : ByteArray} {acc : Bool} {D q r : Nat} {s : Ds} {G : GF}
theorem busyAB {x : ByteArray} {ch di num kx : Nat} {l : Bool} : busyB (mkN exA exB x ch di (some (cD exA exB x num kx)) l []) exB (some (cD exA exB x num kx)) = true := by
 show ((0 : Nat) == 0 && true && Op.bytesLess exA.toList exB.toList) = true
 decide +kernel
theorem busyBA {x : ByteArray} {ch di num kx : Nat} {l : Bool} : busyB (mkN exB exA x ch di (some (cD exB exA x num kx)) l []) exA (some (cD exB exA x num kx)) = false := by
 show ((0 : Nat) == 0 && true && Op.bytesLess exB.toList exA.toList) = false
 decide +kernel
def PassA (x y : ByteArray) (acc : Bool) (G : GF) (D q r : Nat) (s : Ds) (p : ByteArray) (rest : List ByteArray) : Prop :=
 ∃ n' evs ua' q' r', pktN G s.na exB p = ((n', evs), 0) ∧ ((evs = [] ∧ ua' = s.ua) ∨ (evs = [upE exB 1] ∧ s.ua = false ∧ ua' = true)) ∧ (outQ n' exB).length ≤ 1 ∧
  Ph x y acc D q' r' ⟨dropO n' exB, s.nb, rest, s.wb ++ outQ n' exB, ua', s.ub⟩ ∧ q ≤ q' + 1 ∧ r' < r
def PassB (x y : ByteArray) (acc : Bool) (G : GF) (D q r : Nat) (s : Ds) (p : ByteArray) (rest : List ByteArray) : Prop :=
 ∃ n' evs ub' q' r', pktN G s.nb exA p = ((n', evs), 0) ∧ ((evs = [] ∧ ub' = s.ub) ∨ (evs = [upE exA 1] ∧ s.ub = false ∧ ub' = true)) ∧ (outQ n' exA).length ≤ 1 ∧
  Ph x y acc D q' r' ⟨s.na, dropO n' exA, s.wa ++ outQ n' exA, rest, s.ua, ub'⟩ ∧ q ≤ q' + 1 ∧ r' < r
theorem passA_of {s : Ds} {p : ByteArray} {rest out : List ByteArray} {c' : Option Cx} {l' ua' : Bool} {ch' di' q' r' : Nat} {evs : List Ev} (h : pktN G s.na exB p = ((mkN exA exB x ch' di' c' l' out, evs), 0))
  (he : (evs = [] ∧ ua' = s.ua) ∨ (evs = [upE exB 1] ∧ s.ua = false ∧ ua' = true)) (ho : out.length ≤ 1) (hP : Ph x y acc D q' r' ⟨NA x ch' di' c' l', s.nb, rest, s.wb ++ out, ua', s.ub⟩) (hq : q ≤ q' + 1) (hr : r' < r) : PassA x y acc G D q r s p rest := by
 refine ⟨_, evs, ua', q', r', h, he, ?_, ?_, hq, hr⟩
 ·
  rw [mk_outQ]; exact ho
 ·
  rw [mk_outQ, mk_drop]; exact hP
theorem passB_of {s : Ds} {p : ByteArray} {rest out : List ByteArray} {c' : Option Cx} {l' ub' : Bool} {ch' di' q' r' : Nat} {evs : List Ev} (h : pktN G s.nb exA p = ((mkN exB exA y ch' di' c' l' out, evs), 0))
  (he : (evs = [] ∧ ub' = s.ub) ∨ (evs = [upE exA 1] ∧ s.ub = false ∧ ub' = true)) (ho : out.length ≤ 1) (hP : Ph x y acc D q' r' ⟨s.na, NB y ch' di' c' l', s.wa ++ out, rest, s.ua, ub'⟩) (hq : q ≤ q' + 1) (hr : r' < r) : PassB x y acc G D q r s p rest := by
 refine ⟨_, evs, ub', q', r', h, he, ?_, ?_, hq, hr⟩
 ·
  rw [mk_outQ]; exact ho
 ·
  rw [mk_outQ, mk_drop]; exact hP
theorem ph_passA (h : Ph x y acc D q r s) (hD : D ≤ 1000000) (hx : acc = true → x = y) (hy : acc = false → Rej x y D) (p : ByteArray) (rest : List ByteArray) (hw : s.wa = p :: rest) : PassA x y acc G D q r s p rest := by
 cases h with
 | I => cases hw
 | S1 => cases hw
 | S2 k i j la lb h =>
  cases hw
  exact passA_of (p_busy TAB j (by omega) _ rfl busyAB) (.inl ⟨rfl, rfl⟩) (by simp) (.S2p k i j la lb h) (by omega) (by omega)
 | S2p => cases hw
 | S3a k t i j la lb ht h =>
  cases hw
  exact passA_of (p_offer TAB i (7 + k) (70 + k + t) (by omega) (by omega)) (.inl ⟨rfl, rfl⟩) (by simp) (.S4a k t i j la lb ht h) (by omega) (by omega)
 | S3b k i j la lb h =>
  cases hw
  exact passA_of (p_busy TAB j (by omega) _ rfl busyAB) (.inl ⟨rfl, rfl⟩) (by simp) (.S3c k i j la lb h) (by omega) (by omega)
 | S3c k i j la lb h =>
  cases hw
  exact passA_of (p_offer TAB i (7 + k) (70 + k + 1) (by omega) (by omega)) (.inl ⟨rfl, rfl⟩) (by simp) (.S4b k i j la lb h) (by omega) (by omega)
 | S4a => cases hw
 | S4b => cases hw
 | S5 k t i j la ha h =>
  cases hw
  exact passA_of (p_ack TAB i (7 + k) (70 + k + t) _ (Sk.proofL_size ..) (by omega) (by rw [hx ha]; exact seqB_refl' _)) (.inr ⟨rfl, rfl, rfl⟩) (by simp) (.S6 k t i j ha h) (by omega) (by omega)
 | S6 => cases hw
 | T1 k i j la lb h =>
  cases hw
  exact passA_of (p_hello TAB j (by omega) (fun _ h => by cases h) rfl) (.inl ⟨rfl, rfl⟩) (by simp) (.T2 k i j la lb h) (by omega) (by omega)
 | T2 => cases hw
 | T3 k i j la lb h =>
  cases hw
  cases hacc : acc with
  | true => exact passA_of (p_reply TAB j (70 + k) (7 + k) _ (Sk.proofD_size ..) (by omega) (by omega) (by rw [hx hacc]; exact seqB_refl' _)) (.inr ⟨rfl, rfl, rfl⟩) (by simp) (.T4 k i j lb rfl h) (by omega) (by omega)
  | false => exact passA_of (p_refuse TAB j (70 + k) (7 + k) _ (Sk.proofD_size ..) (by omega) (by omega) ((hy hacc k (by omega)).2)) (.inl ⟨rfl, rfl⟩) (by simp) (.Y1 (k + 1) i j k k la lb (by omega) (by omega) rfl h) (by omega) (by omega)
 | T4 => cases hw
 | T6 => cases hw
 | X1 k i j p t la lb hp ht ha h =>
  cases hw
  exact passA_of (p_end TAB i _ (by omega) rfl rfl rfl) (.inl ⟨rfl, rfl⟩) (by simp) (.I _ i j la lb h (fun e => by rw [ha] at e; cases e)) (by omega) (by omega)
 | X2 k i j p t la lb hp ht ha h =>
  cases hw
  exact passA_of (p_end TAB i _ (by omega) rfl rfl rfl) (.inl ⟨rfl, rfl⟩) (by simp) (.T1 k i j la lb h) (by omega) (by omega)
 | Y1 => cases hw
 | Y2 => cases hw
theorem ph_passB (h : Ph x y acc D q r s) (hD : D ≤ 1000000) (hx : acc = true → x = y) (hy : acc = false → Rej x y D) (p : ByteArray) (rest : List ByteArray) (hw : s.wb = p :: rest) : PassB x y acc G D q r s p rest := by
 cases h with
 | I => cases hw
 | S1 k i j la lb h =>
  cases hw
  exact passB_of (p_hello TBA i (by omega) (fun _ h => by cases h) rfl) (.inl ⟨rfl, rfl⟩) (by simp) (.S3a k 0 i j la lb (by omega) h) (by omega) (by omega)
 | S2 k i j la lb h =>
  cases hw
  exact passB_of (p_hello TBA i (by omega) (fun _ h => by cases h; exact ⟨rfl, rfl⟩) busyBA) (.inl ⟨rfl, rfl⟩) (by simp) (.S3b k i j la lb h) (by omega) (by omega)
 | S2p k i j la lb h =>
  cases hw
  exact passB_of (p_hello TBA i (by omega) (fun _ h => by cases h; exact ⟨rfl, rfl⟩) busyBA) (.inl ⟨rfl, rfl⟩) (by simp) (.S3c k i j la lb h) (by omega) (by omega)
 | S3a => cases hw
 | S3b => cases hw
 | S3c k i j la lb h =>
  cases hw
  exact passB_of (p_ignore TBA j (by omega) _ rfl) (.inl ⟨rfl, rfl⟩) (by simp) (.S3a k 1 i j la lb (by omega) h) (by omega) (by omega)
 | S4a k t i j la lb ht h =>
  cases hw
  cases hacc : acc with
  | true => exact passB_of (p_reply TBA i (7 + k) (70 + k + t) _ (Sk.proofD_size ..) (by omega) (by omega) (by rw [hx hacc]; exact seqB_refl' _)) (.inr ⟨rfl, rfl, rfl⟩) (by simp) (.S5 k t i j la rfl h) (by omega) (by omega)
  | false =>
   refine passB_of (p_refuse TBA i (7 + k) (70 + k + t) _ (Sk.proofD_size ..) (by omega) (by omega) ((hy hacc k (by omega)).1 t ht)) (.inl ⟨rfl, rfl⟩) (by simp) ?_ (q' := 1) (r' := 1) (by omega) (by omega)
   have := Ph.X1 (x := x) (y := y) (acc := false) (k + 1 + t) i j k (k + t) la lb (by omega) (by omega) rfl h
   simp only [Nat.add_assoc, Nat.add_comm 1 t] at this ⊢
   exact this
 | S4b k i j la lb h =>
  cases hw
  exact passB_of (p_ignore TBA j (by omega) _ rfl) (.inl ⟨rfl, rfl⟩) (by simp) (.S4a k 1 i j la lb (by omega) h) (by omega) (by omega)
 | S5 => cases hw
 | S6 => cases hw
 | T1 => cases hw
 | T2 k i j la lb h =>
  cases hw
  exact passB_of (p_offer TBA j (70 + k) (7 + k) (by omega) (by omega)) (.inl ⟨rfl, rfl⟩) (by simp) (.T3 k i j la lb h) (by omega) (by omega)
 | T3 => cases hw
 | T4 k i j lb ha h =>
  cases hw
  exact passB_of (p_ack TBA j (70 + k) (7 + k) _ (Sk.proofL_size ..) (by omega) (by rw [hx ha]; exact seqB_refl' _)) (.inr ⟨rfl, rfl, rfl⟩) (by simp) (.T6 k i j ha h) (by omega) (by omega)
 | T6 => cases hw
 | X1 => cases hw
 | X2 => cases hw
 | Y1 k i j p t la lb hp ht ha h =>
  cases hw
  exact passB_of (p_end TBA j _ (by omega) rfl rfl rfl) (.inl ⟨rfl, rfl⟩) (by simp) (.I _ i j la lb h (fun e => by rw [ha] at e; cases e)) (by omega) (by omega)
 | Y2 k i j p t la lb hp ht ha h =>
  cases hw
  exact passB_of (p_end TBA j _ (by omega) rfl rfl rfl) (.inl ⟨rfl, rfl⟩) (by simp) (.S1 k i j la lb h) (by omega) (by omega)
def DialA (x y : ByteArray) (acc : Bool) (D q r : Nat) (s : Ds) : Prop :=
 (∃ n', dialN s.na exB = (n', 0) ∧ s.ua = false ∧ (outQ n' exB).length ≤ 1 ∧ ∃ q' r', Ph x y acc (D + 1) q' r' ⟨dropO n' exB, s.nb, s.wa, s.wb ++ outQ n' exB, s.ua, s.ub⟩ ∧ q + 3 ≤ q') ∨ (dialN s.na exB = (s.na, 8) ∧ (r = 0 → s.ua = true))
def DialB (x y : ByteArray) (acc : Bool) (D q : Nat) (s : Ds) : Prop :=
 (∃ n', dialN s.nb exA = (n', 0) ∧ s.ub = false ∧ (outQ n' exA).length ≤ 1 ∧ ∃ q' r', Ph x y acc (D + 1) q' r' ⟨s.na, dropO n' exA, s.wa ++ outQ n' exA, s.wb, s.ua, s.ub⟩ ∧ q + 3 ≤ q') ∨ dialN s.nb exA = (s.nb, 8)
theorem dialA_of {s : Ds} {ch di i q' r' : Nat} {l : Bool} (hs : s.na = NA x ch di none l) (hu : s.ua = false) (hP : Ph x y acc (D + 1) q' r' ⟨NA x (ch + 1) (di + 1) (some (cD exA exB x (di + 1) ch)) l, s.nb, s.wa, s.wb ++ [pH exA exB (di + 1)], s.ua, s.ub⟩) (hq : q + 3 ≤ q') (_ : i = i) : DialA x y acc D q r s := by
 refine .inl ⟨_, by rw [hs]; exact d_yes TAB, hu, ?_, q', r', ?_, hq⟩
 ·
  rw [mk_outQ]; simp
 ·
  rw [mk_outQ, mk_drop]; exact hP
theorem dialB_of {s : Ds} {ch di i q' r' : Nat} {l : Bool} (hs : s.nb = NB y ch di none l) (hu : s.ub = false) (hP : Ph x y acc (D + 1) q' r' ⟨s.na, NB y (ch + 1) (di + 1) (some (cD exB exA y (di + 1) ch)) l, s.wa ++ [pH exB exA (di + 1)], s.wb, s.ua, s.ub⟩) (hq : q + 3 ≤ q') (_ : i = i) : DialB x y acc D q s := by
 refine .inl ⟨_, by rw [hs]; exact d_yes TBA, hu, ?_, q', r', ?_, hq⟩
 ·
  rw [mk_outQ]; simp
 ·
  rw [mk_outQ, mk_drop]; exact hP
theorem ph_dialA (h : Ph x y acc D q r s) : DialA x y acc D q r s := by
 cases h with
 | I k i j la lb h h0 => exact dialA_of (i := 0) rfl rfl (.S1 _ (i + 1) j la lb (by omega)) (by omega) rfl
 | T1 k i j la lb h => exact dialA_of (i := 0) rfl rfl (.S2 k (i + 1) j la lb (by omega)) (by omega) rfl
 | Y1 k i j p t la lb hp ht ha h => exact dialA_of (i := 0) rfl rfl (.Y2 _ (i + 1) j p t la lb hp ht ha (by omega)) (by omega) rfl
 | S6 | T6 => exact .inr ⟨d_twice TAB _, fun _ => rfl⟩
 | _ => exact .inr ⟨d_twice TAB _, fun h => by cases h⟩
theorem ph_dialB (h : Ph x y acc D q r s) : DialB x y acc D q s := by
 cases h with
 | I k i j la lb h h0 => exact dialB_of (i := 0) rfl rfl (.T1 _ i (j + 1) la lb (by omega)) (by omega) rfl
 | S1 k i j la lb h => exact dialB_of (i := 0) rfl rfl (.S2 k i (j + 1) la lb (by omega)) (by omega) rfl
 | X1 k i j p t la lb hp ht ha h => exact dialB_of (i := 0) rfl rfl (.X2 _ i (j + 1) p t la lb hp ht ha (by omega)) (by omega) rfl
 | _ => exact .inr (d_twice TBA _)
def PkOk (p : ByteArray) : Prop := p.size ≤ 100000 ∧ ∀ px, readF p = some px → px.kind ≠ 70
theorem PkOk.mk' {d : Bool} {n : Nat} {kind : UInt8} {cont : ByteArray} (hn : n < 18446744073709551616) (hk : okK kind.toNat = true) (h7 : kind.toNat ≠ 70) (hc : cont.size ≤ 1000) : PkOk (pkF d n kind cont) := by
 refine ⟨?_, fun px h => ?_⟩
 ·
  unfold pkF
  simp only [ByteArray.size_append, Sk.numF_size]
  have z1 : ∀ x : UInt8, (ByteArray.mk #[x]).size = 1 := fun _ => rfl
  rw [z1, z1]
  omega
 ·
  rw [readF_pk d n kind cont hn hk] at h
  cases h
  exact h7
theorem ok_pH {f t : ByteArray} {n : Nat} (hf : f.size = 1) (ht : t.size = 1) (hn : n < 18446744073709551616) : PkOk (pH f t n) := by
 refine PkOk.mk' hn rfl (by decide) ?_
 unfold Sk.helloF
 rw [ByteArray.size_append, ByteArray.size_append, Sk.encF_size, Sk.lenF_size, ht]
 have : Sk.helloC.size = 2 := rfl
 simp only [hf]
 omega
theorem ok_pY {n : Nat} (hn : n < 18446744073709551616) : PkOk (pY n) := by
 refine PkOk.mk' hn rfl (by decide) ?_
 rw [ByteArray.size_append, Sk.numF_size]
 have : Sk.statusC.size = 1 := rfl
 omega
theorem ok_pO {f : ByteArray} {n ky : Nat} (hf : f.size = 1) (hn : n < 18446744073709551616) : PkOk (pO f n ky) := by
 refine PkOk.mk' hn rfl (by decide) ?_
 rw [Sk.offerM_size]
 simp only [hf]
 omega
theorem ok_pR {f t ck : ByteArray} {n kx ky : Nat} (hn : n < 18446744073709551616) : PkOk (pR f t ck n kx ky) := by
 refine PkOk.mk' hn rfl (by decide) ?_
 rw [Sk.replyM_size _ _ (Sk.proofD_size ..)]
 omega
theorem ok_pA {f t ck : ByteArray} {n kx ky : Nat} (hn : n < 18446744073709551616) : PkOk (pA f t ck n kx ky) := by
 refine PkOk.mk' hn rfl (by decide) ?_
 rw [ByteArray.size_append, Sk.proofL_size]
 have : Sk.ackC.size = 1 := rfl
 omega
theorem ok_pE {n : Nat} (hn : n < 18446744073709551616) : PkOk (pE n) := PkOk.mk' hn rfl (by decide) (by show (0 : Nat) ≤ 1000; omega)
def CxOk (x : Cx) : Prop := x.gen = 0 → Sk.SdOk x.side ∧ x.side.state = 1
section
variable {me ot ck : ByteArray} {num kx ky id : Nat}
theorem fine_d (T : Two me ot) (hk : ck.size ≤ 6000) (hx : kx ≤ 18446744073709551615) (hz : ot.size ≤ 6000) : Sk.Fine (Sk.dialS ⟨me, 1⟩ ot ck kx) := Sk.Fine.dialS T.pr hz hk hx
theorem pr_small (T : Two me ot) : ot.size ≤ 32 ∧ 1 ≤ 2147483647 := ⟨(nameF_size _ T.no).2, by decide⟩
theorem ok_cD (T : Two me ot) (hk : ck.size ≤ 6000) (hx : kx ≤ 18446744073709551615) : CxOk (cD me ot ck num kx) := fun _ => ⟨(fine_d T hk hx (by have := (pr_small T).1; omega)).1, rfl⟩
theorem ok_cE (T : Two me ot) (hk : ck.size ≤ 6000) (hx : kx ≤ 18446744073709551615) (hy : ky ≤ 18446744073709551615) : CxOk (cE me ot ck num kx ky) := fun _ =>
 ⟨((fine_d T hk hx (by have := (pr_small T).1; omega)).mk' (s' := Sk.dia1 ⟨me, 1⟩ ot ck kx ⟨ot, 1⟩ ky) rfl (pr_small T) rfl rfl rfl hy (by simp [Sk.dia1, Sk.dialS])).1, rfl⟩
theorem ok_cI (T : Two me ot) (hk : ck.size ≤ 6000) (hy : ky ≤ 18446744073709551615) : CxOk (cI me ot ck num ky) := fun _ =>
 ⟨((Sk.Fine.listenS T.pr hk hy).mk' (s' := Sk.lis2 ⟨me, 1⟩ ck ky ⟨ot, 1⟩) rfl (pr_small T) rfl rfl rfl (by show (0 : Nat) ≤ _; omega) (by simp [Sk.lis2])).1, rfl⟩
theorem ok_cU : CxOk (cU me ot ck num kx ky id) := fun h => by cases h
theorem ok_cV : CxOk (cV me ot ck num kx ky id) := fun h => by cases h
end
structure NOk (n : Nd) (k : ByteArray) : Prop where
 nd : NdOk n
 di : n.di + 1 < 18446744073709551616
 o : (get n.O k).getD [] = []
 c : ∀ x, get n.C k = some x → CxOk x
theorem NOk.mk' {me ot ck : ByteArray} {ch di : Nat} {c : Option Cx} {l : Bool} (h1 : newOk me 1 = true) (h2 : ck.size ≤ 6000) (h3 : ch + 1 < 18446744073709551616) (h4 : di + 1 < 18446744073709551616) (h5 : ∀ x, c = some x → CxOk x) : NOk (mkN me ot ck ch di c l []) ot :=
 ⟨⟨h1, h2, h3⟩, h4, mk_getO, fun x hx => h5 x (by rw [mk_getC] at hx; exact hx)⟩
structure DsOk (s : Ds) : Prop where
 a : NOk s.na exB
 b : NOk s.nb exA
 la : s.wa.length ≤ 2
 lb : s.wb.length ≤ 2
 pa : ∀ p ∈ s.wa, PkOk p
 pb : ∀ p ∈ s.wb, PkOk p
theorem pk0 : ∀ p ∈ ([] : List ByteArray), PkOk p := fun _ h => by cases h
theorem pk1 {a : ByteArray} (h : PkOk a) : ∀ p ∈ [a], PkOk p := fun _ e => by rw [List.mem_singleton.1 e]; exact h
theorem pk2 {a b : ByteArray} (h : PkOk a) (k : PkOk b) : ∀ p ∈ [a, b], PkOk p := fun p e => by
 rcases List.mem_cons.1 e with rfl | e
 ·
  exact h
 ·
  rw [List.mem_singleton.1 e]; exact k
theorem nOkA : newOk exA 1 = true := by decide +kernel
theorem nOkB : newOk exB 1 = true := by decide +kernel
theorem none_ok : ∀ x, (none : Option Cx) = some x → CxOk x := fun _ h => by cases h
theorem some_ok {c : Cx} (h : CxOk c) : ∀ x, some c = some x → CxOk x := fun _ e => by cases e; exact h
theorem ph_ok (h : Ph x y acc D q r s) (hD : D ≤ 1000000) (hx : x.size ≤ 6000) (hy : y.size ≤ 6000) : DsOk s := by
 have A := fun ch di c l (h3 : ch + 1 < 18446744073709551616) (h4 : di + 1 < 18446744073709551616) h5 => NOk.mk' (me := exA) (ot := exB) (ck := x) (ch := ch) (di := di) (c := c) (l := l) nOkA hx h3 h4 h5
 have B := fun ch di c l (h3 : ch + 1 < 18446744073709551616) (h4 : di + 1 < 18446744073709551616) h5 => NOk.mk' (me := exB) (ot := exA) (ck := y) (ch := ch) (di := di) (c := c) (l := l) nOkB hy h3 h4 h5
 cases h with
 | I k i j la lb h h0 => exact ⟨A _ _ _ _ (by omega) (by omega) none_ok, B _ _ _ _ (by omega) (by omega) none_ok, by simp, by simp, pk0, pk0⟩
 | S1 k i j la lb h => exact ⟨A _ _ _ _ (by omega) (by omega) (some_ok (ok_cD TAB hx (by omega))), B _ _ _ _ (by omega) (by omega) none_ok, by simp, by simp, pk0, (pk1 (ok_pH rfl rfl (by omega)))⟩
 | S2 k i j la lb h => exact ⟨A _ _ _ _ (by omega) (by omega) (some_ok (ok_cD TAB hx (by omega))), B _ _ _ _ (by omega) (by omega) (some_ok (ok_cD TBA hy (by omega))), by simp, by simp, (pk1 (ok_pH rfl rfl (by omega))), (pk1 (ok_pH rfl rfl (by omega)))⟩
 | S2p k i j la lb h => exact ⟨A _ _ _ _ (by omega) (by omega) (some_ok (ok_cD TAB hx (by omega))), B _ _ _ _ (by omega) (by omega) (some_ok (ok_cD TBA hy (by omega))), by simp, by simp, pk0, (pk2 (ok_pH rfl rfl (by omega)) (ok_pY (by omega)))⟩
 | S3a k t i j la lb ht h => exact ⟨A _ _ _ _ (by omega) (by omega) (some_ok (ok_cD TAB hx (by omega))), B _ _ _ _ (by omega) (by omega) (some_ok (ok_cI TBA hy (by omega))), by simp, by simp, (pk1 (ok_pO rfl (by omega))), pk0⟩
 | S3b k i j la lb h => exact ⟨A _ _ _ _ (by omega) (by omega) (some_ok (ok_cD TAB hx (by omega))), B _ _ _ _ (by omega) (by omega) (some_ok (ok_cI TBA hy (by omega))), by simp, by simp, (pk2 (ok_pH rfl rfl (by omega)) (ok_pO rfl (by omega))), pk0⟩
 | S3c k i j la lb h => exact ⟨A _ _ _ _ (by omega) (by omega) (some_ok (ok_cD TAB hx (by omega))), B _ _ _ _ (by omega) (by omega) (some_ok (ok_cI TBA hy (by omega))), by simp, by simp, (pk1 (ok_pO rfl (by omega))), (pk1 (ok_pY (by omega)))⟩
 | S4a k t i j la lb ht h => exact ⟨A _ _ _ _ (by omega) (by omega) (some_ok (ok_cE TAB hx (by omega) (by omega))), B _ _ _ _ (by omega) (by omega) (some_ok (ok_cI TBA hy (by omega))), by simp, by simp, pk0, (pk1 (ok_pR (by omega)))⟩
 | S4b k i j la lb h => exact ⟨A _ _ _ _ (by omega) (by omega) (some_ok (ok_cE TAB hx (by omega) (by omega))), B _ _ _ _ (by omega) (by omega) (some_ok (ok_cI TBA hy (by omega))), by simp, by simp, pk0, (pk2 (ok_pY (by omega)) (ok_pR (by omega)))⟩
 | S5 k t i j la ha h => exact ⟨A _ _ _ _ (by omega) (by omega) (some_ok (ok_cE TAB hx (by omega) (by omega))), B _ _ _ _ (by omega) (by omega) (some_ok ok_cV), by simp, by simp, (pk1 (ok_pA (by omega))), pk0⟩
 | S6 k t i j ha h => exact ⟨A _ _ _ _ (by omega) (by omega) (some_ok ok_cU), B _ _ _ _ (by omega) (by omega) (some_ok ok_cV), by simp, by simp, pk0, pk0⟩
 | T1 k i j la lb h => exact ⟨A _ _ _ _ (by omega) (by omega) none_ok, B _ _ _ _ (by omega) (by omega) (some_ok (ok_cD TBA hy (by omega))), by simp, by simp, (pk1 (ok_pH rfl rfl (by omega))), pk0⟩
 | T2 k i j la lb h => exact ⟨A _ _ _ _ (by omega) (by omega) (some_ok (ok_cI TAB hx (by omega))), B _ _ _ _ (by omega) (by omega) (some_ok (ok_cD TBA hy (by omega))), by simp, by simp, pk0, (pk1 (ok_pO rfl (by omega)))⟩
 | T3 k i j la lb h => exact ⟨A _ _ _ _ (by omega) (by omega) (some_ok (ok_cI TAB hx (by omega))), B _ _ _ _ (by omega) (by omega) (some_ok (ok_cE TBA hy (by omega) (by omega))), by simp, by simp, (pk1 (ok_pR (by omega))), pk0⟩
 | T4 k i j lb ha h => exact ⟨A _ _ _ _ (by omega) (by omega) (some_ok ok_cV), B _ _ _ _ (by omega) (by omega) (some_ok (ok_cE TBA hy (by omega) (by omega))), by simp, by simp, pk0, (pk1 (ok_pA (by omega)))⟩
 | T6 k i j ha h => exact ⟨A _ _ _ _ (by omega) (by omega) (some_ok ok_cV), B _ _ _ _ (by omega) (by omega) (some_ok ok_cU), by simp, by simp, pk0, pk0⟩
 | X1 k i j p t la lb hp ht ha h => exact ⟨A _ _ _ _ (by omega) (by omega) (some_ok (ok_cE TAB hx (by omega) (by omega))), B _ _ _ _ (by omega) (by omega) none_ok, by simp, by simp, (pk1 (ok_pE (by omega))), pk0⟩
 | X2 k i j p t la lb hp ht ha h => exact ⟨A _ _ _ _ (by omega) (by omega) (some_ok (ok_cE TAB hx (by omega) (by omega))), B _ _ _ _ (by omega) (by omega) (some_ok (ok_cD TBA hy (by omega))), by simp, by simp, (pk2 (ok_pE (by omega)) (ok_pH rfl rfl (by omega))), pk0⟩
 | Y1 k i j p t la lb hp ht ha h => exact ⟨A _ _ _ _ (by omega) (by omega) none_ok, B _ _ _ _ (by omega) (by omega) (some_ok (ok_cE TBA hy (by omega) (by omega))), by simp, by simp, pk0, (pk1 (ok_pE (by omega)))⟩
 | Y2 k i j p t la lb hp ht ha h => exact ⟨A _ _ _ _ (by omega) (by omega) (some_ok (ok_cD TAB hx (by omega))), B _ _ _ _ (by omega) (by omega) (some_ok (ok_cE TBA hy (by omega) (by omega))), by simp, by simp, pk0, (pk2 (ok_pE (by omega)) (ok_pH rfl rfl (by omega)))⟩
theorem ph_start (x y : ByteArray) (acc : Bool) : Ph x y acc 0 0 0 ⟨NA x 7 0 none false, NB y 70 0 none false, [], [], false, false⟩ := .I 0 0 0 false false rfl (fun _ => rfl)
theorem ph_rank (h : Ph x y acc D q r s) : (r = 0 → s.wa = [] ∧ s.wb = []) ∧ (s.wa = [] → s.wb = [] → r = 0) := by
 cases h <;> simp
theorem ph_low (h : Ph x y acc D q r s) : q ≤ 6 ∧ r ≤ 6 := by
 cases h <;> simp
theorem ph_down (h : Ph x y false D q r s) : s.ua = false ∧ s.ub = false := by
 cases h <;> simp_all
theorem ph_acc (h : Ph x y true D q 0 s) (hD : 0 < D) : s.ua = true ∧ s.ub = true ∧ (∃ c, s.na.C = [(exB, c)] ∧ c.gen = 1) ∧ ∃ c, s.nb.C = [(exA, c)] ∧ c.gen = 1 := by
 cases h with
 | I k i j la lb h h0 => have := h0 rfl; omega
 | S6 => exact ⟨rfl, rfl, ⟨_, rfl, rfl⟩, ⟨_, rfl, rfl⟩⟩
 | T6 => exact ⟨rfl, rfl, ⟨_, rfl, rfl⟩, ⟨_, rfl, rfl⟩⟩
theorem ph_rej (h : Ph x y false D q 0 s) : s.na.C = [] ∧ s.nb.C = [] := by
 cases h with
 | I => exact ⟨rfl, rfl⟩
 | S6 k t i j ha h => cases ha
 | T6 k i j ha h => cases ha
end
def Wq (w : World) (base : Nat) (v : Value) (L : List ByteArray) : Prop :=
 (v = .slice none 0 0 ∧ L = []) ∨ ∃ g o cap cur, v = .slice (some ⟨g, o, none⟩) L.length cap ∧ base ≤ g ∧ w.heap[g]? = some (.cells cur 9 (0, 0)) ∧ L.length ≤ cap ∧ cap ≤ maxLen ∧ o + cap ≤ cur.size ∧ ∀ i, (h : i < L.length) → cur[o + i]? = some (.string L[i])
theorem und28 : Tryz.prog.underlying 28 = some (.slice 9) := by kernel_rfl
theorem inf9 : ∃ i z, Tryz.prog.info? 9 = some i ∧ i.zero = some z ∧ i.size = 1 ∧ i.bytes = 16 ∧ z.cells.size = 1 := by
 have h : (Tryz.prog.info? 9).map (fun i => (i.zero, i.size, i.bytes)) = some (some (.string ⟨#[]⟩), 1, 16) := by kernel_rfl
 rcases hi : Tryz.prog.info? 9 with _ | i
 ·
  rw [hi] at h; cases h
 ·
  rw [hi] at h
  simp only [Option.map_some, Option.some.injEq, Prod.mk.injEq] at h
  exact ⟨i, _, rfl, h.1, h.2.1, h.2.2, rfl⟩
section
variable {w w' : World} {base : Nat} {v : Value} {L : List ByteArray}
theorem Wq.nil (w : World) (base : Nat) : Wq w base (.slice none 0 0) [] := .inl ⟨rfl, rfl⟩
theorem Wq.lt (h : Wq w base v L) : ∀ b, v.ownBlock = some b → base ≤ b ∧ b < w.heap.size := by
 rintro b hb
 rcases h with ⟨rfl, _⟩ | ⟨g, o, cap, cur, rfl, h1, h2, _⟩
 ·
  cases hb
 ·
  cases hb
  exact ⟨h1, (Array.getElem?_eq_some_iff.1 h2).1⟩
theorem Wq.only {F : List Nat} (h : Wq w base v L) (o : Only F w w') (d : ∀ b, v.ownBlock = some b → b ∉ F) : Wq w' base v L := by
 rcases h with ⟨rfl, rfl⟩ | ⟨g, of, cap, cur, rfl, h1, h2, h3⟩
 ·
  exact .inl ⟨rfl, rfl⟩
 ·
  exact .inr ⟨g, of, cap, cur, rfl, h1, (o.block g (Array.getElem?_eq_some_iff.1 h2).1 (d g rfl)).trans h2, h3⟩
theorem Wq.form (h : Wq w base v L) : ∃ a cap, v = .slice a L.length cap ∧ L.length ≤ cap ∧ cap ≤ maxLen := by
 rcases h with ⟨rfl, rfl⟩ | ⟨g, of, cap, cur, rfl, h1, h2, h3, h4, _⟩
 ·
  exact ⟨_, _, rfl, Nat.le_refl _, by unfold maxLen; omega⟩
 ·
  exact ⟨_, _, rfl, h3, h4⟩
theorem sl_form {b2 : Nat} {x : Value} {M : List ByteArray} (h : Sl w b2 9 1 strC x M) : ∃ a cap, x = .slice a M.length cap ∧ M.length ≤ cap ∧ cap ≤ maxLen := by
 rcases h.form with ⟨rfl, rfl⟩ | ⟨g, cap, rfl, _, _, h3, h4, _⟩
 ·
  exact ⟨_, _, rfl, Nat.le_refl _, by unfold maxLen; omega⟩
 ·
  exact ⟨_, _, rfl, h3, h4⟩
theorem src_of {b2 : Nat} {x : Value} {M : List ByteArray} (h : Sl w b2 9 1 strC x M) : Src Tryz.prog 1 28 x M.length (M.flatMap strC) w := by
 rcases h.form with ⟨rfl, rfl⟩ | ⟨g, cap, rfl, _⟩
 ·
  exact Src.ofNil w und28 0
 ·
  refine Src.ofSlice w und28 ⟨g, 0, none⟩ M.length cap _ (flat_len (c := strC) (m := 1) (fun _ => rfl) M) (fun j u hj => ?_) (fun u hu => ?_)
  ·
   rw [add_none, Nat.zero_add]
   have hl : j < M.length := by
    have := (List.getElem?_eq_some_iff.1 hj).1
    rw [flat_len (c := strC) (m := 1) (fun _ => rfl) M] at this
    omega
   have hc := h.cell (fun _ => rfl) j 0 hl (by omega)
   rw [Nat.mul_one, Nat.add_zero] at hc
   rw [hc, ← hj]
   have := flat_at (c := strC) (m := 1) (fun _ => rfl) M j 0 hl (by omega)
   rw [Nat.mul_one, Nat.add_zero] at this
   exact this.symm
  ·
   obtain ⟨s, _, q⟩ := List.mem_flatMap.1 hu
   rw [List.mem_singleton.1 q]
   rfl
theorem flat_get (M : List ByteArray) (j : Nat) (h : j < M.length) : (M.flatMap strC)[j]? = some (.string M[j]) := by
 have := flat_at (c := strC) (m := 1) (fun _ => rfl) M j 0 h (by omega)
 rw [Nat.mul_one, Nat.add_zero] at this
 exact this
theorem flat_size (M : List ByteArray) : (M.flatMap strC).length = M.length := by
 have := flat_len (c := strC) (m := 1) (fun _ => rfl) M
 omega
theorem Wq.row (hb : base ≤ w.heap.size) (olds M : List ByteArray) (cap : Nat) (hc : olds.length + M.length ≤ cap) (hm : cap ≤ maxLen) (z : Array Value) (hz : z.size = 1) :
  Wq (w.drew.alloc (.cells ((olds.flatMap strC ++ M.flatMap strC).toArray ++ Builtin.zeroCells z (cap - (olds.length + M.length))) 9)) base (.slice (some ⟨w.heap.size, 0, none⟩) (olds.length + M.length) cap) (olds ++ M) := by
 refine .inr ⟨w.heap.size, 0, cap, _, by rw [List.length_append], hb, World.alloc_heap_new w.drew _, by rw [List.length_append]; exact hc, hm, ?_, fun i hi => ?_⟩
 ·
  rw [Array.size_append, List.size_toArray, List.length_append, flat_size, flat_size, size_zeroCells, hz]
  omega
 ·
  rw [← List.flatMap_append, Nat.zero_add, Array.getElem?_append_left (by rw [List.size_toArray, flat_size]; exact hi), List.getElem?_toArray]
  exact flat_get _ i hi
theorem Wq.add {b2 : Nat} {x : Value} {M : List ByteArray} (h : Wq w base v L) (k : Sl w b2 9 1 strC x M) (hM : M.length ≤ 1) (hl : L.length ≤ 1000000) (hb : base ≤ w.heap.size) :
  ∃ v' W', (Builtin.append_ #[28, 28] 28 #[v, x]).run Tryz.prog w = .ok v' W' ∧ Wq W' base v' (L ++ M) ∧ Only v.ownBlock.toList w W' ∧ (v'.ownBlock = v.ownBlock ∨ ∀ b, v'.ownBlock = some b → w.heap.size ≤ b ∧ b < W'.heap.size) := by
 obtain ⟨i, z, hi, hz, h1, h2, h3⟩ := inf9
 have src := src_of k
 rw [← h1] at src
 have gro : ∀ (a : Option Addr) (sc : Nat), sc < L.length + M.length → (Builtin.firstCells i.size L.length (.slice a L.length sc)).run Tryz.prog w.drew = .ok (L.flatMap strC).toArray w.drew →
   ∃ v' W', (Builtin.append_ #[28, 28] 28 #[.slice a L.length sc, x]).run Tryz.prog w = .ok v' W' ∧ Wq W' base v' (L ++ M) ∧ Only v.ownBlock.toList w W' ∧ (v'.ownBlock = v.ownBlock ∨ ∀ b, v'.ownBlock = some b → w.heap.size ≤ b ∧ b < W'.heap.size) := by
  intro a sc hg hold
  have hrun := run_append_grow_src (P := Tryz.prog) w 28 28 28 9 i z und28 hi hz a L.length sc (L.flatMap strC) hold x M.length _ src hg (by omega) (growslice_fits hg (by rw [h2]; omega))
  refine ⟨_, _, hrun, ?_, ?_, .inr ?_⟩
  ·
   exact Wq.row hb L M _ (grownCap_ge w _ sc 9) (grownCap_le_maxLen w _ sc 9 (by unfold maxLen; omega)) z.cells h3
  ·
   exact (Only.drew _ w).trans (Only.alloc _ w.drew _)
  ·
   intro b hb'
   cases hb'
   exact ⟨Nat.le_refl _, by simp⟩
 rcases h with ⟨rfl, rfl⟩ | ⟨g, o, cap, cur, rfl, e1, e2, e3, e4, e5, e6⟩
 ·
  by_cases hm : M.length = 0
  ·
   obtain rfl := List.eq_nil_of_length_eq_zero hm
   exact ⟨_, _, run_append_nothing (P := Tryz.prog) w 28 28 28 9 i und28 hi none 0 0 (Nat.le_refl _) x src, .inl ⟨rfl, rfl⟩, Only.refl _ _, .inl rfl⟩
  ·
   refine gro none 0 (by simp only [List.length_nil]; omega) ?_
   exact run_firstCells_none w.drew i.size 0 0 0
 ·
  by_cases hr : L.length + M.length ≤ cap
  ·
   rcases M with _ | ⟨p, r⟩
   ·
    refine ⟨_, _, run_append_nothing (P := Tryz.prog) w 28 28 28 9 i und28 hi _ _ _ e3 x src, .inr ⟨g, o, cap, cur, by rw [List.append_nil], e1, e2, by rw [List.append_nil]; exact e3, e4, e5, ?_⟩, Only.refl _ _, .inl rfl⟩
    rw [List.append_nil]
    exact e6
   ·
    obtain rfl : r = [] := List.eq_nil_of_length_eq_zero (by simp only [List.length_cons] at hM; omega)
    have hlen : ([p] : List ByteArray).length = 1 := rfl
    rw [hlen] at hr
    have hrun := run_append_room_src (P := Tryz.prog) w 28 28 28 9 i und28 hi g o L.length cap x 1 _ src hr (fun j hj => by
     obtain rfl : j = 0 := by simp [strC] at hj; exact hj
     rw [h1, cell_at e2, Nat.mul_one, Nat.add_zero, Array.getElem?_eq_getElem (by omega)]
     rfl) (fun j hj => by simp [World.frozen?, e2])
    rw [h1, Nat.mul_one] at hrun
    refine ⟨_, _, hrun, .inr ⟨g, o, cap, cur.setIfInBounds (o + L.length) (.string p), by simp, e1, ?_, by simp; omega, e4, by simpa using e5, fun j hj => ?_⟩, ?_, .inl rfl⟩
    ·
     exact Blk.set_ (show Blk w g 9 cur from e2) (o + L.length) (.string p)
    ·
     rw [List.length_append, hlen] at hj
     by_cases hjl : j < L.length
     ·
      rw [Array.getElem?_setIfInBounds_ne (by omega), e6 j hjl, List.getElem_append_left hjl]
     ·
      obtain rfl : j = L.length := by omega
      rw [Array.getElem?_setIfInBounds_self_of_lt (by omega), List.getElem_append_right (Nat.le_refl _)]
      simp
    ·
     exact Only.setCell w ⟨g, o + L.length, none⟩ _ (by simp [Value.ownBlock])
  ·
   refine gro _ cap (by omega) ?_
   rw [h1]
   exact run_firstCells_some w.drew 1 L.length ⟨g, o, none⟩ L.length cap (L.flatMap strC) (by rw [flat_size, Nat.mul_one]) (fun j u hj => by
    have hjl : j < L.length := by
     have := (List.getElem?_eq_some_iff.1 hj).1
     rw [flat_size] at this
     exact this
    rw [flat_get L j hjl] at hj
    rw [add_none, cell_at (w := w.drew) e2, e6 j hjl, hj])
theorem Wq.pop {p : ByteArray} {r : List ByteArray} (h : Wq w base v (p :: r)) : ∃ g o o' cap, v = .slice (some ⟨g, o, none⟩) (r.length + 1) cap ∧ g < w.heap.size ∧ r.length + 1 ≤ cap ∧ cap ≤ maxLen ∧ w.cell? ⟨g, o, none⟩ = some (.string p) ∧
  (∀ W, (Instr.slice 28 (.slice (some ⟨g, o, none⟩) (r.length + 1) cap) (some (.int .i64 1)) none none).run Tryz.prog W = .ok (.slice (some ⟨g, o', none⟩) r.length (cap - 1)) W) ∧ Wq w base (.slice (some ⟨g, o', none⟩) r.length (cap - 1)) r := by
 rcases h with ⟨_, h⟩ | ⟨g, o, cap, cur, rfl, e1, e2, e3, e4, e5, e6⟩
 ·
  cases h
 ·
  simp only [List.length_cons] at e3 e6 ⊢
  have hc : w.cell? ⟨g, o, none⟩ = some (.string p) := by rw [cell_at e2]; exact e6 0 (by omega)
  have hs : ∀ W, (sizeOf (Tryz.prog.elem 28)).run Tryz.prog W = .ok 1 W := fun W => by kernel_rfl
  have hu : Tryz.prog.underlying 28 = some (.slice (Tryz.prog.elem 28)) := by kernel_rfl
  have hw : ∀ W, (Instr.slice 28 (.slice (some ⟨g, o, none⟩) (r.length + 1) cap) (some (.int .i64 1)) none none).run Tryz.prog W = .ok (sliced (some ⟨g, o, none⟩) 1 (r.length + 1) cap 1) W := by
   intro W
   rw [run_slice_l W 28 (some ⟨g, o, none⟩) (r.length + 1) cap hu .i64 1 (by omega) (by omega), hs]
   rfl
  by_cases h1 : cap = 1
  ·
   refine ⟨g, o, o, cap, rfl, (Array.getElem?_eq_some_iff.1 e2).1, e3, e4, hc, fun W => ?_, .inr ⟨g, o, cap - 1, cur, rfl, e1, e2, by omega, by omega, by omega, fun i hi => by omega⟩⟩
   rw [hw W]
   unfold sliced
   rw [if_pos h1]
   rfl
  ·
   refine ⟨g, o, o + 1, cap, rfl, (Array.getElem?_eq_some_iff.1 e2).1, e3, e4, hc, fun W => ?_, .inr ⟨g, o + 1, cap - 1, cur, rfl, e1, e2, by omega, by omega, by omega, fun i hi => ?_⟩⟩
   ·
    rw [hw W]
    unfold sliced
    rw [if_neg h1, Option.map_some, add_none]
    rfl
   ·
    have := e6 (i + 1) (by omega)
    rw [show o + (i + 1) = o + 1 + i by omega] at this
    exact this
end
end Go.Proofs.YtoaimoemaoinhaaGreatDoor
