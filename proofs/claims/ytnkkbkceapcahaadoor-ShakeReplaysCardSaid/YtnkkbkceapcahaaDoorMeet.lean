/- Plain: what two sides do with each other's messages. -/
import Derived.Test.YtnkkbkceapcahaaDoorOffer
namespace Go.Proofs.YtnkkbkceapcahaaDoor
open Go.RowKit Go.Rt Go.Rw

theorem ba_ext {a b : ByteArray} (h : a.data.toList = b.data.toList) : a = b := WideShapes.bytes_inj h
theorem app_list (a b : ByteArray) : (a ++ b).data.toList = a.data.toList ++ b.data.toList := by simp [ByteArray.data_append]
theorem ext_list (a : ByteArray) (i j : Nat) : (a.extract i j).data.toList = (a.data.toList.take j).drop i := by
  rw [ByteArray.data_extract, Array.toList_extract, List.extract_eq_drop_take']
theorem size_list (a : ByteArray) : a.size = a.data.toList.length := by simp [← ByteArray.size_data]
theorem ext_left (a b : ByteArray) : (a ++ b).extract 0 a.size = a := by
  apply ba_ext
  rw [ext_list, app_list, size_list, List.drop_zero, List.take_append_of_le_length (Nat.le_refl _), List.take_length]
theorem ext_right (a b : ByteArray) : (a ++ b).extract a.size (a ++ b).size = b := by
  apply ba_ext
  rw [ext_list, app_list, size_list, size_list, app_list, List.take_length, List.drop_append_of_le_length (Nat.le_refl _), List.drop_length, List.nil_append]
theorem ext_mid (a b c : ByteArray) : (a ++ b ++ c).extract a.size (a.size + b.size) = b := by
  apply ba_ext
  rw [ext_list, app_list, app_list, size_list, size_list, ← List.length_append, List.take_append_of_le_length (Nat.le_refl _), List.take_length, List.drop_append_of_le_length (Nat.le_refl _), List.drop_length, List.nil_append]
theorem atB_list (a : ByteArray) (i : Nat) : atB a i = ((a.data.toList[i]?).getD 0).toNat := by
  unfold atB
  rw [Array.getD_eq_getD_getElem?, ← Array.getElem?_toList]
theorem atB_left (a b : ByteArray) (i : Nat) (h : i < a.size) : atB (a ++ b) i = atB a i := by
  rw [atB_list, atB_list, app_list, List.getElem?_append_left (by rw [← size_list]; exact h)]
theorem numF_at (n m k : Nat) (h : k < m) : atB (numF n m) k = n / 2 ^ (8 * (m - 1 - k)) % 256 := by
  rw [atB_list]
  have e : (numF n m).data.toList = (numL n m).map UInt8.ofNat := by simp [numF]
  rw [e, List.getElem?_map]
  have hl : k < (numL n m).length := by simpa [numL] using h
  rw [List.getElem?_eq_getElem hl]
  simp only [numL, List.getElem_map, List.getElem_range, Option.map_some, Option.getD_some]
  rw [UInt8.toNat_ofNat', Nat.mod_eq_of_lt (Nat.mod_lt _ (by omega))]
theorem valF_num (n m : Nat) : ∀ k, k ≤ m → valF (numF n m) k = n / 2 ^ (8 * (m - k)) % 2 ^ (8 * k)
  | 0, _ => by simp [valF, Nat.mod_one]
  | k + 1, h => by
    have ih := valF_num n m k (by omega)
    have a := numF_at n m k (by omega)
    unfold atB at a
    simp only [valF]
    rw [ih, a]
    have e1 : m - k = (m - (k + 1)) + 1 := by omega
    have e2 : m - 1 - k = m - (k + 1) := by omega
    rw [e1, e2, Nat.mul_succ, Nat.pow_add, ← Nat.div_div_eq_div_mul]
    generalize n / 2 ^ (8 * (m - (k + 1))) = z
    rw [show 8 * (k + 1) = 8 + 8 * k by omega, Nat.pow_add, show (2 : Nat) ^ 8 = 256 from rfl, Nat.mod_mul]
    omega
theorem valF_num_eq (n m : Nat) (h : n < 2 ^ (8 * m)) : valF (numF n m) m = n := by
  rw [valF_num n m m (Nat.le_refl _), Nat.sub_self, Nat.mul_zero, Nat.pow_zero, Nat.div_one, Nat.mod_eq_of_lt h]
/-- A valid peer. -/
def PrOk (p : Pr) : Prop := nameF p.name = true ∧ 1 ≤ p.gen ∧ p.gen ≤ 2147483647
theorem PrOk.valid {p : Pr} (h : PrOk p) : validF p = true := by
  unfold validF genB
  rw [h.1, decide_eq_true h.2.1, decide_eq_true h.2.2]
  rfl
theorem numF_one (n : Nat) (h : n < 256) : atB (numF n 1) 0 = n := by rw [numF_at n 1 0 (by omega)]; simp; omega
theorem readPF_enc (p : Pr) (h : PrOk p) (r : ByteArray) : readPF (encF p ++ r) = some (p, r) := by
  obtain ⟨n1, n2⟩ := nameF_size _ h.1
  have e0 : encF p ++ r = numF p.name.size 1 ++ p.name ++ (numF p.gen 4 ++ r) := by
    unfold encF lenF
    rw [ByteArray.append_assoc]
  have z1 := numF_size p.name.size 1
  have z4 := numF_size p.gen 4
  have hat : atB (encF p ++ r) 0 = p.name.size := by
    rw [e0, atB_left _ _ _ (by rw [ByteArray.size_append]; omega), atB_left _ _ _ (by omega), numF_one _ (by omega)]
  have hsz : (encF p ++ r).size = p.name.size + 5 + r.size := by rw [ByteArray.size_append, encF_size]
  have x1 : (encF p ++ r).extract 1 (1 + p.name.size) = p.name := by
    rw [e0]
    have := ext_mid (numF p.name.size 1) p.name (numF p.gen 4 ++ r)
    rwa [z1] at this
  have x2 : (encF p ++ r).extract (1 + p.name.size) (5 + p.name.size) = numF p.gen 4 := by
    have e1 : encF p ++ r = (numF p.name.size 1 ++ p.name) ++ numF p.gen 4 ++ r := by unfold encF lenF; rfl
    rw [e1]
    have := ext_mid (numF p.name.size 1 ++ p.name) (numF p.gen 4) r
    rw [ByteArray.size_append, z1, z4] at this
    rwa [show 1 + p.name.size + 4 = 5 + p.name.size by omega] at this
  have x3 : (encF p ++ r).extract (5 + p.name.size) (encF p ++ r).size = r := by
    have := ext_right (encF p) r
    rwa [encF_size, show p.name.size + 5 = 5 + p.name.size by omega] at this
  have hv : valF (numF p.gen 4) 4 = p.gen := valF_num_eq _ _ (by have := h.2.2; omega)
  have hnot : ¬ ((encF p ++ r).size = 0 ∨ (encF p ++ r).size < 5 + atB (encF p ++ r) 0) := by rw [hat, hsz]; omega
  rw [readPF_good _ hnot (by rw [hat, x1, x2, hv]; exact h.valid), hat, x1, x2, x3, hv]

theorem lenF_at (s : ByteArray) (h : s.size < 256) : atB (lenF s) 0 = s.size := by
  unfold lenF
  rw [atB_left _ _ _ (by rw [numF_size]; omega), numF_one _ h]
theorem lenF_tail (s : ByteArray) : (lenF s).extract 1 (lenF s).size = s := by
  have := ext_right (numF s.size 1) s
  rwa [numF_size] at this
theorem ext_pre2 (c r : ByteArray) (hc : c.size = 2) : (c ++ r).extract 0 2 = c := by have := ext_left c r; rwa [hc] at this
theorem ext_suf2 (c r : ByteArray) (hc : c.size = 2) : (c ++ r).extract 2 (c ++ r).size = r := by have := ext_right c r; rwa [hc] at this
theorem readHF_hello (x : Pr) (hx : PrOk x) (want : ByteArray) (hw : nameF want = true) : readHF (helloF x want) = some (x, want) := by
  obtain ⟨w1, w2⟩ := nameF_size _ hw
  have e : helloF x want = helloC ++ (encF x ++ lenF want) := by unfold helloF; rw [ByteArray.append_assoc]
  rw [e]
  have hz : (helloC ++ (encF x ++ lenF want)).size = 2 + (encF x ++ lenF want).size := by rw [ByteArray.size_append]; rfl
  have h0 : ¬ ((helloC ++ (encF x ++ lenF want)).size < 2 ∨ seqB ((helloC ++ (encF x ++ lenF want)).extract 0 2) helloC = false) := by
    rw [hz, ext_pre2 _ _ rfl, seqB_refl]
    rintro (h | h)
    · omega
    · cases h
  have h1 : readPF ((helloC ++ (encF x ++ lenF want)).extract 2 (helloC ++ (encF x ++ lenF want)).size) = some (x, lenF want) := by
    rw [ext_suf2 _ _ rfl, readPF_enc x hx]
  rw [readHF_good _ _ x h0 h1 (by rw [lenF_at _ (by omega), lenF_tail, lenF_size, hw]; simp; omega), lenF_tail]
theorem greet_hello (l : Sd) (x : Pr) (hx : PrOk x) (want : ByteArray) (hw : nameF want = true) :
    greetF l (helloF x want) = if seqB want l.self.name = false ∨ seqB x.name l.self.name = true then failS l 351 else ({ l with other := x, state := 2 }, ⟨#[]⟩, 0) :=
  greetF_some l _ want x (readHF_hello x hx want hw)
def offerM (y : Pr) (c : Nat) : ByteArray := offerC ++ encF y ++ numF c 8
theorem seqB_size {a b : ByteArray} (h : a.size ≠ b.size) : seqB a b = false := by
  rw [Bool.eq_false_iff]
  intro q
  rw [seqB_eq] at q
  exact h (by rw [q])
theorem offer_offer (d : Sd) (y : Pr) (hy : PrOk y) (c : Nat) (hc : c ≤ 18446744073709551615) :
    offerF d (offerM y c) = if seqB y.name d.want = false then failS d 351 else ({ d with other := y, their := c, sent := true }, replyC ++ numF d.chal 8 ++ proofF letD d.self y d.cookie c d.chal, 0) := by
  have e : offerM y c = offerC ++ (encF y ++ numF c 8) := by unfold offerM; rw [ByteArray.append_assoc]
  have z8 := numF_size c 8
  have zz : (offerM y c).size = 2 + (y.name.size + 5 + 8) := by rw [e, ByteArray.size_append, ByteArray.size_append, encF_size, z8]; rfl
  have hn : ¬ (seqB (offerM y c) busyC = true ∨ seqB (offerM y c) staleC = true) := by
    rw [seqB_size (b := busyC) (by rw [zz]; show _ ≠ 2; omega), seqB_size (b := staleC) (by rw [zz]; show _ ≠ 2; omega)]
    simp
  have h0 : ¬ ((offerM y c).size < 2 ∨ seqB ((offerM y c).extract 0 2) offerC = false) := by
    rw [zz, e, ext_pre2 _ _ rfl, seqB_refl]
    rintro (h | h)
    · omega
    · cases h
  have h1 : readPF ((offerM y c).extract 2 (offerM y c).size) = some (y, numF c 8) := by
    rw [e, ext_suf2 _ _ rfl, readPF_enc y hy]
  have hv : valF (numF c 8) 8 = c := valF_num_eq _ _ (by omega)
  rw [offerF_some d _ _ y hn h0 h1, if_neg (by rw [z8]; simp), hv]
theorem offer_status (d : Sd) (how : Nat) (h : how = 2 ∨ how = 3) : offerF d (statusC ++ numF how 1) = failS d 351 := by
  refine offerF_refused d _ ?_
  rcases h with rfl | rfl
  · exact .inl (by rw [show statusC ++ numF 2 1 = busyC from busy_eq]; exact seqB_refl _)
  · exact .inr (by rw [show statusC ++ numF 3 1 = staleC from stale_eq]; exact seqB_refl _)
def replyM (c : Nat) (P : ByteArray) : ByteArray := replyC ++ numF c 8 ++ P
theorem reply_reply (l : Sd) (c : Nat) (hc : c ≤ 18446744073709551615) (P : ByteArray) (hP : P.size = 32) :
    replyF l (replyM c P) = if seqB P (proofF letD l.other l.self l.cookie l.chal c) = false then failS { l with their := c } 350 else ({ l with their := c, state := 3 }, ackC ++ proofF letL l.self l.other l.cookie c l.chal, 0) := by
  have z8 := numF_size c 8
  have zr : replyC.size = 1 := rfl
  have zz : (replyM c P).size = 41 := by unfold replyM; rw [ByteArray.size_append, ByteArray.size_append, z8, zr, hP]
  have a0 : atB (replyM c P) 0 = 3 := by
    unfold replyM
    rw [atB_left _ _ _ (by rw [ByteArray.size_append]; omega), atB_left _ _ _ (by omega)]
    rfl
  have x1 : (replyM c P).extract 1 9 = numF c 8 := by
    have := ext_mid replyC (numF c 8) P
    rwa [z8, zr] at this
  have x2 : (replyM c P).extract 9 41 = P := by
    have := ext_right (replyC ++ numF c 8) P
    rw [ByteArray.size_append, z8, zr] at this
    have zz' : (replyC ++ numF c 8 ++ P).size = 41 := zz
    rwa [zz'] at this
  have hv : valF (numF c 8) 8 = c := valF_num_eq _ _ (by omega)
  unfold replyF
  rw [if_neg (by rw [zz, a0]; simp), x1, x2]
  simp only [hv]
theorem ack_ack (d : Sd) (P : ByteArray) (hP : P.size = 32) :
    ackF d (ackC ++ P) = if seqB P (proofF letL d.other d.self d.cookie d.chal d.their) = false then failS d 350 else ({ d with state := 3 }, ⟨#[]⟩, 0) := by
  have za : ackC.size = 1 := rfl
  have zz : (ackC ++ P).size = 33 := by rw [ByteArray.size_append, za, hP]
  have a0 : atB (ackC ++ P) 0 = 4 := by rw [atB_left _ _ _ (by omega)]; rfl
  have x1 : (ackC ++ P).extract 1 33 = P := by
    have := ext_right ackC P
    rwa [za, zz] at this
  unfold ackF
  rw [if_neg (by rw [zz, a0]; simp), x1]
end Go.Proofs.YtnkkbkceapcahaaDoor
