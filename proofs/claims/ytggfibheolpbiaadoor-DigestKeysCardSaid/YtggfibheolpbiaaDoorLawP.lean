/- Plain: digits tell strings apart; what zero bytes behind a key do. -/
import Derived.Test.YtggfibheolpbiaaDoorAwake
namespace Go.Proofs.YtggfibheolpbiaaDoor

theorem dig_inj {m n : Nat} (hm : m < 16) (hn : n < 16) (h : digF m = digF n) : m = n := by
  unfold digF at h
  split at h <;> split at h <;> omega
theorem flat_inj : ∀ (L M : List Nat), (∀ x ∈ L, x < 256) → (∀ x ∈ M, x < 256) → (L.flatMap fun c => [digF (c / 16), digF (c % 16)]) = (M.flatMap fun c => [digF (c / 16), digF (c % 16)]) → L = M
  | [], [], _, _, _ => rfl
  | [], _ :: _, _, _, h => by simp at h
  | _ :: _, [], _, _, h => by simp at h
  | x :: L, y :: M, hL, hM, h => by
    have hx := hL x (by simp)
    have hy := hM y (by simp)
    simp only [List.flatMap_cons, List.cons_append, List.nil_append, List.cons.injEq] at h
    obtain ⟨h1, h2, h3⟩ := h
    have e1 := dig_inj (by omega) (by omega) h1
    have e2 := dig_inj (by omega) (by omega) h2
    rw [flat_inj L M (fun z hz => hL z (by simp [hz])) (fun z hz => hM z (by simp [hz])) h3]
    congr 1
    omega
theorem ofNat_inj : ∀ (L M : List Nat), (∀ x ∈ L, x < 256) → (∀ x ∈ M, x < 256) → L.map UInt8.ofNat = M.map UInt8.ofNat → L = M
  | [], [], _, _, _ => rfl
  | [], _ :: _, _, _, h => by simp at h
  | _ :: _, [], _, _, h => by simp at h
  | x :: L, y :: M, hL, hM, h => by
    have hx := hL x (by simp)
    have hy := hM y (by simp)
    simp only [List.map_cons, List.cons.injEq] at h
    have e := congrArg UInt8.toNat h.1
    rw [UInt8.toNat_ofNat', UInt8.toNat_ofNat', Nat.mod_eq_of_lt hx, Nat.mod_eq_of_lt hy] at e
    rw [e, ofNat_inj L M (fun z hz => hL z (by simp [hz])) (fun z hz => hM z (by simp [hz])) h.2]
theorem bytesN_inj {a b : ByteArray} (h : bytesN a = bytesN b) : a = b := by
  apply ByteArray.ext
  have : a.data.toList = b.data.toList := by
    have q : ∀ (L M : List UInt8), L.map UInt8.toNat = M.map UInt8.toNat → L = M := by
      intro L M h
      exact (List.map_inj_right (fun x y => UInt8.toNat_inj.1)).1 h
    exact q _ _ h
  exact Array.toList_inj.1 this
theorem hexS_inj {a b : ByteArray} (h : hexS a = hexS b) : a = b := by
  unfold hexS toBytes at h
  have h1 := congrArg (fun x : ByteArray => x.data.toList) h
  simp only at h1
  exact bytesN_inj (flat_inj _ _ (bytesN_lt a) (bytesN_lt b) (ofNat_inj _ _ (hexL_lt a) (hexL_lt b) h1))
theorem toList_ne {a b : ByteArray} (h : a ≠ b) : (a.toList == b.toList) = false := by
  rw [beq_eq_false_iff_ne]
  intro e
  apply h
  apply ByteArray.ext
  rw [Go.ByteArray.toList_eq, Go.ByteArray.toList_eq] at e
  exact Array.toList_inj.1 e

/-- The key's block does not tell apart a key and the key with zero bytes behind it. -/
theorem blkK_zero (k : ByteArray) (n : Nat) (h : k.size + n ≤ 64) : blkK (k ++ ⟨(List.replicate n 0).toArray⟩) = blkK k := by
  unfold blkK bytesN
  rw [ByteArray.size_append]
  have hs : (ByteArray.mk (List.replicate n (0 : UInt8)).toArray).size = n := by simp [← ByteArray.size_data]
  rw [hs, ByteArray.data_append]
  simp only [Array.toList_append, List.map_append, List.map_replicate, List.append_assoc]
  congr 1
  rw [show UInt8.toNat 0 = 0 from rfl, List.replicate_append_replicate]
  congr 1
  omega
theorem keyF_short {k : ByteArray} (h : k.size ≤ 64) : keyF k = k := by unfold keyF; rw [if_neg (by omega)]
theorem mac_zero (k b : ByteArray) (n : Nat) (h : k.size + n ≤ 64) : macF (k ++ ⟨(List.replicate n 0).toArray⟩) b = macF k b := by
  have hs : (k ++ ByteArray.mk (List.replicate n (0 : UInt8)).toArray).size ≤ 64 := by
    rw [ByteArray.size_append]
    have : (ByteArray.mk (List.replicate n (0 : UInt8)).toArray).size = n := by simp [← ByteArray.size_data]
    omega
  unfold macF xorL
  rw [keyF_short hs, keyF_short (show k.size ≤ 64 by omega), blkK_zero k n h]
theorem mac_long (k b : ByteArray) (h : 64 < k.size) : macF (toBytes (sumF k)) b = macF k b := by
  have hs : (toBytes (sumF k)).size ≤ 64 := by rw [toBytes_size, sumF_len]; omega
  have e : keyF k = toBytes (sumF k) := by unfold keyF; rw [if_pos h]
  unfold macF
  rw [keyF_short hs, e]
end Go.Proofs.YtggfibheolpbiaaDoor
