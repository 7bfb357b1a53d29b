/- Where one more goes in an ascending list. -/
import Derived.Test.YtekfnonjhcfdmaaDoorPlain
namespace Go.Proofs.YtekfnonjhcfdmaaDoor

theorem insF_at : ∀ (L : List Int) (n : Int) (k : Nat), (∀ j (h : j < L.length), j < k → L[j] < n) → (∀ h : k < L.length, ¬ L[k] < n) → k ≤ L.length → n ∉ L → insF L n = L.take k ++ n :: L.drop k
  | [], n, k, _, _, hk, _ => by
    have : k = 0 := by simpa using hk
    subst this
    rfl
  | a :: r, n, k, h1, h2, hk, hn => by
    rw [List.mem_cons, not_or] at hn
    cases k with
    | zero =>
      have h := h2 (by simp)
      simp only [List.getElem_cons_zero] at h
      unfold insF
      rw [if_pos (by omega)]
      rfl
    | succ k =>
      have h := h1 0 (by simp) (by omega)
      simp only [List.getElem_cons_zero] at h
      unfold insF
      rw [if_neg (by omega), if_neg hn.1, insF_at r n k (fun j hj hjk => ?_) (fun hj => ?_) (by simpa using hk) hn.2]
      · rfl
      · have := h1 (j + 1) (by simpa using hj) (by omega)
        simpa using this
      · have := h2 (by simpa using hj)
        simpa using this
end Go.Proofs.YtekfnonjhcfdmaaDoor
