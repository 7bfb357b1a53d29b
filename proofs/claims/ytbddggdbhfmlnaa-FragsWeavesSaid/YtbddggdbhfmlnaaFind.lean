/- The reference's list of open messages: find. -/
import Derived.Test.YtbddggdbhfmlnaaFeeds
namespace Go.Proofs.Ytbddggdbhfmlnaa
open Go.RowKit Go.Rt Go.Rw Go.Mp Go.Lib

abbrev MsgD := Int × ByteArray × Int
def mc (m : MsgD) : List Value := [.int .i64 m.1, .string m.2.1, .int .i64 m.2.2]
theorem mc_len (m : MsgD) : (mc m).length = 3 := rfl
/-- find on the list, from place k on. -/
def findF : List MsgD → Int → Nat → Int
  | [], _, _ => -1
  | m :: L, id, k => if m.1 = id then (k : Int) else findF L id (k + 1)
theorem find_drop {L : List MsgD} {id : Int} {k : Nat} (h : k < L.length) : findF (L.drop k) id k = if L[k].1 = id then (k : Int) else findF (L.drop (k + 1)) id (k + 1) := by
  rw [List.drop_eq_getElem_cons h, findF]
theorem find_end {L : List MsgD} {id : Int} {k : Nat} (h : L.length ≤ k) : findF (L.drop k) id k = -1 := by
  rw [List.drop_eq_nil_of_le h, findF]

set_option maxHeartbeats 400000 in
theorem find_any (L : List MsgD) (v : Value) (id : Int) (w : World) (h : SlAt w 3 mc v L) :
    Calls Try.prog 27 #[v, .int .i64 id] w fun e w' => e = .returned (.int .i64 (findF L id 0)) ∧ ∃ n, w' = w.drewN n := by
  obtain ⟨hl, sa, cap, rfl⟩ := h.len
  have H := Lib.hid h
  clear h
  go_enter Try.func27, Try.ntmps27
  go_wp2
  go_loopw [5] (fun i wr => ∃ k n : Nat, k ≤ L.length ∧ i = .int .i64 k ∧ wr = w.drewN n ∧ Hid (findF (L.drop k) id k = findF L id 0)) (fun i _ => L.length - (intOf i).toNat)
  case atStart => exact ⟨0, 0, Nat.zero_le _, rfl, rfl, by simp [Hid]⟩
  case round =>
    obtain ⟨k, n, hk, rfl, rfl, ht⟩ := hrel
    by_cases hlt : k < L.length
    · obtain ⟨b, o, rfl, q, c⟩ := H.out.get (by omega)
      have c0 := c k 0 hlt (by omega)
      simp only [mc, List.getElem?_cons_zero, Nat.add_zero] at c0
      clear c
      have hd := find_drop (id := id) hlt
      by_cases he : L[k].1 = id
      · rw [if_pos he] at hd
        have HT : Hid (findF L id 0 = (k : Int)) := Lib.hid (ht.out.symm.trans hd)
        have h1 : (L[k].1 == id) = true := by simp [he]
        clear hd he ht
        go_wp2
        go_ret
        exact ⟨by rw [HT.out]; rfl, _, rfl⟩
      · rw [if_neg he] at hd
        have HT : Hid (findF (L.drop (k + 1)) id (k + 1) = findF L id 0) := Lib.hid (hd.symm.trans ht.out)
        have h1 : (L[k].1 == id) = false := by simp [he]
        clear hd he ht
        go_wp2
        go_roundw
        case rel => exact ⟨k + 1, n, by omega, by go_num, rfl, HT⟩
        case measure => simp [intOf]; omega
    · have HT : Hid (findF L id 0 = -1) := Lib.hid (ht.out.symm.trans (find_end (by omega)))
      clear ht
      go_wp2
      go_ret
      exact ⟨by rw [HT.out]; rfl, _, rfl⟩
end Go.Proofs.Ytbddggdbhfmlnaa
