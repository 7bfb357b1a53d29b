/- large: are there more calls, or longer strings, than are examined? And how a list of calls lies in memory. -/
import Derived.Test.YtfgnagnnmibmaaaDone
namespace Go.Proofs.Ytfgnagnnmibmaaa
open Go.RowKit Go.Mp

abbrev OpD := Int × ByteArray × Int
/-- The cells of a list of calls. -/
structure OpsCells (w : World) (b o : Nat) (ops : List OpD) : Prop where
  what : ∀ i (hi : i < ops.length), w.cell? ⟨b, o + i * 3, none⟩ = some (.int .u8 ops[i].1)
  str : ∀ i (hi : i < ops.length), w.cell? ⟨b, o + i * 3 + 1, none⟩ = some (.string ops[i].2.1)
  id : ∀ i (hi : i < ops.length), w.cell? ⟨b, o + i * 3 + 2, none⟩ = some (.int .i64 ops[i].2.2)
/-- A slice value that leads to a list of calls. -/
def OpsAt (w : World) (v : Value) (ops : List OpD) : Prop :=
  (ops = [] ∧ ∃ sa cap, v = .slice sa 0 cap) ∨ ∃ b o cap, v = .slice (some ⟨b, o, none⟩) ops.length cap ∧ ops.length ≤ 9223372036854775807 ∧ b < w.heap.size ∧ OpsCells w b o ops
/-- What every call of a list fits. -/
def OpsFit (ops : List OpD) : Prop := ∀ x ∈ ops, 0 ≤ x.1 ∧ x.1 ≤ 255 ∧ x.2.1.size ≤ 9223372036854775807

theorem OpsAt.below {w w' : World} {v : Value} {ops : List OpD} (h : OpsAt w v ops) (hb : Below w.heap.size w w') : OpsAt w' v ops := by
  rcases h with h | ⟨b, o, cap, h1, h2, h3, h4⟩
  · exact .inl h
  · have hz := hb.size
    exact .inr ⟨b, o, cap, h1, h2, by omega, fun i hi => (hb.cell (p := ⟨b, _, none⟩) h3).trans (h4.what i hi), fun i hi => (hb.cell (p := ⟨b, _, none⟩) h3).trans (h4.str i hi), fun i hi => (hb.cell (p := ⟨b, _, none⟩) h3).trans (h4.id i hi)⟩

def smallB (ops : List OpD) : Bool := decide (ops.length ≤ 400) && ops.all (fun x => decide (x.2.1.size ≤ 5000))
theorem small_no (ops : List OpD) (k : Nat) (hk : k < ops.length) (h : 5000 < ops[k].2.1.size) : (!smallB ops) = true := by
  simp only [smallB, Bool.not_and, Bool.or_eq_true, Bool.not_eq_true', decide_eq_false_iff_not, List.all_eq_false]
  exact .inr ⟨ops[k], List.getElem_mem hk, by simp; omega⟩
theorem small_end (ops : List OpD) (k : Nat) (hpre : Hid (∀ j (hj : j < ops.length), j < k → ops[j].2.1.size ≤ 5000)) (hk : ¬ (k < ops.length ∧ k < 500)) (hk2 : k ≤ 500) : (!smallB ops) = decide (400 < (ops.length : Int)) := by
  by_cases hl : ops.length ≤ 400
  · have : smallB ops = true := by
      simp only [smallB, Bool.and_eq_true, decide_eq_true_eq, List.all_eq_true]
      refine ⟨hl, ?_⟩
      intro x hx
      obtain ⟨j, hj, rfl⟩ := List.getElem_of_mem hx
      exact hpre.out j hj (by omega)
    rw [this]
    simp
    omega
  · have : smallB ops = false := by simp [smallB, hl]
    rw [this]
    simp
    omega
theorem ret_bool {a b : Bool} (h : a = b) : Ending.returned (.bool a) = .returned (.bool b) := by rw [h]

set_option maxHeartbeats 400000 in
theorem large_any {v : Value} {ops : List OpD} (w : World) (h : OpsAt w v ops) (hfit : OpsFit ops) :
    Calls Try.prog 9 #[v] w fun e w' => e = .returned (.bool (!smallB ops)) ∧ w = w' := by
  rcases h with ⟨rfl, sa, cap, rfl⟩ | ⟨b, o, cap, rfl, hlen, hbl, hc⟩
  · go_enter Try.func9, Try.ntmps9
    go_wp2
    refine wp_loop_rounds 1 ?_
    rw [rounds_succ]
    go_wp2
    go_ret
    exact ⟨rfl, rfl⟩
  · have HF := Lib.hid hfit
    clear hfit
    go_enter Try.func9, Try.ntmps9
    go_wp2
    go_loop [3] (fun i => ∃ k : Nat, k ≤ ops.length ∧ k ≤ 500 ∧ i = .int .i64 k ∧ Hid (∀ j (hj : j < ops.length), j < k → ops[j].2.1.size ≤ 5000)) (fun i => ops.length - (intOf i).toNat)
    case atStart => exact ⟨0, Nat.zero_le _, by omega, rfl, fun j _ hj => absurd hj (Nat.not_lt_zero _)⟩
    case round =>
      obtain ⟨k, hk, hk5, rfl, hpre⟩ := hrel
      by_cases hlt : k < ops.length ∧ k < 500
      · obtain ⟨hl, h5⟩ := hlt
        have h5' : decide ((k : Int) < 500) = true := by simp; omega
        have hcs := hc.str k hl
        have hsz := (HF.out _ (List.getElem_mem hl)).2.2
        by_cases hbig : 5000 < ops[k].2.1.size
        · have hb' : (5000 : Int) < ops[k].2.1.size := by omega
          go_wp2
          go_ret
          exact ⟨ret_bool (small_no ops k hl hbig).symm, rfl⟩
        · have hb' : ¬ (5000 : Int) < ops[k].2.1.size := by omega
          have hle : ops[k].2.1.size ≤ 5000 := by omega
          have HN : Hid (∀ j (hj : j < ops.length), j < k + 1 → ops[j].2.1.size ≤ 5000) := by
            intro j hj hjk
            by_cases e : j = k
            · subst e; exact hle
            · exact hpre.out j hj (by omega)
          go_wp2
          go_round
          case rel => exact ⟨k + 1, by omega, by omega, by go_num, HN⟩
          case measure => simp [intOf]; omega
      · have he := small_end ops k hpre hlt hk5
        have HE := Lib.hid he
        clear he
        by_cases hl : k < ops.length
        · have h5 : decide ((k : Int) < 500) = false := by simp; omega
          clear hlt
          go_wp2
          go_ret
          exact ⟨ret_bool HE.out.symm, rfl⟩
        · clear hlt
          go_wp2
          go_ret
          exact ⟨ret_bool HE.out.symm, rfl⟩

end Go.Proofs.Ytfgnagnnmibmaaa
