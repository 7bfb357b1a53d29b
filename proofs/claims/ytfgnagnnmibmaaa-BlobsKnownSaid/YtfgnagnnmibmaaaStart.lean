/- What the laws' walks share: the two stores' start, a list of calls in memory, cells that stay. -/
import Derived.Test.YtfgnagnnmibmaaaRids
import Derived.Test.YtfgnagnnmibmaaaLarge
import Derived.Deep.QuietTactic
import Derived.BigQuiet
namespace Go.Proofs.Ytfgnagnnmibmaaa
open Go.RowKit Go.Mp Go.Rw

theorem two_start {w0 w1 : World} {n0 : Nat} (hn : n0 ≤ w0.heap.size) (h : SA w1 (w0.heap.size + 2) w0.heap.size (w0.heap.size + 1) [] [] 0 0) (hz : w0.heap.size ≤ w1.heap.size) :
    Two n0 (w1.alloc (.cells #[.slice none 0 0, .int .i64 0] 32)) (w0.heap.size + 2) w0.heap.size (w0.heap.size + 1) n0 w1.heap.size [] 0 [] 0 := by
  refine ⟨h.alloc _, ⟨.slice none 0 0, World.alloc_heap_new w1 _, World.ownsRow_nil _ _ _ _, by omega⟩, by omega, hn, by omega, Nat.le_refl _, by simp; omega, by simp; omega⟩
theorem inv_nil : Inv [] 0 0 := ⟨by simp, by simp, by simp, by omega, by omega, by simp⟩

theorem OpsAt.len {w : World} {sa : Option Addr} {sn sc : Nat} {ops : List OpD} (h : OpsAt w (.slice sa sn sc) ops) : sn = ops.length := by
  rcases h with ⟨rfl, sa, cap, e⟩ | ⟨b, o, cap, e, _⟩
  · simp at e; simp [e]
  · simp at e; exact e.2.1
theorem OpsAt.get {w : World} {sa : Option Addr} {sc : Nat} {ops : List OpD} (h : OpsAt w (.slice sa ops.length sc) ops) (k : Nat) (hk : k < ops.length) : ∃ b o, sa = some ⟨b, o, none⟩ ∧ ops.length ≤ 9223372036854775807 ∧ w.cell? ⟨b, o + k * 3, none⟩ = some (.int .u8 ops[k].1) ∧ w.cell? ⟨b, o + k * 3 + 1, none⟩ = some (.string ops[k].2.1) ∧ w.cell? ⟨b, o + k * 3 + 2, none⟩ = some (.int .i64 ops[k].2.2) := by
  rcases h with ⟨rfl, _⟩ | ⟨b, o, cap, e, hl, _, hc⟩
  · simp at hk
  · simp at e
    exact ⟨b, o, e.1, hl, hc.what k hk, hc.str k hk, hc.id k hk⟩
theorem cell_lt {w : World} {b o : Nat} {u : Value} (h : w.cell? ⟨b, o, none⟩ = some u) : b < w.heap.size := by
  by_cases hb : b < w.heap.size
  · exact hb
  · have hn : w.heap[b]? = none := Array.getElem?_eq_none (by omega)
    simp [World.cell?, hn] at h
theorem cell_keep {w w' : World} {b o : Nat} {u : Value} (h : w.cell? ⟨b, o, none⟩ = some u) (hb : Below w.heap.size w w') : w'.cell? ⟨b, o, none⟩ = some u :=
  (hb.cell (p := ⟨b, o, none⟩) (cell_lt h)).trans h

theorem ids_len_le {L : List Blob} {g : Int} {n : Nat} (h : Inv L g n) (hn : n ≤ 1000) : L.length ≤ 1000000 := by have := h.len; omega

def RelP (w : World) (B m1 m2 base R len : Nat) (i : Value) (wr : World) : Prop :=
  ∃ (k : Nat) (L : List Blob) (g : Int), k ≤ len ∧ i = .int .i64 k ∧ Two w.heap.size wr B m1 m2 base R L g L g ∧ Inv L g k ∧ Below w.heap.size w wr

theorem real_count2 {B m1 m2 : Nat} {L : List Blob} {g : Int} {n : Nat} (w : World) (h : SL w B m1 m2 L g) (hi : Inv L g n) (id : Int) :
    Calls Try.prog 15 #[.pointer (some ⟨B, 0, none⟩), .int .i64 id] w fun e w' => e = .returned (.int .i64 (cntF L id)) ∧ w' = w := (real_count w h hi id).mono fun _ _ ⟨a, b⟩ => ⟨a, b.symm⟩
theorem ref_count2 {base R : Nat} {v : Value} {L : List Blob} {g : Int} (w : World) (h : RA w base R v L g) (id : Int) :
    Calls Try.prog 24 #[.pointer (some ⟨R, 0, none⟩), .int .i64 id] w fun e w' => e = .returned (.int .i64 (cntF L id)) ∧ w' = w := (ref_count w h id).mono fun _ _ ⟨a, b⟩ => ⟨a, b.symm⟩
theorem Two.drewN {n0 : Nat} {w : World} {B m1 m2 base R : Nat} {L1 : List Blob} {g1 : Int} {L2 : List Blob} {g2 : Int} (h : Two n0 w B m1 m2 base R L1 g1 L2 g2) (k : Nat) : Two n0 (w.drewN k) B m1 m2 base R L1 g1 L2 g2 :=
  h.below (below_drewN (Below.refl _ _) k)

theorem two_count1 {n0 : Nat} {w : World} {B m1 m2 base R : Nat} {L1 : List Blob} {g1 : Int} {L2 : List Blob} {g2 : Int} (h : Two n0 w B m1 m2 base R L1 g1 L2 g2) {n : Nat} (hi : Inv L1 g1 n) (id : Int) (k : Nat) :
    Calls Try.prog 15 #[.pointer (some ⟨B, 0, none⟩), .int .i64 id] (w.drewN k) fun e w' => e = .returned (.int .i64 (cntF L1 id)) ∧ w' = w.drewN k := real_count2 _ (h.drewN k).real hi id
theorem two_count2 {n0 : Nat} {w : World} {B m1 m2 base R : Nat} {L1 : List Blob} {g1 : Int} {L2 : List Blob} {g2 : Int} (h : Two n0 w B m1 m2 base R L1 g1 L2 g2) (id : Int) (k : Nat) :
    Calls Try.prog 24 #[.pointer (some ⟨R, 0, none⟩), .int .i64 id] (w.drewN k) fun e w' => e = .returned (.int .i64 (cntF L2 id)) ∧ w' = w.drewN k := by
  obtain ⟨v, hv⟩ := (h.drewN k).ref
  exact ref_count2 _ hv id

/-- SameInts of the two stores' ids, and what stays. -/
theorem seq_refl (s : ByteArray) : (s.toList == s.toList) = true := seq_yes rfl
end Go.Proofs.Ytfgnagnnmibmaaa
