/- terms.Same against the zero term; (*terms.measure).of and what it calls. -/
import Derived.Test.YtoaimoemaoinhaaGreatDoorSame
import Derived.Shelf.Abstract
namespace Go.Proofs.YtoaimoemaoinhaaGreatDoor
open Go.RowKit Go.Rt Go.Rw

theorem alike_zero (sa : Option Addr) (len cap : Nat) (w : World) :
    Calls Tryz.prog 179 #[.slice sa len cap, .slice none 0 0, .func (.func 134) #[] #[]] w fun e w' => e = .returned (.bool (decide (len = 0))) ∧ Below w.heap.size w w' := by
  by_cases h : len = 0
  · subst h
    simp only [decide_true]
    go_enter Tryz.func179, Tryz.ntmps179
    go_wp2_with fail
    refine wp_loop_rounds 1 ?_
    rw [rounds_succ]
    go_wp2_with fail
    go_ret
    exact ⟨rfl, Below.refl _ _⟩
  · have e : decide (len = 0) = false := by simpa using h
    rw [e]
    have d0 : ((len : Int) != 0) = true := by rw [bne_iff_ne]; omega
    clear e
    go_enter Tryz.func179, Tryz.ntmps179
    go_wp2_with fail
    go_ret
    exact ⟨rfl, Below.refl _ _⟩
set_option maxRecDepth 100000 in
set_option maxHeartbeats 2000000 in
theorem same89_flat (f f2 : Fl) (sa sa2 : Option Addr) (len cap len2 cap2 : Nat) (w : World) (rl : Bool)
    (CL : Hid (∀ W, Below w.heap.size w W → Calls Tryz.prog 179 #[.slice sa len cap, .slice sa2 len2 cap2, .func (.func 134) #[] #[]] W fun e w' => e = .returned (.bool rl) ∧ Below W.heap.size W w')) :
    Calls Tryz.prog 134 #[ftV ⟨f, .slice sa len cap⟩, ftV ⟨f2, .slice sa2 len2 cap2⟩] w fun e w' => e = .returned (.bool (sameF f f2 && rl)) ∧ Below w.heap.size w w' := by
  obtain ⟨k, n, g, nm, fn, ar, bs, bt⟩ := f
  obtain ⟨k2, n2, g2, nm2, fn2, ar2, bs2, bt2⟩ := f2
  obtain ⟨r, hr⟩ : ∃ r, r = (sameF ⟨k, n, g, nm, fn, ar, bs, bt⟩ ⟨k2, n2, g2, nm2, fn2, ar2, bs2, bt2⟩ && rl) := ⟨_, rfl⟩
  rw [← hr]
  unfold ftV
  by_cases q0 : k = k2
  · subst q0
    by_cases q1 : n = n2
    · subst q1
      by_cases q2 : g = g2
      · subst q2
        by_cases q3 : nm = nm2
        · subst q3
          by_cases q4 : fn = fn2
          · subst q4
            by_cases q5 : ar = ar2
            · subst q5
              by_cases q6 : bs = bs2
              · subst q6
                by_cases q7 : bt = bt2
                · subst q7
                  obtain rfl : r = rl := by rw [hr]; unfold sameF; simp
                  clear hr
                  go_enter Tryz.func134, Tryz.ntmps134
                  go_wp2_with fail
                  refine (CL.out _ (((Below.refl _ _).alloc (Nat.le_refl _) _).alloc (by simp) _)).mono ?_
                  rintro e w1 ⟨rfl, b1⟩
                  have B1 := Lib.hid ((((Below.refl w.heap.size w).alloc (Nat.le_refl _) _).alloc (by simp) _).trans (b1.mono (by simp; omega)))
                  clear b1
                  go_wp2_with fail
                  go_ret
                  exact ⟨rfl, B1.out⟩
                · have d7 : (bt == bt2) = false := by simpa using q7
                  obtain rfl : r = false := by rw [hr]; unfold sameF; simp [q7]
                  clear hr CL q7
                  go_enter Tryz.func134, Tryz.ntmps134
                  go_wp2_with fail
                  go_ret
                  exact ⟨rfl, ((Below.refl _ _).alloc (Nat.le_refl _) _).alloc (by simp) _⟩
              · have d6 : (bs.toList == bs2.toList) = false := by rw [beq_eq_false_iff_ne]; exact fun h => q6 (bytes_ext h)
                obtain rfl : r = false := by rw [hr]; unfold sameF; simp [q6]
                clear hr CL q6
                go_enter Tryz.func134, Tryz.ntmps134
                go_wp2_with fail
                go_ret
                exact ⟨rfl, ((Below.refl _ _).alloc (Nat.le_refl _) _).alloc (by simp) _⟩
            · have d5 : (ar == ar2) = false := by simpa using q5
              obtain rfl : r = false := by rw [hr]; unfold sameF; simp [q5]
              clear hr CL q5
              go_enter Tryz.func134, Tryz.ntmps134
              go_wp2_with fail
              go_ret
              exact ⟨rfl, ((Below.refl _ _).alloc (Nat.le_refl _) _).alloc (by simp) _⟩
          · have d4 : (fn.toList == fn2.toList) = false := by rw [beq_eq_false_iff_ne]; exact fun h => q4 (bytes_ext h)
            obtain rfl : r = false := by rw [hr]; unfold sameF; simp [q4]
            clear hr CL q4
            go_enter Tryz.func134, Tryz.ntmps134
            go_wp2_with fail
            go_ret
            exact ⟨rfl, ((Below.refl _ _).alloc (Nat.le_refl _) _).alloc (by simp) _⟩
        · have d3 : (nm.toList == nm2.toList) = false := by rw [beq_eq_false_iff_ne]; exact fun h => q3 (bytes_ext h)
          obtain rfl : r = false := by rw [hr]; unfold sameF; simp [q3]
          clear hr CL q3
          go_enter Tryz.func134, Tryz.ntmps134
          go_wp2_with fail
          go_ret
          exact ⟨rfl, ((Below.refl _ _).alloc (Nat.le_refl _) _).alloc (by simp) _⟩
      · have d2 : (g == g2) = false := by simpa using q2
        obtain rfl : r = false := by rw [hr]; unfold sameF; simp [q2]
        clear hr CL q2
        go_enter Tryz.func134, Tryz.ntmps134
        go_wp2_with fail
        go_ret
        exact ⟨rfl, ((Below.refl _ _).alloc (Nat.le_refl _) _).alloc (by simp) _⟩
    · have d1 : (n == n2) = false := by simpa using q1
      obtain rfl : r = false := by rw [hr]; unfold sameF; simp [q1]
      clear hr CL q1
      go_enter Tryz.func134, Tryz.ntmps134
      go_wp2_with fail
      go_ret
      exact ⟨rfl, ((Below.refl _ _).alloc (Nat.le_refl _) _).alloc (by simp) _⟩
  · have d0 : (k == k2) = false := by simpa using q0
    obtain rfl : r = false := by rw [hr]; unfold sameF; simp [q0]
    clear hr CL q0
    go_enter Tryz.func134, Tryz.ntmps134
    go_wp2_with fail
    go_ret
    exact ⟨rfl, ((Below.refl _ _).alloc (Nat.le_refl _) _).alloc (by simp) _⟩

def zeroFl : Fl := ⟨0, 0, 0, noB, noB, 0, noB, 0⟩
theorem size0 (a : ByteArray) : decide (a = noB) = decide (a.size = 0) := by
  rw [decide_eq_decide]
  constructor
  · rintro rfl; rfl
  · intro h; exact ByteArray.ext (Array.eq_empty_of_size_eq_zero h)
theorem sameF_zero (f : Fl) (h : f.k = 0) : sameF f zeroFl = zeroF f := by
  unfold sameF zeroF zeroFl
  simp only [size0, h, decide_true, Bool.true_and]
theorem same_zero (f : Fl) (sa : Option Addr) (len cap : Nat) (w : World) (h : f.k = 0) :
    Calls Tryz.prog 134 #[ftV ⟨f, .slice sa len cap⟩, .agg #[.int .i64 0, .int .i64 0, .int .i64 0, .string ⟨#[]⟩, .string ⟨#[]⟩, .int .i64 0, .slice none 0 0, .string ⟨#[]⟩, .int .i64 0]] w fun e w' => e = .returned (.bool (zeroF f && decide (len = 0))) ∧ Below w.heap.size w w' := by
  rw [← sameF_zero f h]
  exact same89_flat f zeroFl sa none len cap 0 0 w _ (Lib.hid fun W _ => alike_zero sa len cap W)

/-- What each kind requires, in memory; and the count. -/
def kcells (n : Nat) : Array Value := #[.func (.func 226) #[] #[], .func (.func 227) #[] #[], .func (.func 228) #[] #[], .func (.func 224) #[] #[], .func (.func 229) #[] #[], .func (.func 230) #[] #[], .func (.func 224) #[] #[], .func (.func 231) #[] #[], .func (.func 232) #[] #[], .func (.func 233) #[] #[], .func (.func 234) #[] #[], .int .i64 n]
def Ms (w : World) (bm n : Nat) : Prop := Blk w bm 280 (kcells n)
def OfR (bm n : Nat) (ok : Bool) (sz : Nat) (w : World) (e : Ending) (w' : World) : Prop := e = .returned (.bool ok) ∧ Only [bm] w w' ∧ ∃ n', Ms w' bm n' ∧ (ok = true → n' = n + sz)
/-- The number of a kind's closure. -/
def kid (k : Nat) : Nat := ([226, 227, 228, 224, 229, 230, 224, 231, 232, 233, 234].getD k 0)
theorem kid_cell {w : World} {bm n : Nat} (h : Ms w bm n) (k : Nat) (hk : k < 11) : w.cell? ⟨bm, k, none⟩ = some (.func (.func (kid k)) #[] #[]) := by
  have := Blk.cell h k
  rw [this]
  match k, hk with
  | 0, _ => rfl
  | 1, _ => rfl
  | 2, _ => rfl
  | 3, _ => rfl
  | 4, _ => rfl
  | 5, _ => rfl
  | 6, _ => rfl
  | 7, _ => rfl
  | 8, _ => rfl
  | 9, _ => rfl
  | 10, _ => rfl
theorem kid_enter (k : Nat) (hk : k < 11) : ∀ args w, (callFunc (kid k) args).run Tryz.prog w = .ok (.enter (kid k) args) w := by
  match k, hk with
  | 0, _ => exact enters_of Tryz.func226 (by kernel_rfl) rfl
  | 1, _ => exact enters_of Tryz.func227 (by kernel_rfl) rfl
  | 2, _ => exact enters_of Tryz.func228 (by kernel_rfl) rfl
  | 3, _ => exact enters_of Tryz.func224 (by kernel_rfl) rfl
  | 4, _ => exact enters_of Tryz.func229 (by kernel_rfl) rfl
  | 5, _ => exact enters_of Tryz.func230 (by kernel_rfl) rfl
  | 6, _ => exact enters_of Tryz.func224 (by kernel_rfl) rfl
  | 7, _ => exact enters_of Tryz.func231 (by kernel_rfl) rfl
  | 8, _ => exact enters_of Tryz.func232 (by kernel_rfl) rfl
  | 9, _ => exact enters_of Tryz.func233 (by kernel_rfl) rfl
  | 10, _ => exact enters_of Tryz.func234 (by kernel_rfl) rfl
/-- What is left of a term's parts. -/
def itemsV (k : Int) (v : Value) : Value := if usesL k then .slice none 0 0 else v
theorem kind_any (k : Nat) (hk : k < 11) (S : Nat → Prop) (f : Fl) (l : List Tm) (sa : Option Addr) (cap : Nat) (w : World) (he : f.k = k) (hl : ItsAt S w l (.slice sa l.length cap)) (hz : f.bs.size ≤ maxLen) :
    Calls Tryz.prog (kid k) #[ftV ⟨f, .slice sa l.length cap⟩] w (KindR (bareF f) (itemsV f.k (.slice sa l.length cap)) (okF f l) w) := by
  obtain ⟨kk, n, g, nm, fn, ar, bs, bt⟩ := f
  dsimp only at he
  subst he
  match k, hk with
  | 0, _ => exact kind0 ⟨_, n, g, nm, fn, ar, bs, bt⟩ sa _ cap w
  | 1, _ => exact kind1 ⟨_, n, g, nm, fn, ar, bs, bt⟩ sa _ cap w
  | 2, _ => exact kind2 ⟨_, n, g, nm, fn, ar, bs, bt⟩ sa _ cap w
  | 3, _ => exact kind3 ⟨_, n, g, nm, fn, ar, bs, bt⟩ sa _ cap w
  | 4, _ => exact kind4 ⟨_, n, g, nm, fn, ar, bs, bt⟩ sa _ cap w
  | 5, _ => exact kind5 ⟨_, n, g, nm, fn, ar, bs, bt⟩ sa _ cap w
  | 6, _ => exact kind3 ⟨_, n, g, nm, fn, ar, bs, bt⟩ sa _ cap w
  | 7, _ => exact kind7 ⟨_, n, g, nm, fn, ar, bs, bt⟩ sa _ cap w
  | 8, _ => exact kind8 ⟨_, n, g, nm, fn, ar, bs, bt⟩ sa _ cap w
  | 9, _ => exact kind9 S ⟨_, n, g, nm, fn, ar, bs, bt⟩ l sa cap w hl
  | 10, _ => exact kind10 ⟨_, n, g, nm, fn, ar, bs, bt⟩ sa _ cap w hz
end Go.Proofs.YtoaimoemaoinhaaGreatDoor
