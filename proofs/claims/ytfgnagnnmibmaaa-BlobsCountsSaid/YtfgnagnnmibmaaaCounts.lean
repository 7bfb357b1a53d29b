/- The walk of BlobsCounts. -/
import Derived.Test.YtfgnagnnmibmaaaPhase
import Derived.Deep.QuietTactic
import Derived.BigQuiet
namespace Go.Proofs.Ytfgnagnnmibmaaa
open Go.RowKit Go.Mp

set_option maxRecDepth 100000 in
set_option maxHeartbeats 400000 in
theorem counts_no {v : Value} {ops : List OpD} {text : ByteArray} {more kept : Int} (w : World) (h : OpsAt w v ops) (hfit : OpsFit ops) (ht : text.size ≤ 9223372036854775807) (hno : smallB ops = false ∨ 2048 < text.size) :
    Calls Try.prog 3 #[.agg #[v, .string text, .int .u8 more, .int .u8 kept]] w fun e w' => e = .returned (.bool true) ∧ Below w.heap.size w w' := by
  have h1 := h.below ((Below.refl w.heap.size w).alloc (Nat.le_refl _) (.cells #[v, .string text, .int .u8 more, .int .u8 kept] 24))
  have H1 := Lib.hid h1
  have H2 := Lib.hid hfit
  obtain ⟨sa, sn, sc, rfl⟩ : ∃ sa sn sc, v = .slice sa sn sc := by
    rcases h with ⟨_, sa, cap, rfl⟩ | ⟨b, o, cap, rfl, _⟩
    · exact ⟨_, _, _, rfl⟩
    · exact ⟨_, _, _, rfl⟩
  clear h h1 hfit
  cases hsm : smallB ops
  · clear hno
    go_enter Try.func3, Try.ntmps3
    go_wp2_with (first
      | (go_at_call 9; refine (large_any _ H1.out H2.out).mono ?_; rintro e w' ⟨rfl, rfl⟩)
      | (go_at_call 10; refine (awake_any _).mono ?_; rintro e w1 ⟨rfl, b1⟩; have B1 := Lib.hid b1; clear b1))
    go_ret
    exact ⟨rfl, ((Below.refl _ _).alloc (Nat.le_refl _) _).trans (B1.out.mono (by simp))⟩
  · have hlt : 2048 < text.size := by simpa [hsm] using hno
    have hlt' : decide ((2048 : Int) < text.size) = true := by simp; omega
    clear hno hlt
    go_enter Try.func3, Try.ntmps3
    go_wp2_with (first
      | (go_at_call 9; refine (large_any _ H1.out H2.out).mono ?_; rintro e w' ⟨rfl, rfl⟩)
      | (go_at_call 10; refine (awake_any _).mono ?_; rintro e w1 ⟨rfl, b1⟩; have B1 := Lib.hid b1; clear b1))
    go_ret
    exact ⟨rfl, ((Below.refl _ _).alloc (Nat.le_refl _) _).trans (B1.out.mono (by simp))⟩

def Rel1 (w : World) (X : Array Value) (B m1 m2 base R len : Nat) (i : Value) (wr : World) : Prop :=
  ∃ (k : Nat) (L : List Blob) (g : Int), k ≤ len ∧ i = .int .i64 k ∧ Two w.heap.size wr B m1 m2 base R L g L g ∧ Inv L g k ∧ Below w.heap.size w wr ∧ wr.heap[w.heap.size]? = some (.cells X 24 (0, 0))

theorem two_start {w0 w1 : World} {n0 : Nat} (hn : n0 ≤ w0.heap.size) (h : SA w1 (w0.heap.size + 2) w0.heap.size (w0.heap.size + 1) [] [] 0 0) (hz : w0.heap.size ≤ w1.heap.size) :
    Two n0 (w1.alloc (.cells #[.slice none 0 0, .int .i64 0] 32)) (w0.heap.size + 2) w0.heap.size (w0.heap.size + 1) n0 w1.heap.size [] 0 [] 0 := by
  refine ⟨h.alloc _, ⟨.slice none 0 0, World.alloc_heap_new w1 _, World.ownsRow_nil _ _ _ _, by omega⟩, by omega, hn, by omega, Nat.le_refl _, by simp; omega, by simp; omega⟩
theorem start_below {w wa w1 : World} {m : Nat} {o : Obj} (h0 : Below w.heap.size w wa) {q : Nat} (h1 : Below m (wa.drewN q) w1) (hm : w.heap.size ≤ m) : Below w.heap.size w (w1.alloc o) := by
  have hz := h1.size
  have hz0 := h0.size
  simp only [World.heap_drewN] at hz
  exact (h0.trans ((⟨rfl, rfl, rfl, Nat.le_refl _, fun _ _ => rfl⟩ : Below w.heap.size wa (wa.drewN q)).trans (h1.mono hm))).alloc (by omega) o
theorem start_cell {wa w1 : World} {m k : Nat} {o x : Obj} (h0 : wa.heap[k]? = some x) {q : Nat} (h1 : Below m (wa.drewN q) w1) (hm : k < m) : (w1.alloc o).heap[k]? = some x := by
  have hz := h1.size
  simp only [World.heap_drewN] at hz
  have hl := (Array.getElem?_eq_some_iff.1 h0).1
  exact (Below.heap_alloc _ _ _ (by omega)).trans ((h1.block k hm).trans h0)
theorem inv_nil : Inv [] 0 0 := ⟨by simp, by simp, by simp, by omega, by omega, by simp⟩

theorem OpsAt.len {w : World} {sa : Option Addr} {sn sc : Nat} {ops : List OpD} (h : OpsAt w (.slice sa sn sc) ops) : sn = ops.length := by
  rcases h with ⟨rfl, sa, cap, e⟩ | ⟨b, o, cap, e, _⟩
  · simp at e; simp [e]
  · simp at e; exact e.2.1
theorem OpsAt.get {w : World} {sa : Option Addr} {sc : Nat} {ops : List OpD} (h : OpsAt w (.slice sa ops.length sc) ops) (k : Nat) (hk : k < ops.length) : ∃ b o, sa = some ⟨b, o, none⟩ ∧ ops.length ≤ 9223372036854775807 ∧ w.cell? ⟨b, o + k * 3, none⟩ = some (.int .u8 ops[k].1) ∧ w.cell? ⟨b, o + k * 3 + 1, none⟩ = some (.string ops[k].2.1) ∧ w.cell? ⟨b, o + k * 3 + 2, none⟩ = some (.int .i64 ops[k].2.2) := by
  rcases h with ⟨rfl, _⟩ | ⟨b, o, cap, e, hl, _, hc⟩
  · simp at hk
  · simp at e
    exact ⟨b, o, e.1, hl, hc.what k hk, hc.str k hk, hc.id k hk⟩

theorem RA.form {w : World} {base R : Nat} {v : Value} {L : List Blob} {g : Int} (h : RA w base R v L g) : ∃ sb cap, v = .slice sb L.length cap ∧ L.length ≤ 9223372036854775807 ∧ ∀ j (hj : j < L.length), ∃ b, sb = some ⟨b, 0, none⟩ ∧ w.cell? ⟨b, j * 3 + 1, none⟩ = some (.string L[j].2.1) ∧ w.cell? ⟨b, j * 3 + 2, none⟩ = some (.int .i64 L[j].2.2) := by
  rcases h.val with ⟨rfl, rfl⟩ | ⟨b, cap, rfl, h1, h2, _⟩
  · exact ⟨none, 0, rfl, by simp, fun j hj => by simp at hj⟩
  · unfold maxLen at h2
    exact ⟨_, _, rfl, by omega, fun j hj => ⟨b, rfl, h.at j 1 hj (by omega), h.at j 2 hj (by omega)⟩⟩

def Rel3 (w : World) (B m1 m2 : Nat) (id : Int) (text : ByteArray) (c0 : Int) (n0 lim : Nat) (i : Value) (wr : World) : Prop :=
  ∃ k : Nat, k ≤ lim ∧ i = .int .i64 k ∧ Ph w.heap.size wr B m1 m2 id text (c0 + k) (n0 + k) ∧ Below w.heap.size w wr
def Rel5 (w : World) (B m1 m2 : Nat) (id : Int) (text : ByteArray) (i : Value) (wr : World) : Prop :=
  ∃ c n : Nat, i = .int .i64 c ∧ c + n ≤ 5000 ∧ ((0 < c ∧ Ph w.heap.size wr B m1 m2 id text c n) ∨ (c = 0 ∧ Gn w.heap.size wr B m1 m2 id text n)) ∧ Below w.heap.size w wr

set_option maxRecDepth 100000 in
set_option maxHeartbeats 1000000 in
theorem counts_yes {v : Value} {ops : List OpD} {text : ByteArray} {more kept : Int} (w : World) (h : OpsAt w v ops) (hfit : OpsFit ops) (ht : text.size ≤ 2048) (hsm : smallB ops = true)
    (hm0 : 0 ≤ more) (hm1 : more ≤ 255) (hk0 : 0 ≤ kept) (hk1 : kept ≤ 255) :
    Calls Try.prog 3 #[.agg #[v, .string text, .int .u8 more, .int .u8 kept]] w fun e w' => e = .returned (.bool true) ∧ Below w.heap.size w w' := by
  have hops : ops.length ≤ 400 := by simp [smallB] at hsm; exact hsm.1
  have hb0 := (Below.refl w.heap.size w).alloc (Nat.le_refl _) (.cells #[v, .string text, .int .u8 more, .int .u8 kept] 24)
  have h1 := h.below hb0
  have H1 := Lib.hid h1
  have H2 := Lib.hid hfit
  have HB0 := Lib.hid hb0
  have hx := World.alloc_heap_new w (.cells #[v, .string text, .int .u8 more, .int .u8 kept] 24)
  have HX := Lib.hid hx
  obtain ⟨sa, sn, sc, rfl⟩ : ∃ sa sn sc, v = .slice sa sn sc := by
    rcases h with ⟨_, sa, cap, rfl⟩ | ⟨b, o, cap, rfl, _⟩
    · exact ⟨_, _, _, rfl⟩
    · exact ⟨_, _, _, rfl⟩
  obtain rfl := h.len
  have H0 := Lib.hid h
  clear h h1 hfit hb0 hx
  have hlt' : decide ((2048 : Int) < text.size) = false := by simp; omega
  go_enter Try.func3, Try.ntmps3
  go_wp2_with (go_at_call 9; refine (large_any _ H1.out H2.out).mono ?_; rintro e w' ⟨rfl, rfl⟩)
  go_quiet (fail)
  go_wp2_with fail
  refine (new_any _).mono ?_
  rintro e w1 ⟨rfl, s1, b1⟩
  simp only [World.heap_drewN, World.size_alloc] at s1 b1
  have z1 := b1.size
  simp only [World.heap_drewN, World.size_alloc] at z1
  have T1 : Hid (Two w.heap.size (w1.alloc (.cells #[.slice none 0 0, .int .i64 0] 32)) (w.heap.size + 1 + 2) (w.heap.size + 1) (w.heap.size + 1 + 1) w.heap.size w1.heap.size [] 0 [] 0) := by
    have := two_start (w0 := w.alloc (.cells #[.slice sa ops.length sc, .string text, .int .u8 more, .int .u8 kept] 24)) (n0 := w.heap.size) (by simp) (by simpa using s1) (by simpa using z1)
    exact Lib.hid (by simpa using this)
  have B1 : Hid (Below w.heap.size w (w1.alloc (.cells #[.slice none 0 0, .int .i64 0] 32))) := start_below HB0.out b1 (by omega)
  have X1 : Hid ((w1.alloc (.cells #[.slice none 0 0, .int .i64 0] 32)).heap[w.heap.size]? = some (.cells #[.slice sa ops.length sc, .string text, .int .u8 more, .int .u8 kept] 24 (0, 0))) := start_cell HX.out b1 (by omega)
  clear s1 b1
  go_wp2_with fail
  go_loopw [8] (fun i wr => Rel1 w #[.slice sa ops.length sc, .string text, .int .u8 more, .int .u8 kept] (w.heap.size + 1 + 2) (w.heap.size + 1) (w.heap.size + 1 + 1) w.heap.size w1.heap.size ops.length i wr) (fun i _ => ops.length - (intOf i).toNat)
  case atStart => exact ⟨0, [], 0, Nat.zero_le _, rfl, T1.out, inv_nil, B1.out, X1.out⟩
  case round =>
    obtain ⟨k, L, g, hk, rfl, T, I, B, X⟩ := hrel
    have x0 : wr.cell? ⟨w.heap.size, 0, none⟩ = some (.slice sa ops.length sc) := by simp [World.cell?, X]
    have BB := Lib.hid B
    have XX := Lib.hid X
    clear B X
    by_cases hlt : k < ops.length
    · obtain ⟨b, o, rfl, hlen, q0, q1, q2⟩ := (H0.out.below BB.out).get k hlt
      have hf := H2.out _ (List.getElem_mem hlt)
      go_wp2_with fail
      refine (done_any _ T I (by omega) _ _ _ hf.1 hf.2.1 hf.2.2).mono ?_
      rintro e w3 ⟨rfl, ⟨L', g', T', I'⟩, F⟩
      have B3 := Lib.hid (BB.out.trans F.bel)
      have X3 := Lib.hid (F.oth _ _ _ _ XX.out (by decide) (by decide) (by decide))
      clear F
      go_wp2
      go_roundw
      case rel => exact ⟨k + 1, L', g', by omega, by go_num, T', I', B3.out, X3.out⟩
      case measure => simp [intOf]; omega
    · have hI400 : Inv L g 400 := I.mono (by omega)
      obtain ⟨rv, hrv⟩ := T.ref
      have d0 := hrv.c0
      obtain ⟨sb, rcap, rfl, hLl, hcells⟩ := hrv.form
      have HC := Lib.hid hcells
      have hbd := hadK_bd hI400 text L.length
      clear hcells hrv
      go_wp2_with fail
      go_loop [9, 10] (fun hh i => ∃ j : Nat, j ≤ L.length ∧ i = .int .i64 j ∧ hh = .int .i64 (hadK L text j)) (fun _ i => L.length - (intOf i).toNat)
      case atStart => exact ⟨0, Nat.zero_le _, rfl, by simp [hadK]⟩
      case round =>
        obtain ⟨j, hj, rfl, rfl⟩ := hrel
        by_cases hjl : j < L.length
        · obtain ⟨b, rfl, e1, e2⟩ := HC.out j hjl
          have HS := Lib.hid (hadK_succ L text j hjl)
          by_cases hq : L[j].2.1 = text
          · have hq' := seq_yes hq
            have HQ := Lib.hid hq
            clear hq
            go_wp2
            go_round
            case rel => exact ⟨j + 1, by omega, by go_num, by rw [HS.out, if_pos HQ.out]⟩
            case measure => simp [intOf]; omega
          · have hq' := seq_no hq
            have HQ := Lib.hid hq
            clear hq
            go_wp2
            go_round
            case rel => exact ⟨j + 1, by omega, by go_num, by rw [HS.out, if_neg HQ.out]⟩
            case measure => simp [intOf]; omega
        · obtain rfl : j = L.length := by omega
          obtain ⟨hd, hhd⟩ : ∃ hd, hd = hadK L text L.length := ⟨_, rfl⟩
          have fp := first_put (n0 := w.heap.size) (s := text) wr T.real hI400 (by omega) ht T.b0 T.b1 T.b2 T.z0
          rw [← hhd] at fp hbd ⊢
          have FP := Lib.hid fp
          clear fp hhd HC hlt hk hI400 I
          go_wp2_with fail
          refine FP.out.mono ?_
          rintro e w3 ⟨id, rfl, hid0, hid1, P3, b3⟩
          have B3 := Lib.hid (BB.out.trans b3)
          clear b3 FP
          go_wp2_with fail
          obtain ⟨a, ha⟩ : ∃ a : Nat, a = (more % 51).toNat := ⟨_, rfl⟩
          obtain ⟨b, hb⟩ : ∃ b : Nat, b = (kept % 51).toNat := ⟨_, rfl⟩
          have ha1 : (a : Int) ≤ more % 51 := by omega
          have ha2 : more % 51 ≤ (a : Int) := by omega
          have hb1 : (b : Int) ≤ kept % 51 := by omega
          have hb2 : kept % 51 ≤ (b : Int) := by omega
          have ha3 : a ≤ 50 := by omega
          have hb3 : b ≤ 50 := by omega
          clear ha hb
          go_loopw [13] (fun i wr => Rel3 w (w.heap.size + 1 + 2) (w.heap.size + 1) (w.heap.size + 1 + 1) id text (hd + 1) 401 a i wr) (fun i _ => a - (intOf i).toNat)
          case atStart => exact ⟨0, Nat.zero_le _, rfl, by simpa using P3, B3.out⟩
          case round =>
            obtain ⟨k3, hk3, rfl, P, b4⟩ := hrel
            have B4 := Lib.hid b4
            clear b4
            by_cases hlt3 : k3 < a
            · have ht3 : (k3 : Int) < more % 51 := by omega
              have hid := beq_self id
              go_wp2_with fail
              refine (ph_put _ P (by omega) ht).mono ?_
              rintro e w5 ⟨rfl, P5, b5⟩
              have B5 := Lib.hid (B4.out.trans b5)
              clear b5
              go_wp2
              go_roundw
              case rel => exact ⟨k3 + 1, by omega, by go_num, by have e1 : hd + 1 + ((k3 + 1 : Nat) : Int) = hd + 1 + k3 + 1 := by omega
                                                                 have e2 : 401 + (k3 + 1) = 401 + k3 + 1 := by omega
                                                                 rw [e1, e2]; exact P5, B5.out⟩
              case measure => simp [intOf]; omega
            · have ht3 : ¬ (k3 : Int) < more % 51 := by omega
              obtain rfl : k3 = a := by omega
              go_wp2_with fail
              go_loopw [16] (fun i wr => Rel3 w (w.heap.size + 1 + 2) (w.heap.size + 1) (w.heap.size + 1 + 1) id text (hd + 1 + k3) (401 + k3) b i wr) (fun i _ => b - (intOf i).toNat)
              case atStart => exact ⟨0, Nat.zero_le _, rfl, by simpa using P, B4.out⟩
              case round =>
                obtain ⟨k4, hk4, rfl, P, b6⟩ := hrel
                have B6 := Lib.hid b6
                clear b6
                by_cases hlt4 : k4 < b
                · have ht4 : (k4 : Int) < kept % 51 := by omega
                  go_wp2_with fail
                  refine (ph_keep _ P (by omega)).mono ?_
                  rintro e w7 ⟨rfl, P7, b7⟩
                  have B7 := Lib.hid (B6.out.trans b7)
                  clear b7
                  go_wp2
                  go_roundw
                  case rel => exact ⟨k4 + 1, by omega, by go_num, by have e1 : hd + 1 + k3 + ((k4 + 1 : Nat) : Int) = hd + 1 + k3 + k4 + 1 := by omega
                                                                     have e2 : 401 + k3 + (k4 + 1) = 401 + k3 + k4 + 1 := by omega
                                                                     rw [e1, e2]; exact P7, B7.out⟩
                  case measure => simp [intOf]; omega
                · have ht4 : ¬ (k4 : Int) < kept % 51 := by omega
                  obtain rfl : k4 = b := by omega
                  obtain ⟨hbd0, hbd1⟩ := hbd
                  have hbd2 : hd ≤ 400 := by simpa using hbd1
                  have P' : Ph w.heap.size wr (w.heap.size + 1 + 2) (w.heap.size + 1) (w.heap.size + 1 + 1) id text (hd + 1 + more % 51 + kept % 51) (401 + k3 + k4) := by
                    have e : hd + 1 + more % 51 + kept % 51 = hd + 1 + k3 + k4 := by omega
                    rw [e]; exact P
                  clear hbd1 P
                  go_wp2_with fail
                  refine (ph_count _ P').mono ?_
                  rintro e w' ⟨rfl, rfl⟩
                  go_wp2_with fail
                  go_loopw [18] (fun i wr => Rel5 w (w.heap.size + 1 + 2) (w.heap.size + 1) (w.heap.size + 1 + 1) id text i wr) (fun i _ => (intOf i).toNat)
                  case atStart => exact ⟨(hd + 1 + more % 51 + kept % 51).toNat, 401 + k3 + k4, by rw [Int.toNat_of_nonneg (by omega)], by omega, .inl ⟨by omega, by rw [Int.toNat_of_nonneg (by omega)]; exact P'⟩, B6.out⟩
                  case round =>
                    obtain ⟨c, n5, rfl, hcn, hcase, b8⟩ := hrel
                    have B8 := Lib.hid b8
                    clear b8
                    rcases hcase with ⟨hc, P8⟩ | ⟨hc, G8⟩
                    · have hc' : (0 : Int) < c := by omega
                      go_wp2_with fail
                      refine (ph_get _ P8).mono ?_
                      rintro e w9 ⟨rfl, P9, b9⟩
                      have B9 := Lib.hid (B8.out.trans b9)
                      clear b9
                      go_wp2_with fail
                      refine (ph_count _ P9).mono ?_
                      rintro e w' ⟨rfl, rfl⟩
                      go_wp2_with fail
                      by_cases hc2 : 2 ≤ c
                      · refine (ph_drop _ P9 (by omega) (by omega)).mono ?_
                        rintro e w10 ⟨rfl, P10, b10⟩
                        have B10 := Lib.hid (B9.out.trans b10)
                        clear b10
                        go_wp2
                        go_roundw
                        case rel => exact ⟨c - 1, n5 + 1, by rw [show (((c - 1 : Nat) : Int)) = (c : Int) - 1 by omega], by omega, .inl ⟨by omega, by rw [show (((c - 1 : Nat) : Int)) = (c : Int) - 1 by omega]; exact P10⟩, B10.out⟩
                        case measure => simp [intOf]; omega
                      · refine (ph_last _ P9 (by omega) (by omega)).mono ?_
                        rintro e w10 ⟨rfl, G10, b10⟩
                        have B10 := Lib.hid (B9.out.trans b10)
                        clear b10
                        go_wp2
                        go_roundw
                        case rel => exact ⟨0, n5 + 1, by rw [show (c : Int) - 1 = ((0 : Nat) : Int) by omega], by omega, .inr ⟨rfl, G10⟩, B10.out⟩
                        case measure => simp [intOf]; omega
                    · subst hc
                      go_wp2_with fail
                      refine (gn_get _ G8).mono ?_
                      rintro e w9 ⟨rfl, G9, b9⟩
                      have B9 := Lib.hid (B8.out.trans b9)
                      clear b9
                      go_wp2_with fail
                      refine (gn_count _ G9).mono ?_
                      rintro e w' ⟨rfl, rfl⟩
                      go_wp2_with fail
                      refine (gn_keep _ G9 (by omega)).mono ?_
                      rintro e w10 ⟨rfl, G10, b10⟩
                      have B10 := Lib.hid (B9.out.trans b10)
                      clear b10
                      go_wp2_with fail
                      refine (gn_drop _ G10 (by omega)).mono ?_
                      rintro e w11 ⟨rfl, G11, b11⟩
                      have B11 := Lib.hid (B10.out.trans b11)
                      clear b11
                      go_wp2_with fail
                      refine (gn_put _ G11 (by omega) ht).mono ?_
                      rintro e w12 ⟨next, rfl, hn1, hn2, P12, C12, b12⟩
                      have HC12 := Lib.hid C12
                      have B12 := Lib.hid (B11.out.trans b12)
                      clear b12 C12
                      go_wp2_with fail
                      refine (ph_count _ P12).mono ?_
                      rintro e w' ⟨rfl, rfl⟩
                      go_wp2_with fail
                      refine HC12.out.mono ?_
                      rintro e w' ⟨rfl, rfl⟩
                      go_wp2_with fail
                      refine (awake_any _).mono ?_
                      rintro e w13 ⟨rfl, b13⟩
                      have B13 := Lib.hid (B12.out.trans (b13.mono P12.z0))
                      clear b13
                      go_wp2
                      go_ret
                      exact ⟨rfl, B13.out⟩

end Go.Proofs.Ytfgnagnnmibmaaa
