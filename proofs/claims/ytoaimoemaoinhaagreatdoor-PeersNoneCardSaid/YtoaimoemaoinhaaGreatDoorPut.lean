/- wire.Put, wire.Size. -/
import Derived.Test.YtoaimoemaoinhaaGreatDoorWterm
namespace Go.Proofs.YtoaimoemaoinhaaGreatDoor
open Go.RowKit Go.Rt Go.Rw

/-- A term that is examined: short strings, numbers of 64 bits, few nodes. -/
def okT (t : Tm) : Prop := fitT t ∧ cnt t ≤ 6000
theorem headB_len (f : Fl) (h : fitF f) (n : Nat) : (headB f n).length ≤ 600100 := by
  obtain ⟨⟨h1, h2, h3⟩, _, hn, _, ha, _⟩ := h
  have i1 := intB_len f.n hn
  have i2 := intB_len f.ar ha
  unfold headB
  repeat' split
  all_goals (simp [num4_len, num2_len, atomB_len]; try omega)
mutual
theorem codeT_len : ∀ t, fitT t → (codeT t).length ≤ cnt t * 600100
  | .mk f l, h => by
    rw [fitT] at h
    have h1 := headB_len f h.1 l.length
    have h2 := codeL_len l h.2
    rw [codeT, cnt, List.length_append]
    omega
theorem codeL_len : ∀ l, fitL l → (codeL l).length ≤ cntL l * 600100
  | [], _ => by simp [codeL]
  | t :: r, h => by
    rw [fitL] at h
    have h1 := codeT_len t h.1
    have h2 := codeL_len r h.2
    rw [codeL, cntL, List.length_append]
    omega
end
mutual
theorem bulk_cnt : ∀ t, bulk t + 1 ≤ cnt t * 302
  | .mk f l => by
    have := bulkL_cnt l
    rw [bulk, cnt]
    omega
theorem bulkL_cnt : ∀ l, bulkL l + l.length ≤ cntL l * 302
  | [] => by simp [bulkL]
  | t :: r => by
    have h1 := bulk_cnt t
    have h2 := bulkL_cnt r
    rw [bulkL, cntL, List.length_cons]
    omega
end
theorem okT.bulk {t : Tm} (h : okT t) : bulk t ≤ 4611686018427387904 := by have := bulk_cnt t; have := h.2; omega
theorem okT.code {t : Tm} (h : okT t) : (codeT t).length ≤ 3600600000 := by have := codeT_len t h.1; have := h.2; omega
/-- What Put returns. -/
def putS (t : Tm) : ByteArray := if validB t then ⟨(131 :: codeT t).toArray⟩ else ⟨#[]⟩
def putE (t : Tm) : Int := if validB t then 0 else 2
set_option maxRecDepth 100000 in
set_option maxHeartbeats 2000000 in
theorem put_any (t : Tm) (x : Ft) (w : World) (hx : TmAt (fun b => b < w.heap.size) w t x) (hok : okT t) :
    Calls Tryz.prog 62 #[ftV x] w fun e w' => e = .returned (.tuple #[.string (putS t), .int .i64 (putE t)]) ∧ Below w.heap.size w w' := by
  have hcl := hok.code
  have CV := Lib.hid (fun (W : World) (hb : Below w.heap.size w W) => valid_any (fun b => b < w.heap.size) t x W (hx.below hb (fun _ _ h => h)) hok.1 hok.bulk)
  have HX := Lib.hid hx
  have CT := Lib.hid (fun (hv : validB t = true) (b : Nat) (hb : w.heap.size ≤ b) => wterm_any (fun b => b < w.heap.size) b b (fun c hc => by omega) t hok.1 (by unfold validB at hv; rw [Bool.and_eq_true] at hv; exact hv.1))
  obtain ⟨_, sa, cap, v1⟩ := hx.its.2.form
  obtain ⟨xf, xv⟩ := x
  dsimp only at v1
  subst v1
  generalize t.l.length = len at *
  unfold putS putE
  obtain ⟨V, hV⟩ : ∃ V, V = validB t := ⟨_, rfl⟩
  rw [← hV] at CV CT ⊢
  have HCL := Lib.hid hcl
  clear hx hok hV
  have BX0 := Lib.hid (Blk.new w 48 #[.int .i64 xf.k, .int .i64 xf.n, .int .i64 xf.g, .string xf.nm, .string xf.fn, .int .i64 xf.ar, .slice sa len cap, .string xf.bs, .int .i64 xf.bt])
  unfold ftV at CV ⊢
  cases V with
  | false =>
    rw [if_neg (by decide), if_neg (by decide)]
    go_enter Tryz.func62, Tryz.ntmps62
    go_wp2_with fail
    refine (CV.out _ ((Below.refl _ _).alloc (Nat.le_refl _) _)).mono ?_
    rintro e w1 ⟨rfl, b1⟩
    have B1 := Lib.hid (((Below.refl w.heap.size w).alloc (Nat.le_refl _) _).trans (b1.mono (Nat.le_of_lt BX0.out.lt)))
    clear b1 CV
    go_wp2_with fail
    refine bodyPost_ret (v := .tuple #[.string ⟨#[]⟩, .int .i64 2]) (by simp [results, Tryz.results62, go_sem]) rfl ⟨rfl, B1.out⟩
  | true =>
    rw [if_pos rfl, if_pos rfl]
    go_enter Tryz.func62, Tryz.ntmps62
    go_wp2_with fail
    refine (CV.out _ ((Below.refl _ _).alloc (Nat.le_refl _) _)).mono ?_
    rintro e w1 ⟨rfl, b1⟩
    have B1 := Lib.hid (((Below.refl w.heap.size w).alloc (Nat.le_refl _) _).trans (b1.mono (Nat.le_of_lt BX0.out.lt)))
    have X1 := Lib.hid (BX0.out.below b1 BX0.out.lt)
    have W2 := Lib.hid (Wr.new w1)
    have X2 := Lib.hid (X1.out.alloc (.cells #[.pointer none, .slice none 0 0] 187))
    have B2 := Lib.hid (B1.out.alloc B1.out.size (.cells #[.pointer none, .slice none 0 0] 187))
    have HG : Hid (w.heap.size < w1.heap.size) := Lib.hid X1.out.lt
    clear b1 CV BX0
    go_upto_region 4 with fail
    generalize w1.alloc (.cells #[.pointer none, .slice none 0 0] 187) = w2 at W2 X2 B2 ⊢
    generalize w1.heap.size = b at W2 HG ⊢
    clear X1 B1
    go_wp2_with fail
    refine (lit_any [131] W2.out _ 1 rfl (by simp [Lib.byteCells]) (by simp) (by simp)).mono ?_
    rintro e w3 ⟨rfl, q3, f3, _⟩
    have W3 := Lib.hid q3.wr
    have X3 := Lib.hid (f3.blk X2.out (by have := HG.out; omega) (by decide))
    have B3 := Lib.hid (B2.out.trans (f3.below.mono (by have := HG.out; omega)))
    clear q3 f3 W2 X2 B2
    have x0 : w3.cell? ⟨w.heap.size, 0, none⟩ = some (.int .i64 xf.k) := X3.out.cell 0
    have x1 : w3.cell? ⟨w.heap.size, 1, none⟩ = some (.int .i64 xf.n) := X3.out.cell 1
    have x2 : w3.cell? ⟨w.heap.size, 2, none⟩ = some (.int .i64 xf.g) := X3.out.cell 2
    have x3 : w3.cell? ⟨w.heap.size, 3, none⟩ = some (.string xf.nm) := X3.out.cell 3
    have x4 : w3.cell? ⟨w.heap.size, 4, none⟩ = some (.string xf.fn) := X3.out.cell 4
    have x5 : w3.cell? ⟨w.heap.size, 5, none⟩ = some (.int .i64 xf.ar) := X3.out.cell 5
    have x6 : w3.cell? ⟨w.heap.size, 6, none⟩ = some (.slice sa len cap) := X3.out.cell 6
    have x7 : w3.cell? ⟨w.heap.size, 7, none⟩ = some (.string xf.bs) := X3.out.cell 7
    have x8 : w3.cell? ⟨w.heap.size, 8, none⟩ = some (.int .i64 xf.bt) := X3.out.cell 8
    go_wp2_with fail
    clear x0 x1 x2 x3 x4 x5 x6 x7 x8 X3
    refine (CT.out trivial b (by have := HG.out; omega) ⟨xf, .slice sa len cap⟩ w3 ([] ++ [131]) (HX.out.below B3.out (fun _ _ h => h)) W3.out (by have := HCL.out; simp; omega)).mono ?_
    rintro e w4 ⟨rfl, q4, f4⟩
    have W4 := Lib.hid q4
    have B4 := Lib.hid (B3.out.trans (f4.below.mono (by have := HG.out; omega)))
    clear q4 f4 W3 B3 CT
    go_wp2_with fail
    refine (string_any W4.out (by simp)).mono ?_
    rintro e w5 ⟨rfl, b5⟩
    have B5 := Lib.hid (B4.out.trans (b5.mono (by have := HG.out; omega)))
    clear b5 W4 B4
    go_wp2_with fail
    refine bodyPost_ret (v := .tuple #[.string ⟨([] ++ [131] ++ codeT t).toArray⟩, .int .i64 0]) (by simp [results, Tryz.results62, go_sem]) rfl ⟨rfl, B5.out⟩
end Go.Proofs.YtoaimoemaoinhaaGreatDoor
