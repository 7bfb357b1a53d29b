/- The reference's reader: items. -/
import Derived.Test.YtemlogadbopffaaGreatRl
namespace Go.Proofs.YtemlogadbopffaaGreat
open Go.RowKit Go.Rt Go.Rw

/-- How many parts a term may still have. -/
def Lf (st : Sr) (d : Nat) : Prop := -1 ≤ st.left ∧ st.left < d ∧ st.left ≤ 2000 ∧ (st.bad = false → 0 ≤ st.left)
/-- What (*reader).term answers. -/
def SmR (s : ByteArray) (rb : Nat) (P : Tm × Sr) (st : Sr) (w : World) (e : Ending) (w' : World) : Prop :=
 Only [rb] w w' ∧ ∃ x, e = .returned (ftV x) ∧ TmAt (fun c => w.heap.size ≤ c) w' P.1 x ∧ RS s rb P.2 w' ∧ P.2.left + 1 ≤ st.left ∧ -1 ≤ P.2.left ∧ (P.2.bad = false → 0 ≤ P.2.left)
def SiR (s : ByteArray) (rb : Nat) (P : List Tm × Sr) (st : Sr) (w : World) (e : Ending) (w' : World) : Prop :=
 Only [rb] w w' ∧ ∃ v, e = .returned v ∧ ItsAt (fun c => w.heap.size ≤ c) w' P.1 v ∧ RS s rb P.2 w' ∧ P.2.left ≤ st.left ∧ -1 ≤ P.2.left ∧ (P.2.bad = false → 0 ≤ P.2.left)
def SmC (T : Sr → Tm × Sr) (s : ByteArray) (rb d : Nat) : Prop := ∀ (st : Sr) (W : World), RS s rb st W → st.bad = false → 0 ≤ st.left → st.left < d → st.left ≤ 2000 → Calls Tryz.prog 100 #[.pointer (some ⟨rb, 0, none⟩)] W (SmR s rb (T st) st W)
/-- So many terms. -/
def itemsS (T : Sr → Tm × Sr) : Nat → Sr → List Tm × Sr
 | 0, st => ([], st)
 | n + 1, st => if st.bad then ([], st) else ((T st).1 :: (itemsS T n (T st).2).1, (itemsS T n (T st).2).2)
theorem itemsS_bad (T : Sr → Tm × Sr) (n : Nat) (st : Sr) (h : st.bad = true) : itemsS T n st = ([], st) := by
 cases n with
 | zero => rfl
 | succ n => rw [itemsS, if_pos h]
set_option maxRecDepth 100000 in
set_option maxHeartbeats 2000000 in
theorem ritems_any {T : Sr → Tm × Sr} {s : ByteArray} {rb d : Nat} {st : Sr} {w : World} (hT : SmC T s rb d) (h : RS s rb st w) (hlf : Lf st d) (n : Nat) (hn : n ≤ 8589934592) :
  Calls Tryz.prog 112 #[.pointer (some ⟨rb, 0, none⟩), .int .i64 n] w (SiR s rb (itemsS T n st) st w) := by
 have R0 := Lib.hid h
 have HT := Lib.hid hT
 have HRW : Hid (rb < w.heap.size) := Lib.hid h.lt
 have HLF := Lib.hid hlf
 obtain ⟨P, hP⟩ : ∃ P, P = itemsS T n st := ⟨_, rfl⟩
 rw [← hP]
 have HP0 : Hid (P = ([] ++ (itemsS T n st).1, (itemsS T n st).2)) := Lib.hid (by rw [hP]; rfl)
 clear h hT hP hlf
 go_enter Tryz.func112, Tryz.ntmps112
 go_wp2_with fail
 go_loopw [5, 6] (fun v i wr => ∃ (m j : Nat) (st' : Sr) (ts : List Tm) (vv : Value) (Fs : List Ft), m + j = n ∧ i = .int .i64 j ∧ vv = v ∧ Hid (j = ts.length ∧ (j : Int) + st'.left ≤ st.left ∧ Lf st' d) ∧ Hid (P = (ts ++ (itemsS T m st').1, (itemsS T m st').2)) ∧ Hid (RS s rb st' wr) ∧ Hid (Only [rb] w wr) ∧
  Hid (Sl wr w.heap.size 24 9 ftC vv Fs) ∧ Hid (TmsAt (fun c => w.heap.size ≤ c ∧ vv.ownBlock ≠ some c) wr ts Fs)) (fun _ i _ => n - (intOf i).toNat)
 case atStart => exact ⟨n, 0, st, [], .slice none 0 0, [], by simp, rfl, rfl, Lib.hid ⟨rfl, by simp, HLF.out⟩, HP0, R0, Lib.hid (Only.refl _ _), Lib.hid (Sl.nil _ _ _ _ _), Lib.hid (by unfold TmsAt; rfl)⟩
 case round =>
  obtain ⟨m, j, st', ts, vv, Fs, hmj, rfl, rfl, HJ, HP, HR, HO, HSL, HTS⟩ := hrel
  clear HP0 R0
  have HLFs := Lib.hid HTS.out.length
  have hvform : ∃ sa cap, vv = .slice sa j cap := by
   rcases HSL.out.form with ⟨h1, h2⟩ | ⟨g, cap, h1, _⟩
   ·
    exact ⟨_, _, by rw [h1, HJ.out.1, ← HLFs.out, h2]; rfl⟩
   ·
    exact ⟨_, _, by rw [h1, HJ.out.1, HLFs.out]⟩
  obtain ⟨sa, cap, rfl⟩ := hvform
  have hj9 : j ≤ 2001 := by have := HJ.out.2.1; have := HJ.out.2.2.1; have := HLF.out.2.2.1; omega
  obtain ⟨r', l', b'⟩ := st'
  obtain ⟨ab, _, _, hbb⟩ := HR.out
  have HBB := Lib.hid hbb
  clear hbb
  have cb : wr.cell? ⟨rb, 3, none⟩ = some (.bool b') := HBB.out.cell 3
  by_cases hgo : 0 < m ∧ b' = false
  ·
   obtain ⟨hm0, rfl⟩ := hgo
   obtain ⟨k, rfl⟩ : ∃ k, m = k + 1 := ⟨m - 1, by omega⟩
   have dj : decide ((j : Int) < (n : Int)) = true := decide_eq_true (by omega)
   have dj2 : decide (j < n) = true := decide_eq_true (by omega)
   have hl := HJ.out.2.2
   have C := HT.out ⟨r', l', false⟩ wr HR.out rfl (hl.2.2.2 rfl) hl.2.1 hl.2.2.1
   have HP1 : Hid (P = ((ts ++ [(T ⟨r', l', false⟩).1]) ++ (itemsS T k (T ⟨r', l', false⟩).2).1, (itemsS T k (T ⟨r', l', false⟩).2).2)) := Lib.hid (by
    rw [HP.out, itemsS, if_neg Bool.false_ne_true]
    simp)
   obtain ⟨q, hq⟩ : ∃ q, q = T ⟨r', l', false⟩ := ⟨_, rfl⟩
   rw [← hq] at C HP1
   obtain ⟨t, st2⟩ := q
   have HC := Lib.hid C
   clear C hq HP hl
   go_wp2_with fail
   refine HC.out.mono ?_
   rintro e w1 ⟨ox, x, rfl, tx, rx, hq1, hq2, hq3⟩
   dsimp only at tx rx hq1 hq2 hq3 HP1
   obtain ⟨_, sx, cx, vx⟩ := tx.its.2.form
   obtain ⟨xf, xv⟩ := x
   dsimp only at vx
   subst vx
   unfold ftV
   have HRX := Lib.hid rx
   have HOX := Lib.hid (HO.out.trans ox)
   have hrb : rb < wr.heap.size := HR.out.lt
   have hB := HO.out.size
   have hRW := HRW.out
   have HJ2 : Hid (j + 1 = (ts ++ [t]).length ∧ ((j + 1 : Nat) : Int) + st2.left ≤ st.left ∧ Lf st2 d) := Lib.hid (by
    have h1 := HJ.out
    unfold Lf at h1 ⊢
    dsimp only at h1
    exact ⟨by rw [List.length_append, ← h1.1]; rfl, by omega, hq2, by omega, by omega, hq3⟩)
   have hlt0 : ∀ g0, (Value.slice sa j cap).ownBlock = some g0 → w.heap.size ≤ g0 ∧ g0 < wr.heap.size := fun g0 hg0 => HSL.out.lt g0 hg0
   have SL1 : Sl w1 w.heap.size 24 9 ftC (.slice sa j cap) Fs := HSL.out.only ox (fun g hg hm => by
    have h1 := (hlt0 g hg).1
    simp at hm
    omega)
   have TS1 : TmsAt (fun c => w.heap.size ≤ c ∧ (Value.slice sa j cap).ownBlock ≠ some c) w1 ts Fs := HTS.out.map2 ox.size (fun b hb hl => ox.block b hl (by simp; omega)) (fun _ h _ => h)
   have SL2 := SL1.only (bs := []) (Only.alloc [] w1 (.cells #[.int .i64 xf.k, .int .i64 xf.n, .int .i64 xf.g, .string xf.nm, .string xf.fn, .int .i64 xf.ar, .slice sx t.l.length cx, .string xf.bs, .int .i64 xf.bt] 24)) (fun g hg hm => by cases hm)
   have BK : Blk (w1.alloc (.cells #[.int .i64 xf.k, .int .i64 xf.n, .int .i64 xf.g, .string xf.nm, .string xf.fn, .int .i64 xf.ar, .slice sx t.l.length cx, .string xf.bs, .int .i64 xf.bt] 24)) w1.heap.size 24 (ftC ⟨xf, .slice sx t.l.length cx⟩).toArray := Blk.new w1 24 _
   have hwsz : w.heap.size ≤ (w1.alloc (.cells #[.int .i64 xf.k, .int .i64 xf.n, .int .i64 xf.g, .string xf.nm, .string xf.fn, .int .i64 xf.ar, .slice sx t.l.length cx, .string xf.bs, .int .i64 xf.bt] 24)).heap.size := by have := ox.size; simp; omega
   obtain ⟨g, cap2, W2, hrun, sl2, hgrow, hwh⟩ := sl_push_term SL2 ⟨xf, .slice sx t.l.length cx⟩ rfl w1.heap.size BK (by have h1 := HLFs.out; have h2 := HJ.out.1; omega) hwsz
   have hal : ∀ b, b < w1.heap.size → (w1.alloc (.cells #[.int .i64 xf.k, .int .i64 xf.n, .int .i64 xf.g, .string xf.nm, .string xf.fn, .int .i64 xf.ar, .slice sx t.l.length cx, .string xf.bs, .int .i64 xf.bt] 24)).heap[b]? = w1.heap[b]? := fun b hb => Below.heap_alloc _ _ _ hb
   have hasz : (w1.alloc (.cells #[.int .i64 xf.k, .int .i64 xf.n, .int .i64 xf.g, .string xf.nm, .string xf.fn, .int .i64 xf.ar, .slice sx t.l.length cx, .string xf.bs, .int .i64 xf.bt] 24)).heap.size = w1.heap.size + 1 := by simp
   have hkeep : ∀ b, b < w1.heap.size → (Value.slice sa j cap).ownBlock ≠ some b → W2.heap[b]? = w1.heap[b]? := fun b hb hne => (hgrow.block b (by omega) (fun e => hne e.symm)).trans (hal b hb)
   have hszW : w1.heap.size ≤ W2.heap.size := by have := hgrow.size; omega
   have hgne : ∀ b, b < w1.heap.size → (Value.slice sa j cap).ownBlock ≠ some b → g ≠ b := fun b hb hne e => by
    rcases hwh with q | q
    ·
     exact hne (by rw [q, e])
    ·
     omega
   have HTS2 : Hid (TmsAt (fun c => w.heap.size ≤ c ∧ (Value.slice (some ⟨g, 0, none⟩) (Fs.length + 1) cap2).ownBlock ≠ some c) W2 (ts ++ [t]) (Fs ++ [⟨xf, .slice sx t.l.length cx⟩])) := Lib.hid (by
    refine TmsAt.snoc (TS1.map2 hszW (fun b hb hl => hkeep b hl hb.2) (fun b hb hl => ⟨hb.1, ?_⟩)) (tx.map hszW (fun b hb hl => hkeep b hl ?_) (fun b hb hl => ⟨by omega, ?_⟩))
    ·
     intro e
     exact hgne b hl hb.2 (by simpa [Value.ownBlock] using e)
    ·
     intro e
     have := (hlt0 b e).2
     omega
    ·
     intro e
     exact hgne b hl (fun e => by have := (hlt0 b e).2; omega) (by simpa [Value.ownBlock] using e))
   have HSL2 := Lib.hid sl2
   have HO2 : Hid (Only [rb] w W2) := Lib.hid ⟨hgrow.os.trans HOX.out.os, hgrow.tape.trans HOX.out.tape, hgrow.output.trans HOX.out.output, Nat.le_trans HOX.out.size hszW, fun k hk hn => by
    have h1 := HOX.out.size
    refine (hkeep k (by omega) (fun e => ?_)).trans (HOX.out.block k hk hn)
    have := (hlt0 k e).1
    omega⟩
   have HR2 : Hid (RS s rb st2 W2) := Lib.hid (HRX.out.same (hkeep rb HRX.out.lt (fun e => by have := (hlt0 rb e).1; omega)))
   have HRN := Lib.hid hrun
   clear ox tx rx SL1 TS1 SL2 BK hwsz sl2 hgrow hwh hal hasz hkeep hszW hgne hrun HRX HOX HSL HTS HO HR HC hlt0 HJ hq1 hq2 hq3 HBB cb hB hRW hrb
   go_wp2_with (at_builtin; refine wpList_append_run rfl _ _ 22 22 rfl rfl rfl HRN.out ?_)
   go_wp2_with fail
   go_roundw
   case rel => exact ⟨k, j + 1, st2, ts ++ [t], _, Fs ++ [⟨xf, .slice sx t.l.length cx⟩], by omega, by go_num, rfl, HJ2, HP1, HR2, HO2, HSL2, HTS2⟩
   case measure => simp [intOf]; omega
  ·
   have hPE : P = (ts, ⟨r', l', b'⟩) := by
    rw [HP.out]
    cases m with
    | zero => simp [itemsS]
    | succ m =>
     have hb' : b' = true := by
      cases b' with
      | true => rfl
      | false => exact absurd ⟨by omega, rfl⟩ hgo
     rw [itemsS_bad T _ _ hb', List.append_nil]
   obtain rfl := hPE
   have HIT : Hid (ItsAt (fun c => w.heap.size ≤ c) wr ts (.slice sa j cap)) := Lib.hid (by
    refine ⟨Fs, HSL.out.at (fun _ => rfl), fun b o n' c' e hn' => ?_, HTS.out.map2 (Nat.le_refl _) (fun _ _ _ => rfl) (fun _ h _ => h.1)⟩
    cases e
    exact (HSL.out.lt b rfl).1)
   have HF : Hid (l' ≤ st.left ∧ -1 ≤ l' ∧ (b' = false → 0 ≤ l')) := Lib.hid (by have h1 := HJ.out; unfold Lf at h1; dsimp only at h1; exact ⟨by omega, h1.2.2.1, h1.2.2.2.2.2⟩)
   clear HP HJ HSL HTS HBB
   by_cases hm0 : m = 0
   ·
    have dj : decide ((j : Int) < (n : Int)) = false := decide_eq_false (by omega)
    have dj2 : decide (j < n) = false := decide_eq_false (by omega)
    clear hgo hm0
    go_wp2_with fail
    go_ret
    exact ⟨HO.out, _, rfl, HIT.out, HR.out, HF.out⟩
   ·
    have dj : decide ((j : Int) < (n : Int)) = true := decide_eq_true (by omega)
    have dj2 : decide (j < n) = true := decide_eq_true (by omega)
    obtain rfl : b' = true := by
     cases b' with
     | true => rfl
     | false => exact absurd ⟨by omega, rfl⟩ hgo
    clear hgo hm0
    go_wp2_with fail
    go_ret
    exact ⟨HO.out, _, rfl, HIT.out, HR.out, HF.out⟩
end Go.Proofs.YtemlogadbopffaaGreat
