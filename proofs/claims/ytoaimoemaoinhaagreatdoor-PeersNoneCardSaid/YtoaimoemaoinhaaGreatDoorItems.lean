/- (*reader).items. -/
import Derived.Test.YtoaimoemaoinhaaGreatDoorLarge
namespace Go.Proofs.YtoaimoemaoinhaaGreatDoor
open Go.RowKit Go.Rt Go.Rw

/-- What (*reader).term answers. -/
def TmR (s : ByteArray) (rb p : Nat) (P : Pr Tm) (w : World) (e : Ending) (w' : World) : Prop :=
  Only [rb] w w' ∧ match P with
  | none => e = .panicked refusal
  | some a => ∃ x, e = .returned (ftV x) ∧ TmAt (fun c => w.heap.size ≤ c) w' a.1 x ∧ Rd s rb a.2.2 a.2.1 w' ∧ p ≤ a.2.1 ∧ a.2.1 ≤ 2000
def ItR (s : ByteArray) (rb p : Nat) (P : Pr (List Tm)) (w : World) (e : Ending) (w' : World) : Prop :=
  Only [rb] w w' ∧ match P with
  | none => e = .panicked refusal
  | some a => ∃ v, e = .returned v ∧ ItsAt (fun c => w.heap.size ≤ c) w' a.1 v ∧ Rd s rb a.2.2 a.2.1 w' ∧ p ≤ a.2.1 ∧ a.2.1 ≤ 2000
def TmC (T : Nat → List UInt8 → Pr Tm) (s : ByteArray) (rb d : Nat) : Prop := ∀ (p : Nat) (r : List UInt8) (W : World), Rd s rb r p W → 2000 ≤ p + d → p ≤ 2000 → Calls Tryz.prog 123 #[.pointer (some ⟨rb, 0, none⟩)] W (TmR s rb p (T p r) W)
theorem infoT : (Tryz.prog.info? 48).map (fun i => (i.zero, i.size, i.bytes)) = some (some (.agg #[.int .i64 0, .int .i64 0, .int .i64 0, .string ⟨#[]⟩, .string ⟨#[]⟩, .int .i64 0, .slice none 0 0, .string ⟨#[]⟩, .int .i64 0]), 9, 112) := by kernel_rfl
theorem TmsAt.map2 {S S' : Nat → Prop} {w w' : World} {l : List Tm} {Fs : List Ft} (h : TmsAt S w l Fs) (hs : w.heap.size ≤ w'.heap.size) (hb : ∀ b, S b → b < w.heap.size → w'.heap[b]? = w.heap[b]?) (hS : ∀ b, S b → b < w.heap.size → S' b) : TmsAt S' w' l Fs := TmsAt.map hs hb hS h
theorem ftC_one (x : Ft) (hv : x.v.oneCell' = true) : ∀ u ∈ ftC x, u.oneCell' = true := by
  unfold ftC
  intro u hu
  simp only [List.mem_cons, List.not_mem_nil, or_false] at hu
  rcases hu with rfl | rfl | rfl | rfl | rfl | rfl | rfl | rfl | rfl <;> first | rfl | exact hv
theorem sl_push_term {W : World} {B : Nat} {v : Value} {Fs : List Ft} (h : Sl W B 48 9 ftC v Fs) (x : Ft) (hx : x.v.oneCell' = true) (b : Nat) (hb : Blk W b 48 (ftC x).toArray) (hl : Fs.length + 1 ≤ 1000000) (hbase : B ≤ W.heap.size) :
    ∃ g cap W2, (Builtin.append_ #[46, 46] 46 #[v, .slice (some ⟨b, 0, none⟩) 1 1]).run Tryz.prog W = .ok (.slice (some ⟨g, 0, none⟩) (Fs.length + 1) cap) W2 ∧ Sl W2 B 48 9 ftC (.slice (some ⟨g, 0, none⟩) (Fs.length + 1) cap) (Fs ++ [x]) ∧ W.grownBy W2 v.ownBlock ∧ (v.ownBlock = some g ∨ g = W.heap.size) := by
  obtain ⟨i0, hi0, hz0, hz1, hz2⟩ := info_parts infoT
  obtain ⟨v', W2, hrun, hown, hgrow, _, hwh⟩ := run_append_own_at (P := Tryz.prog) W B 46 46 48 i0 _ 9 112 Tryz.underlying46 hi0 hz0 hz1 hz2 (by rfl) (by decide) v Fs.length (Fs.flatMap ftC) h ⟨b, 0, none⟩ 1 1 (ftC x) rfl
    (fun j u hj => by rw [add_none, Nat.zero_add, hb.cell j]; simpa using hj) (ftC_one x hx) (by unfold maxLen; omega) (by omega) hbase
  have hs : Sl W2 B 48 9 ftC v' (Fs ++ [x]) := by
    unfold Sl
    rw [List.flatMap_append, List.length_append]
    simpa using hown
  rcases hs.form with ⟨_, h0⟩ | ⟨g, cap, hv, _⟩
  · simp at h0
  · rw [List.length_append] at hv
    subst hv
    refine ⟨g, cap, W2, hrun, hs, hgrow, ?_⟩
    rcases hwh with q | q
    · exact .inl (by rw [← q]; rfl)
    · exact .inr (by simpa [Value.ownBlock] using q)
theorem Rd.same {s : ByteArray} {rb : Nat} {r : List UInt8} {p : Nat} {w w' : World} (h : Rd s rb r p w) (hb : w'.heap[rb]? = w.heap[rb]?) : Rd s rb r p w' := by
  obtain ⟨at', h1, h2, h3⟩ := h
  exact ⟨at', h1, h2, by unfold Blk at h3 ⊢; rw [hb]; exact h3⟩
set_option maxRecDepth 100000 in
set_option maxHeartbeats 2000000 in
theorem items_any {T : Nat → List UInt8 → Pr Tm} {s : ByteArray} {rb d p : Nat} {r : List UInt8} {w : World} (hT : TmC T s rb d) (h : Rd s rb r p w) (hd : 2000 ≤ p + d) (hp : p ≤ 2000) (n : Nat) (hn : n ≤ 8589934592) :
    Calls Tryz.prog 159 #[.pointer (some ⟨rb, 0, none⟩), .int .i64 n] w (ItR s rb p (itemsQ T n p r) w) := by
  have R0 := Lib.hid h
  have HT := Lib.hid hT
  have HRW : Hid (rb < w.heap.size) := Lib.hid h.lt
  obtain ⟨P, hP⟩ : ∃ P, P = itemsQ T n p r := ⟨_, rfl⟩
  rw [← hP]
  unfold itemsQ at hP
  clear h hT
  by_cases hle : n ≤ 2000
  · rw [if_pos hle] at hP
    have HP0 : Hid (P = (itemsP T n p r).map (fun a => ([] ++ a.1, a.2))) := Lib.hid (by rw [hP]; cases itemsP T n p r <;> simp)
    clear hP
    have d1 : decide (n ≤ 2000) = true := decide_eq_true hle
    have d1i : decide ((n : Int) ≤ 2000) = true := decide_eq_true (by omega)
    go_enter Tryz.func159, Tryz.ntmps159
    go_wp2_with fail
    refine (demand_any _ true _).mono ?_
    rintro e w0 ⟨rfl, rfl⟩
    go_wp2_with fail
    go_loopw [1, 5] (fun i v wr => ∃ (m q : Nat) (rr : List UInt8) (ts : List Tm) (vv : Value) (Fs : List Ft), m + ts.length = n ∧ i = .int .i64 m ∧ vv = v ∧ Hid (P = (itemsP T m q rr).map (fun a => (ts ++ a.1, a.2))) ∧ Hid (Rd s rb rr q wr) ∧ (p ≤ q ∧ q ≤ 2000) ∧ Hid (Only [rb] w wr) ∧
      Hid (Sl wr w.heap.size 48 9 ftC vv Fs) ∧ Hid (TmsAt (fun c => w.heap.size ≤ c ∧ vv.ownBlock ≠ some c) wr ts Fs)) (fun i _ _ => (intOf i).toNat)
    case atStart => exact ⟨n, p, r, [], .slice none 0 0, [], by simp, rfl, rfl, HP0, R0, ⟨Nat.le_refl _, hp⟩, Lib.hid (Only.refl _ _), Lib.hid (Sl.nil _ _ _ _ _), Lib.hid (by unfold TmsAt; rfl)⟩
    case round =>
      obtain ⟨m, q, rr, ts, vv, Fs, hml, rfl, rfl, HP, HR, hpq, HO, HSL, HTS⟩ := hrel
      clear HP0 R0
      have HLF := Lib.hid HTS.out.length
      have hvform : ∃ sa cap, vv = .slice sa ts.length cap := by
        rcases HSL.out.form with ⟨h1, h2⟩ | ⟨g, cap, h1, _⟩
        · exact ⟨_, _, by rw [h1, ← HLF.out, h2]; rfl⟩
        · exact ⟨_, _, by rw [h1, HLF.out]⟩
      obtain ⟨sa, cap, rfl⟩ := hvform
      by_cases hm0 : 0 < m
      · obtain ⟨j, rfl⟩ : ∃ j, m = j + 1 := ⟨m - 1, by omega⟩
        have C := HT.out q rr wr HR.out (by omega) hpq.2
        cases hq : T q rr with
        | none =>
          rw [hq] at C
          have HC := Lib.hid C
          obtain rfl : P = none := by
            rw [HP.out]
            unfold itemsP
            rw [hq]
            rfl
          clear C hq HP
          go_wp2_with fail
          refine HC.out.mono ?_
          rintro e vx ⟨ox, rfl⟩
          have OX := Lib.hid (HO.out.trans ox)
          clear ox
          go_wp2_with fail
          exact ⟨rfl, OX.out, rfl⟩
        | some a =>
          obtain ⟨t, q1, rr1⟩ := a
          rw [hq] at C
          have HC := Lib.hid C
          have HP1 : Hid (P = (itemsP T j q1 rr1).map (fun a => ((ts ++ [t]) ++ a.1, a.2))) := Lib.hid (by
            rw [HP.out]
            rw [itemsP, hq]
            dsimp only
            cases itemsP T j q1 rr1 with
            | none => rfl
            | some b => simp)
          clear C hq HP
          go_wp2_with fail
          refine HC.out.mono ?_
          rintro e w1 ⟨ox, x, rfl, tx, rx, hq1, hq2⟩
          dsimp only at hq1 hq2 tx rx
          obtain ⟨_, sx, cx, vx⟩ := tx.its.2.form
          obtain ⟨xf, xv⟩ := x
          dsimp only at vx
          subst vx
          unfold ftV
          have HRX := Lib.hid rx
          have HOX := Lib.hid (HO.out.trans ox)
          have hrb : rb < wr.heap.size := HR.out.lt
          have hB := HO.out.size
          have hRW := HRW.out
          have hlt0 : ∀ g0, (Value.slice sa ts.length cap).ownBlock = some g0 → w.heap.size ≤ g0 ∧ g0 < wr.heap.size := fun g0 hg0 => HSL.out.lt g0 hg0
          have SL1 : Sl w1 w.heap.size 48 9 ftC (.slice sa ts.length cap) Fs := HSL.out.only ox (fun g hg hm => by
            have h1 := (hlt0 g hg).1
            simp at hm
            omega)
          have TS1 : TmsAt (fun c => w.heap.size ≤ c ∧ (Value.slice sa ts.length cap).ownBlock ≠ some c) w1 ts Fs := HTS.out.map2 ox.size (fun b hb hl => ox.block b hl (by simp; omega)) (fun _ h _ => h)
          have SL2 := SL1.only (bs := []) (Only.alloc [] w1 (.cells #[.int .i64 xf.k, .int .i64 xf.n, .int .i64 xf.g, .string xf.nm, .string xf.fn, .int .i64 xf.ar, .slice sx t.l.length cx, .string xf.bs, .int .i64 xf.bt] 48)) (fun g hg hm => by cases hm)
          have BK : Blk (w1.alloc (.cells #[.int .i64 xf.k, .int .i64 xf.n, .int .i64 xf.g, .string xf.nm, .string xf.fn, .int .i64 xf.ar, .slice sx t.l.length cx, .string xf.bs, .int .i64 xf.bt] 48)) w1.heap.size 48 (ftC ⟨xf, .slice sx t.l.length cx⟩).toArray := Blk.new w1 48 _
          have hwsz : w.heap.size ≤ (w1.alloc (.cells #[.int .i64 xf.k, .int .i64 xf.n, .int .i64 xf.g, .string xf.nm, .string xf.fn, .int .i64 xf.ar, .slice sx t.l.length cx, .string xf.bs, .int .i64 xf.bt] 48)).heap.size := by have := ox.size; simp; omega
          obtain ⟨g, cap2, W2, hrun, sl2, hgrow, hwh⟩ := sl_push_term SL2 ⟨xf, .slice sx t.l.length cx⟩ rfl w1.heap.size BK (by have := HLF.out; omega) hwsz
          have hal : ∀ b, b < w1.heap.size → (w1.alloc (.cells #[.int .i64 xf.k, .int .i64 xf.n, .int .i64 xf.g, .string xf.nm, .string xf.fn, .int .i64 xf.ar, .slice sx t.l.length cx, .string xf.bs, .int .i64 xf.bt] 48)).heap[b]? = w1.heap[b]? := fun b hb => Below.heap_alloc _ _ _ hb
          have hasz : (w1.alloc (.cells #[.int .i64 xf.k, .int .i64 xf.n, .int .i64 xf.g, .string xf.nm, .string xf.fn, .int .i64 xf.ar, .slice sx t.l.length cx, .string xf.bs, .int .i64 xf.bt] 48)).heap.size = w1.heap.size + 1 := by simp
          have hkeep : ∀ b, b < w1.heap.size → (Value.slice sa ts.length cap).ownBlock ≠ some b → W2.heap[b]? = w1.heap[b]? := fun b hb hne => (hgrow.block b (by omega) (fun e => hne e.symm)).trans (hal b hb)
          have hszW : w1.heap.size ≤ W2.heap.size := by have := hgrow.size; omega
          have hgne : ∀ b, b < w1.heap.size → (Value.slice sa ts.length cap).ownBlock ≠ some b → g ≠ b := fun b hb hne e => by
            rcases hwh with q | q
            · exact hne (by rw [q, e])
            · omega
          have HTS2 : Hid (TmsAt (fun c => w.heap.size ≤ c ∧ (Value.slice (some ⟨g, 0, none⟩) (Fs.length + 1) cap2).ownBlock ≠ some c) W2 (ts ++ [t]) (Fs ++ [⟨xf, .slice sx t.l.length cx⟩])) := Lib.hid (by
            refine TmsAt.snoc (TS1.map2 hszW (fun b hb hl => hkeep b hl hb.2) (fun b hb hl => ⟨hb.1, ?_⟩)) (tx.map hszW (fun b hb hl => hkeep b hl ?_) (fun b hb hl => ⟨by omega, ?_⟩))
            · intro e
              exact hgne b hl hb.2 (by simpa [Value.ownBlock] using e)
            · intro e
              have := (hlt0 b e).2
              omega
            · intro e
              exact hgne b hl (fun e => by have := (hlt0 b e).2; omega) (by simpa [Value.ownBlock] using e))
          have HSL2 := Lib.hid sl2
          have HO2 : Hid (Only [rb] w W2) := Lib.hid ⟨hgrow.os.trans HOX.out.os, hgrow.tape.trans HOX.out.tape, hgrow.output.trans HOX.out.output, Nat.le_trans HOX.out.size hszW, fun k hk hn => by
            have h1 := HOX.out.size
            refine (hkeep k (by omega) (fun e => ?_)).trans (HOX.out.block k hk hn)
            have := (hlt0 k e).1
            omega⟩
          have HR2 : Hid (Rd s rb rr1 q1 W2) := Lib.hid (HRX.out.same (hkeep rb HRX.out.lt (fun e => by have := (hlt0 rb e).1; omega)))
          have HRN := Lib.hid hrun
          have hq12 : p ≤ q1 ∧ q1 ≤ 2000 := ⟨by omega, hq2⟩
          clear ox tx rx SL1 TS1 SL2 BK hwsz sl2 hgrow hwh hal hasz hkeep hszW hgne hrun HRX HOX HSL HTS HO HR HC hlt0
          go_wp2_with (at_builtin; refine wpList_append_run rfl _ _ 46 46 rfl rfl rfl HRN.out ?_)
          go_wp2_with fail
          go_roundw
          case rel => exact ⟨j, q1, rr1, ts ++ [t], _, Fs ++ [⟨xf, .slice sx t.l.length cx⟩], by rw [List.length_append]; simp; omega, by go_num, rfl, HP1, HR2, hq12, HO2, HSL2, HTS2⟩
          case measure => simp [intOf]
      · obtain rfl : m = 0 := by omega
        obtain rfl : P = some (ts, q, rr) := by
          rw [HP.out]
          simp [itemsP]
        clear HP
        have HIT : Hid (ItsAt (fun c => w.heap.size ≤ c) wr ts (.slice sa ts.length cap)) := Lib.hid (by
          refine ⟨Fs, HSL.out.at (fun _ => rfl), fun b o n' c' e hn' => ?_, HTS.out.map2 (Nat.le_refl _) (fun _ _ _ => rfl) (fun _ h _ => h.1)⟩
          cases e
          exact (HSL.out.lt b rfl).1)
        go_wp2_with fail
        go_ret
        exact ⟨HO.out, _, rfl, HIT.out, HR.out, hpq.1, hpq.2⟩
  · rw [if_neg hle] at hP
    subst hP
    have d1 : decide (n ≤ 2000) = false := decide_eq_false hle
    have d1i : decide ((n : Int) ≤ 2000) = false := decide_eq_false (by omega)
    go_enter Tryz.func159, Tryz.ntmps159
    go_wp2_with fail
    refine (demand_any _ false _).mono ?_
    rintro e w0 ⟨rfl, rfl⟩
    go_wp2_with fail
    exact ⟨rfl, Only.refl _ _, rfl⟩
end Go.Proofs.YtoaimoemaoinhaaGreatDoor
