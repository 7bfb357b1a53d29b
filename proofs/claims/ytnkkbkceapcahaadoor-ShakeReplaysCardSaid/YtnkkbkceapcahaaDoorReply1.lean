/- A side in memory: its cells, what a method leaves; CutPrefix by its public name. acknowledged and replied of the program. replied of the program. -/
import Derived.Test.YtnkkbkceapcahaaDoorDial1
import Derived.Test.YtnkkbkceapcahaaDoorMac1
namespace Go.Proofs.YtnkkbkceapcahaaDoor
open Go.RowKit Go.Rt Go.Rw

theorem cutq_no (s p : ByteArray) (h : preF s p = false) (w : World) :
    Calls Tryd.prog 56 #[.string s, .string p] w fun e w' => e = .returned (.tuple #[.string s, .bool false]) ∧ w = w' := by
  have C := Lib.hid (cutp_no s p h w)
  clear h
  go_enter Tryd.func56, Tryd.ntmps56
  go_wp2_with fail
  refine C.out.mono ?_
  rintro e w' ⟨rfl, rfl⟩
  go_wp2
  go_ret2
  exact ⟨rfl, rfl⟩
theorem cutq_yes (s p : ByteArray) (h : preF s p = true) (w : World) :
    Calls Tryd.prog 56 #[.string s, .string p] w fun e w' => e = .returned (.tuple #[.string (s.extract p.size s.size), .bool true]) ∧ w = w' := by
  have C := Lib.hid (cutp_yes s p h w)
  clear h
  go_enter Tryd.func56, Tryd.ntmps56
  go_wp2_with fail
  refine C.out.mono ?_
  rintro e w' ⟨rfl, rfl⟩
  go_wp2
  go_ret2
  exact ⟨rfl, rfl⟩

/-- The cells of a side. -/
structure SC (w : World) (B : Nat) (s : Sd) : Prop where
  c0 : w.cell? ⟨B, 0, none⟩ = some (.string s.self.name)
  c1 : w.cell? ⟨B, 1, none⟩ = some (.int .i64 s.self.gen)
  c2 : w.cell? ⟨B, 2, none⟩ = some (.string s.other.name)
  c3 : w.cell? ⟨B, 3, none⟩ = some (.int .i64 s.other.gen)
  c4 : w.cell? ⟨B, 4, none⟩ = some (.string s.want)
  c5 : w.cell? ⟨B, 5, none⟩ = some (.string s.cookie)
  c6 : w.cell? ⟨B, 6, none⟩ = some (.int .u64 s.chal)
  c7 : w.cell? ⟨B, 7, none⟩ = some (.int .u64 s.their)
  c8 : w.cell? ⟨B, 8, none⟩ = some (.bool s.dials)
  c9 : w.cell? ⟨B, 9, none⟩ = some (.bool s.sent)
  c10 : w.cell? ⟨B, 10, none⟩ = some (.int .i64 s.state)
theorem sd_cells {w : World} {B : Nat} {T : TypeId} {s : Sd} (h : Blk w B T (sdC s)) : SC w B s :=
  ⟨h.cell 0, h.cell 1, h.cell 2, h.cell 3, h.cell 4, h.cell 5, h.cell 6, h.cell 7, h.cell 8, h.cell 9, h.cell 10⟩
/-- What a side is allowed to be. -/
structure SdOk (s : Sd) : Prop where
  self : nameF s.self.name = true ∧ s.self.gen ≤ 2147483647
  other : s.other.name.size ≤ 32 ∧ s.other.gen ≤ 2147483647
  want : s.want.size ≤ 6000
  cookie : s.cookie.size ≤ 6000
  chal : s.chal ≤ 18446744073709551615
  their : s.their ≤ 18446744073709551615
/-- A method's end: the side that it leaves, and its answer; an error that Take turns into a failure. -/
def Mid (T : TypeId) (B : Nat) (r : Res) (w : World) (e : Ending) (w' : World) : Prop :=
  ∃ (s1 : Sd) (out : ByteArray) (err : Nat), e = .returned (.tuple #[.string out, .int .i64 err]) ∧ Blk w' B T (sdC s1) ∧ Only [B] w w' ∧ r = if err = 0 then (s1, out, 0) else ({ s1 with state := 4 }, ⟨#[]⟩, err)
/-- Take's end. -/
def Fin (T : TypeId) (B : Nat) (r : Res) (w : World) (e : Ending) (w' : World) : Prop :=
  e = .returned (.tuple #[.string r.2.1, .int .i64 r.2.2]) ∧ Blk w' B T (sdC r.1) ∧ Only [B] w w'
theorem Only.of_below {w w' : World} {B : Nat} (bs : List Nat) (h : Below B w w') (hB : w.heap.size ≤ B) : Only bs w w' :=
  ⟨h.os, h.tape, h.output, h.size, fun k hk _ => h.block k (by omega)⟩
theorem seqB_refl (a : ByteArray) : seqB a a = true := by unfold seqB; simp
theorem seqB_eq {a b : ByteArray} : seqB a b = true ↔ a = b := by
  constructor
  · intro h
    unfold seqB at h
    rw [ByteArray.toList_eq, ByteArray.toList_eq, beq_iff_eq] at h
    exact WideShapes.bytes_inj h
  · rintro rfl; exact seqB_refl a
end Go.Proofs.YtnkkbkceapcahaaDoor
namespace Go.Proofs.YtnkkbkceapcahaaDoor
open Go.RowKit Go.Rt Go.Rw

theorem ext01 (b : ByteArray) (h : 1 ≤ b.size) : (b.extract 0 1).toList = [b[0]] := by
  rw [ByteArray.toList_eq, ByteArray.data_extract, Array.toList_extract]
  have hd : 0 < b.data.toList.length := by simp only [Array.length_toList]; exact h
  simp only [List.extract, Nat.sub_zero, List.drop_zero]
  rw [show (1 : Nat) = 0 + 1 from rfl, List.take_succ_eq_append_getElem hd]
  rfl
theorem pre1 (b : ByteArray) (c : UInt8) : preF b ⟨#[c]⟩ = (decide (1 ≤ b.size) && decide (atB b 0 = c.toNat)) := by
  unfold preF
  have e1 : (ByteArray.mk #[c]).size = 1 := rfl
  rw [e1]
  by_cases h : 1 ≤ b.size
  · rw [decide_eq_true h, Bool.true_and, Bool.true_and, ext01 b h, atB_get b 0 h]
    have : (ByteArray.mk #[c]).toList = [c] := by rw [ByteArray.toList_eq]
    rw [this, Bool.eq_iff_iff, beq_iff_eq, decide_eq_true_eq, List.cons.injEq]
    exact ⟨fun h => by rw [h.1], fun h => ⟨UInt8.toNat_inj.1 h, rfl⟩⟩
  · rw [decide_eq_false h]; rfl

theorem seqB_dec (a b : ByteArray) : seqB a b = decide (a = b) := by
  rw [Bool.eq_iff_iff, seqB_eq, decide_eq_true_eq]
set_option maxRecDepth 100000 in
set_option maxHeartbeats 1000000 in
theorem ack_any (s : Sd) (hs : SdOk s) (b : ByteArray) (hb : b.size ≤ 100000) (B : Nat) (w : World) (hB : Blk w B 46 (sdC s)) (ht : Tabs w) :
    Calls Tryd.prog 51 #[.pointer (some ⟨B, 0, none⟩), .string b] w (Mid 46 B (ackF s b) w) := by
  have HB := Lib.hid hB
  by_cases hp : preF b ⟨#[4]⟩ = true
  · have hp1 := hp
    rw [pre1, Bool.and_eq_true, decide_eq_true_eq, decide_eq_true_eq] at hp1
    obtain ⟨l1, l2⟩ := hp1
    have C := Lib.hid (fun W => cutq_yes b ⟨#[4]⟩ hp W)
    have hRz : (b.extract 1 b.size).size = b.size - 1 := ext_size _ _ _ (Nat.le_refl _)
    have C2 : Hid (∀ W, Calls Tryd.prog 56 #[.string b, .string ⟨#[4]⟩] W fun e w' => e = .returned (.tuple #[.string (b.extract 1 b.size), .bool true]) ∧ W = w') := C
    clear C
    by_cases hz : b.size = 33
    · have hA : Hid (ackF s b = if seqB (b.extract 1 b.size) (proofF letL s.other s.self s.cookie s.chal s.their) = false then failS s 350 else ({ s with state := 3 }, ⟨#[]⟩, 0)) := by
        refine Lib.hid ?_
        unfold ackF
        rw [if_neg (by rw [l2]; simp [hz]), hz]
      obtain ⟨R, hR⟩ : ∃ R, R = b.extract 1 b.size := ⟨_, rfl⟩
      rw [← hR] at hRz C2 hA
      have hR32 : ((R.size : Int) != 32) = false := by rw [bne_eq_false_iff_eq]; omega
      have hRle : R.size ≤ 32 := by omega
      have CP := Lib.hid (fun W hW => proof_any letL s.other s.self s.cookie s.chal s.their (by decide) hs.other.1 (nameF_size _ hs.self.1).2 hs.other.2 hs.self.2 hs.cookie W hW)
      have hPz : (proofF letL s.other s.self s.cookie s.chal s.their).size = 32 := macS_size _ _
      have CE := Lib.hid (fun W => equal_any R (proofF letL s.other s.self s.cookie s.chal s.their) (by omega) (by omega) W)
      obtain ⟨P, hP⟩ : ∃ P, P = proofF letL s.other s.self s.cookie s.chal s.their := ⟨_, rfl⟩
      rw [← hP] at hA CP CE
      rw [seqB_dec] at hA
      obtain ⟨d, hd⟩ : ∃ d, d = decide (R = P) := ⟨_, rfl⟩
      rw [← hd] at hA CE
      have CP2 : Hid (∀ W, Tabs W → Calls Tryd.prog 60 #[.string ⟨#[76]⟩, .agg #[.string s.other.name, .int .i64 s.other.gen], .agg #[.string s.self.name, .int .i64 s.self.gen], .string s.cookie, .int .u64 s.chal, .int .u64 s.their] W fun e w' => e = .returned (.string P) ∧ Below W.heap.size W w') := CP
      have SCW := sd_cells hB
      have hfr := fun j => hB.frozen j
      have HS0 : Hid (∀ n, (w.drewN n).cell? ⟨B, 2, none⟩ = some (.string s.other.name) ∧ (w.drewN n).cell? ⟨B, 3, none⟩ = some (.int .i64 s.other.gen) ∧ (w.drewN n).cell? ⟨B, 0, none⟩ = some (.string s.self.name) ∧ (w.drewN n).cell? ⟨B, 1, none⟩ = some (.int .i64 s.self.gen) ∧ (w.drewN n).cell? ⟨B, 5, none⟩ = some (.string s.cookie) ∧ (w.drewN n).cell? ⟨B, 6, none⟩ = some (.int .u64 s.chal) ∧ (w.drewN n).cell? ⟨B, 7, none⟩ = some (.int .u64 s.their) ∧ St w (w.drewN n)) :=
        Lib.hid (fun n => ⟨SCW.c2, SCW.c3, SCW.c0, SCW.c1, SCW.c5, SCW.c6, SCW.c7, (St.refl ht).drewN n⟩)
      clear CP hPz hP hR hRz hz l1 l2 hp hs hb SCW hB hd
      go_enter Tryd.func51, Tryd.ntmps51
      go_wp2_with fail
      refine (C2.out _).mono ?_
      rintro e w1 ⟨rfl, rfl⟩
      go_wp2_with fail
      go_region_held3 (fun w' => w'.cell? ⟨B, 2, none⟩ = some (.string s.other.name) ∧ w'.cell? ⟨B, 3, none⟩ = some (.int .i64 s.other.gen) ∧ w'.cell? ⟨B, 0, none⟩ = some (.string s.self.name) ∧ w'.cell? ⟨B, 1, none⟩ = some (.int .i64 s.self.gen) ∧ w'.cell? ⟨B, 5, none⟩ = some (.string s.cookie) ∧ w'.cell? ⟨B, 6, none⟩ = some (.int .u64 s.chal) ∧ w'.cell? ⟨B, 7, none⟩ = some (.int .u64 s.their) ∧ St w w')
        (first | exact HS0.out 1 | (obtain ⟨s1, s2, s3, s4, s5, s6, s7, s8⟩ := (‹_ ∧ _ ∧ _ ∧ _ ∧ _ ∧ _ ∧ _ ∧ St _ _›); exact ⟨cell_keep (by assumption) s1, cell_keep (by assumption) s2, cell_keep (by assumption) s3, cell_keep (by assumption) s4, cell_keep (by assumption) s5, cell_keep (by assumption) s6, cell_keep (by assumption) s7, s8.keep (by assumption)⟩))
        (first
          | (go_at_call 60; refine (CP2.out _ ((‹_ ∧ _ ∧ _ ∧ _ ∧ _ ∧ _ ∧ _ ∧ St _ _›).2.2.2.2.2.2.2).tabs).mono ?_; rintro e w2 ⟨rfl, b2⟩)
          | (go_at_call 61; refine (CE.out _).mono ?_; rintro e w3 ⟨rfl, b3⟩))
      all_goals
        have hSt := (‹_ ∧ _ ∧ _ ∧ _ ∧ _ ∧ _ ∧ _ ∧ St _ _›).2.2.2.2.2.2.2
        have B3 := Lib.hid (HB.out.below hSt.bel HB.out.lt)
        have O3 := Lib.hid (Only.of_below [B] hSt.bel (Nat.le_refl _))
        have c10 := B3.out.cell 10
        have f10 := B3.out.frozen 10
        simp only [sdC, List.getElem?_toArray, List.getElem?_cons_succ, List.getElem?_cons_zero] at c10
        clear hSt
        cases d with
        | false =>
          go_wp2
          go_ret2
          exact ⟨s, ⟨#[]⟩, 350, rfl, B3.out, O3.out, by rw [hA.out]; rfl⟩
        | true =>
          go_wp2
          go_ret2
          exact ⟨{ s with state := 3 }, ⟨#[]⟩, 0, rfl, B3.out.set_ 10 (.int .i64 3), O3.out.trans (Only.setCell _ _ _ (by simp)), by rw [hA.out]; rfl⟩
    · have hA : Hid (ackF s b = failS s 6) := Lib.hid (by unfold ackF; rw [if_pos (.inl hz)])
      obtain ⟨R, hR⟩ : ∃ R, R = b.extract 1 b.size := ⟨_, rfl⟩
      rw [← hR] at hRz C2
      have hR32 : ((R.size : Int) != 32) = true := by rw [bne_iff_ne]; omega
      clear hR hRz hz l1 l2 hp hs hb hB
      go_enter Tryd.func51, Tryd.ntmps51
      go_wp2_with fail
      refine (C2.out _).mono ?_
      rintro e w1 ⟨rfl, rfl⟩
      go_wp2
      go_ret2
      exact ⟨s, ⟨#[]⟩, 6, rfl, HB.out, Only.refl _ _, by rw [hA.out]; rfl⟩
  · have hA : Hid (ackF s b = failS s 6) := by
      refine Lib.hid ?_
      unfold ackF
      rw [if_pos]
      rw [pre1, Bool.and_eq_true, decide_eq_true_eq, decide_eq_true_eq] at hp
      by_cases hz : b.size = 33
      · exact .inr (fun h => hp ⟨by omega, h⟩)
      · exact .inl hz
    have C := Lib.hid (fun W => cutq_no b ⟨#[4]⟩ (by simpa using hp) W)
    clear hp hs hb hB
    go_enter Tryd.func51, Tryd.ntmps51
    go_wp2_with fail
    refine (C.out _).mono ?_
    rintro e w1 ⟨rfl, rfl⟩
    go_wp2
    go_ret2
    exact ⟨s, ⟨#[]⟩, 6, rfl, HB.out, Only.refl _ _, by rw [hA.out]; rfl⟩
end Go.Proofs.YtnkkbkceapcahaaDoor
namespace Go.Proofs.YtnkkbkceapcahaaDoor
open Go.RowKit Go.Rt Go.Rw

theorem Tabs.ne {w : World} (h : Tabs w) {B : Nat} {T : TypeId} {s : Sd} (hB : Blk w B T (sdC s)) : B ≠ 0 ∧ B ≠ 1 := by
  have c := (sd_cells hB).c0
  constructor
  · rintro rfl
    have := h.st 0 (by omega)
    rw [c] at this
    cases this
  · rintro rfl
    have := h.kl 0 (by omega)
    rw [c] at this
    cases this
theorem Tabs.only {w w' : World} (h : Tabs w) {bs : List Nat} (ho : Only bs w w') (h0 : 0 ∉ bs) (h1 : 1 ∉ bs) : Tabs w' := by
  have z := h.two
  refine ⟨fun i hi => ?_, fun i hi => ?_⟩
  · have := h.st i hi
    unfold World.cell? at this ⊢
    rw [ho.block 0 (by omega) h0]
    exact this
  · have := h.kl i hi
    unfold World.cell? at this ⊢
    rw [ho.block 1 (by omega) h1]
    exact this

set_option maxRecDepth 100000 in
set_option maxHeartbeats 2000000 in
theorem reply_any (s : Sd) (hs : SdOk s) (b : ByteArray) (hb : b.size ≤ 100000) (B : Nat) (w : World) (hB : Blk w B 46 (sdC s)) (ht : Tabs w) :
    Calls Tryd.prog 50 #[.pointer (some ⟨B, 0, none⟩), .string b] w (Mid 46 B (replyF s b) w) := by
  have HB := Lib.hid hB
  by_cases hp : preF b ⟨#[3]⟩ = true
  · have hp1 := hp
    rw [pre1, Bool.and_eq_true, decide_eq_true_eq, decide_eq_true_eq] at hp1
    obtain ⟨l1, l2⟩ := hp1
    have C2 : Hid (∀ W, Calls Tryd.prog 56 #[.string b, .string ⟨#[3]⟩] W fun e w' => e = .returned (.tuple #[.string (b.extract 1 b.size), .bool true]) ∧ W = w') := Lib.hid (fun W => cutq_yes b ⟨#[3]⟩ hp W)
    have hRz : (b.extract 1 b.size).size = b.size - 1 := ext_size _ _ _ (Nat.le_refl _)
    by_cases hz : b.size = 41
    · have x1 : (b.extract 1 b.size).extract 0 8 = b.extract 1 9 := by rw [ext_ext _ _ _ _ _ (by omega)]
      have x2 : (b.extract 1 b.size).extract 8 40 = b.extract 9 41 := by rw [ext_ext _ _ _ _ _ (by omega)]
      have hv8 : (b.extract 1 9).size = 8 := by rw [ext_size _ _ _ (by omega)]
      have CV := fun W => value_any (b.extract 1 9) (by omega) W
      rw [hv8] at CV
      have htl := valF_lt (b.extract 1 9) 8
      have hA : Hid (replyF s b = if seqB (b.extract 9 41) (proofF letD s.other s.self s.cookie s.chal (valF (b.extract 1 9) 8)) = false then failS { s with their := valF (b.extract 1 9) 8 } 350 else ({ s with their := valF (b.extract 1 9) 8, state := 3 }, ackC ++ proofF letL s.self s.other s.cookie (valF (b.extract 1 9) 8) s.chal, 0)) := by
        refine Lib.hid ?_
        unfold replyF
        rw [if_neg (by rw [l2]; simp [hz])]
      obtain ⟨t, htt⟩ : ∃ t, t = valF (b.extract 1 9) 8 := ⟨_, rfl⟩
      obtain ⟨R, hR⟩ : ∃ R, R = b.extract 1 b.size := ⟨_, rfl⟩
      obtain ⟨M, hM⟩ : ∃ M, M = b.extract 9 41 := ⟨_, rfl⟩
      have hMz : M.size = 32 := by rw [hM, ext_size _ _ _ (by omega)]
      rw [← htt] at hA CV htl
      rw [← hR] at hRz C2 x1 x2
      rw [← hM] at hA x2
      rw [← x1] at CV
      have HV := Lib.hid CV
      have ht8 : t ≤ 18446744073709551615 := by
        have : (256 : Nat) ^ 8 = 18446744073709551616 := by decide
        omega
      have hR40 : ((R.size : Int) != 40) = false := by rw [bne_eq_false_iff_eq]; omega
      have hR8 : (8 : Int) ≤ R.size := by omega
      have hRn : R.size = 40 := by omega
      have CP := Lib.hid (fun W hW => proof_any letD s.other s.self s.cookie s.chal t (by decide) hs.other.1 (nameF_size _ hs.self.1).2 hs.other.2 hs.self.2 hs.cookie W hW)
      have CQ := Lib.hid (fun W hW => proof_any letL s.self s.other s.cookie t s.chal (by decide) (nameF_size _ hs.self.1).2 hs.other.1 hs.self.2 hs.other.2 hs.cookie W hW)
      have hPz : (proofF letD s.other s.self s.cookie s.chal t).size = 32 := macS_size _ _
      have hQz : (proofF letL s.self s.other s.cookie t s.chal).size = 32 := macS_size _ _
      have CE := Lib.hid (fun W => equal_any M (proofF letD s.other s.self s.cookie s.chal t) (by omega) (by omega) W)
      obtain ⟨P, hP⟩ : ∃ P, P = proofF letD s.other s.self s.cookie s.chal t := ⟨_, rfl⟩
      obtain ⟨Q, hQ⟩ : ∃ Q, Q = proofF letL s.self s.other s.cookie t s.chal := ⟨_, rfl⟩
      rw [← hP] at hA CP CE
      rw [← hQ] at hA CQ hQz
      rw [seqB_dec] at hA
      obtain ⟨d, hd⟩ : ∃ d, d = decide (M = P) := ⟨_, rfl⟩
      rw [← hd] at hA CE
      have CP2 : Hid (∀ W, Tabs W → Calls Tryd.prog 60 #[.string ⟨#[68]⟩, .agg #[.string s.other.name, .int .i64 s.other.gen], .agg #[.string s.self.name, .int .i64 s.self.gen], .string s.cookie, .int .u64 s.chal, .int .u64 t] W fun e w' => e = .returned (.string P) ∧ Below W.heap.size W w') := CP
      have CQ2 : Hid (∀ W, Tabs W → Calls Tryd.prog 60 #[.string ⟨#[76]⟩, .agg #[.string s.self.name, .int .i64 s.self.gen], .agg #[.string s.other.name, .int .i64 s.other.gen], .string s.cookie, .int .u64 t, .int .u64 s.chal] W fun e w' => e = .returned (.string Q) ∧ Below W.heap.size W w') := CQ
      have hQs : ¬ 9223372036854775807 < 1 + Q.size := by omega
      obtain ⟨nB0, nB1⟩ := Tabs.ne ht hB
      have O1 : Only [B] w (w.setCell ⟨B, 7, none⟩ (.int .u64 (t : Int))) := Only.setCell _ _ _ (by simp)
      have X1 : Blk (w.setCell ⟨B, 7, none⟩ (.int .u64 (t : Int))) B 46 (sdC { s with their := t }) := hB.set_ 7 (.int .u64 (t : Int))
      have T1 := ht.only O1 (by simp; omega) (by simp; omega)
      have c7 := (sd_cells hB).c7
      have f7 := hB.frozen 7
      have HT5 : Hid (∀ W, Only [B] w W → Tabs W) := Lib.hid (fun W h => ht.only h (by simp; omega) (by simp; omega))
      have x1' : R.extract 0 8 = R.extract 0 8 := rfl
      have hMR : R.extract 8 R.size = M := by rw [hRn]; exact x2
      have hRle : R.size ≤ 40 := by omega
      clear CP CQ hPz hQz hP hQ hR hRz hz l1 l2 hp hs hb hB hd x1 x2 hv8 htt hM hMz CV htl ht8 hRn ht x1' nB0 nB1
      go_enter Tryd.func50, Tryd.ntmps50
      go_wp2_with fail
      refine (C2.out _).mono ?_
      rintro e w1 ⟨rfl, rfl⟩
      go_wp2_with fail
      refine (HV.out _).mono ?_
      rintro e w2 ⟨rfl, rfl⟩
      go_wp2_with fail
      generalize w.setCell ⟨B, 7, none⟩ (.int .u64 (t : Int)) = W1 at O1 X1 T1 ⊢
      have O1' := Lib.hid O1
      have X1' := Lib.hid X1
      have SCW := sd_cells X1
      have HS0 : Hid (∀ n, (W1.drewN n).cell? ⟨B, 2, none⟩ = some (.string s.other.name) ∧ (W1.drewN n).cell? ⟨B, 3, none⟩ = some (.int .i64 s.other.gen) ∧ (W1.drewN n).cell? ⟨B, 0, none⟩ = some (.string s.self.name) ∧ (W1.drewN n).cell? ⟨B, 1, none⟩ = some (.int .i64 s.self.gen) ∧ (W1.drewN n).cell? ⟨B, 5, none⟩ = some (.string s.cookie) ∧ (W1.drewN n).cell? ⟨B, 6, none⟩ = some (.int .u64 s.chal) ∧ (W1.drewN n).cell? ⟨B, 7, none⟩ = some (.int .u64 t) ∧ St W1 (W1.drewN n)) :=
        Lib.hid (fun n => ⟨SCW.c2, SCW.c3, SCW.c0, SCW.c1, SCW.c5, SCW.c6, SCW.c7, (St.refl T1).drewN n⟩)
      clear O1 X1 SCW T1 c7 f7
      go_region_held3 (fun w' => w'.cell? ⟨B, 2, none⟩ = some (.string s.other.name) ∧ w'.cell? ⟨B, 3, none⟩ = some (.int .i64 s.other.gen) ∧ w'.cell? ⟨B, 0, none⟩ = some (.string s.self.name) ∧ w'.cell? ⟨B, 1, none⟩ = some (.int .i64 s.self.gen) ∧ w'.cell? ⟨B, 5, none⟩ = some (.string s.cookie) ∧ w'.cell? ⟨B, 6, none⟩ = some (.int .u64 s.chal) ∧ w'.cell? ⟨B, 7, none⟩ = some (.int .u64 t) ∧ St W1 w')
        (first | exact HS0.out 1 | (obtain ⟨s1, s2, s3, s4, s5, s6, s7, s8⟩ := (‹_ ∧ _ ∧ _ ∧ _ ∧ _ ∧ _ ∧ _ ∧ St _ _›); exact ⟨cell_keep (by assumption) s1, cell_keep (by assumption) s2, cell_keep (by assumption) s3, cell_keep (by assumption) s4, cell_keep (by assumption) s5, cell_keep (by assumption) s6, cell_keep (by assumption) s7, s8.keep (by assumption)⟩))
        (first
          | (go_at_call 60; refine (CP2.out _ ((‹_ ∧ _ ∧ _ ∧ _ ∧ _ ∧ _ ∧ _ ∧ St _ _›).2.2.2.2.2.2.2).tabs).mono ?_; rintro e w3 ⟨rfl, b3⟩)
          | (go_at_call 61; refine (CE.out _).mono ?_; rintro e w4 ⟨rfl, b4⟩))
      all_goals
        have hSt := (‹_ ∧ _ ∧ _ ∧ _ ∧ _ ∧ _ ∧ _ ∧ St _ _›).2.2.2.2.2.2.2
        have B4 := Lib.hid (X1'.out.below hSt.bel X1'.out.lt)
        have O4 := Lib.hid (O1'.out.trans (Only.of_below [B] hSt.bel (Nat.le_refl _)))
        have T4 := Lib.hid hSt.tabs
        have c10 := B4.out.cell 10
        have f10 := B4.out.frozen 10
        simp only [sdC, List.getElem?_toArray, List.getElem?_cons_succ, List.getElem?_cons_zero] at c10
        clear hSt HS0
        cases d with
        | false =>
          go_wp2
          go_ret2
          exact ⟨{ s with their := t }, ⟨#[]⟩, 350, rfl, B4.out, O4.out, by rw [hA.out]; rfl⟩
        | true =>
          go_wp2_with fail
          have O5 : Only [B] w (w4.setCell ⟨B, 10, none⟩ (.int .i64 3)) := O4.out.trans (Only.setCell _ _ _ (by simp))
          have X5 : Blk (w4.setCell ⟨B, 10, none⟩ (.int .i64 3)) B 46 (sdC { s with their := t, state := 3 }) := B4.out.set_ 10 (.int .i64 3)
          have T5 := HT5.out _ O5
          generalize w4.setCell ⟨B, 10, none⟩ (.int .i64 3) = W5 at O5 X5 T5 ⊢
          have O5' := Lib.hid O5
          have X5' := Lib.hid X5
          have SCW5 := sd_cells X5
          have HS5 : Hid (∀ n, (W5.drewN n).cell? ⟨B, 2, none⟩ = some (.string s.other.name) ∧ (W5.drewN n).cell? ⟨B, 3, none⟩ = some (.int .i64 s.other.gen) ∧ (W5.drewN n).cell? ⟨B, 0, none⟩ = some (.string s.self.name) ∧ (W5.drewN n).cell? ⟨B, 1, none⟩ = some (.int .i64 s.self.gen) ∧ (W5.drewN n).cell? ⟨B, 5, none⟩ = some (.string s.cookie) ∧ (W5.drewN n).cell? ⟨B, 6, none⟩ = some (.int .u64 s.chal) ∧ (W5.drewN n).cell? ⟨B, 7, none⟩ = some (.int .u64 t) ∧ St W5 (W5.drewN n)) :=
            Lib.hid (fun n => ⟨SCW5.c2, SCW5.c3, SCW5.c0, SCW5.c1, SCW5.c5, SCW5.c6, SCW5.c7, (St.refl T5).drewN n⟩)
          clear O5 X5 SCW5 T5 c10 f10
          go_region_held3 (fun w' => w'.cell? ⟨B, 2, none⟩ = some (.string s.other.name) ∧ w'.cell? ⟨B, 3, none⟩ = some (.int .i64 s.other.gen) ∧ w'.cell? ⟨B, 0, none⟩ = some (.string s.self.name) ∧ w'.cell? ⟨B, 1, none⟩ = some (.int .i64 s.self.gen) ∧ w'.cell? ⟨B, 5, none⟩ = some (.string s.cookie) ∧ w'.cell? ⟨B, 6, none⟩ = some (.int .u64 s.chal) ∧ w'.cell? ⟨B, 7, none⟩ = some (.int .u64 t) ∧ St W5 w')
            (first | exact HS5.out 1 | (obtain ⟨s1, s2, s3, s4, s5, s6, s7, s8⟩ := (‹_ ∧ _ ∧ _ ∧ _ ∧ _ ∧ _ ∧ _ ∧ St _ _›); exact ⟨cell_keep (by assumption) s1, cell_keep (by assumption) s2, cell_keep (by assumption) s3, cell_keep (by assumption) s4, cell_keep (by assumption) s5, cell_keep (by assumption) s6, cell_keep (by assumption) s7, s8.keep (by assumption)⟩))
            ((go_at_call 60; refine (CQ2.out _ ((‹_ ∧ _ ∧ _ ∧ _ ∧ _ ∧ _ ∧ _ ∧ St _ _›).2.2.2.2.2.2.2).tabs).mono ?_; rintro e w6 ⟨rfl, b6⟩))
          all_goals
            have hSt := (‹_ ∧ _ ∧ _ ∧ _ ∧ _ ∧ _ ∧ _ ∧ St _ _›).2.2.2.2.2.2.2
            go_wp2
            go_ret2
            exact ⟨{ s with their := t, state := 3 }, ackC ++ Q, 0, rfl, X5'.out.below hSt.bel X5'.out.lt, O5'.out.trans (Only.of_below [B] hSt.bel (Nat.le_refl _)), by rw [hA.out]; rfl⟩
    · have hA : Hid (replyF s b = failS s 6) := Lib.hid (by unfold replyF; rw [if_pos (.inl hz)])
      obtain ⟨R, hR⟩ : ∃ R, R = b.extract 1 b.size := ⟨_, rfl⟩
      rw [← hR] at hRz C2
      have hR32 : ((R.size : Int) != 40) = true := by rw [bne_iff_ne]; omega
      clear hR hRz hz l1 l2 hp hs hb hB
      go_enter Tryd.func50, Tryd.ntmps50
      go_wp2_with fail
      refine (C2.out _).mono ?_
      rintro e w1 ⟨rfl, rfl⟩
      go_wp2
      go_ret2
      exact ⟨s, ⟨#[]⟩, 6, rfl, HB.out, Only.refl _ _, by rw [hA.out]; rfl⟩
  · have hA : Hid (replyF s b = failS s 6) := by
      refine Lib.hid ?_
      unfold replyF
      rw [if_pos]
      rw [pre1, Bool.and_eq_true, decide_eq_true_eq, decide_eq_true_eq] at hp
      by_cases hz : b.size = 41
      · exact .inr (fun h => hp ⟨by omega, h⟩)
      · exact .inl hz
    have C := Lib.hid (fun W => cutq_no b ⟨#[3]⟩ (by simpa using hp) W)
    clear hp hs hb hB
    go_enter Tryd.func50, Tryd.ntmps50
    go_wp2_with fail
    refine (C.out _).mono ?_
    rintro e w1 ⟨rfl, rfl⟩
    go_wp2
    go_ret2
    exact ⟨s, ⟨#[]⟩, 6, rfl, HB.out, Only.refl _ _, by rw [hA.out]; rfl⟩
end Go.Proofs.YtnkkbkceapcahaaDoor
