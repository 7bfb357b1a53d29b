/- wire.Get. -/
import Derived.Test.YtcpdmlnodhokmaaTake
namespace Go.Proofs.Ytcpdmlnodhokmaa
open Go.RowKit Go.Rt Go.Rw

theorem takeF_e (s : ByteArray) : (takeF s).2.2 = 0 ∨ takeF s = (zeroT, 0, 6) := by
  unfold takeF
  split
  · exact .inr rfl
  · split
    · exact .inl rfl
    · exact .inr rfl
/-- The bytes behind the first. -/
def tailB (s : ByteArray) : ByteArray := s.extract 1 s.size
theorem tailB_list (s : ByteArray) : (tailB s).data.toList = s.data.toList.tail := by
  unfold tailB
  rw [ByteArray.data_extract, Array.toList_extract]
  simp [List.extract]
  exact List.take_of_length_le (by simp)
theorem tailB_size (s : ByteArray) : (tailB s).size = s.size - 1 := by
  have := congrArg List.length (tailB_list s)
  simpa using this
/-- What Get returns: the term, the error. -/
def getF (s : ByteArray) : Tm × Int := if 0 < s.size ∧ atB s 0 = 131 ∧ (takeF (tailB s)).2.2 = 0 ∧ (takeF (tailB s)).2.1 = s.size - 1 then ((takeF (tailB s)).1, 0) else (zeroT, 6)
def GetR (f : Tm × Int) (w : World) (e : Ending) (w' : World) : Prop :=
  Below w.heap.size w w' ∧ ∃ x, e = .returned (.tuple #[ftV x, .int .i64 f.2]) ∧ TmAt (fun c => w.heap.size ≤ c) w' f.1 x
theorem getR_zero {w w' : World} (h : Below w.heap.size w w') : GetR (zeroT, 6) w (.returned (.tuple #[.agg zeroC, .int .i64 6])) w' := ⟨h, ⟨zeroFl, .slice none 0 0⟩, rfl, zeroT_at _ _⟩
theorem results_ct {P : Program} {fn : Func} {a b : Tmp} {ty t : TypeId} (h : fn.results = #[.cell a ty, .tmp b]) (tmps : Array Value) (w : World) (g : Nat) (cs : Array Value) (d : TypeDesc) (u : Value) (hx : tmps.getD a undef = .pointer (some ⟨g, 0, none⟩)) (hb : tmps.getD b undef = u)
    (hc : Blk w g t cs) (hu : P.underlying ty = some d) (hd : d.isRow = true) (hi : (P.info? ty).map (·.size) = some cs.size) : (results fn tmps).run P w = .ok (.tuple #[.agg cs, u]) w := by
  have := run_loadVar_mid (P := P) w g 0 ty cs.toList d hc.range hu hd (by simpa using hi)
  rw [Array.getD_eq_getD_getElem?] at hx hb
  simp only [Array.toArray_toList] at this
  simp [results, h, hx, asAddr, this, hb]
set_option maxRecDepth 100000 in
set_option maxHeartbeats 2000000 in
theorem get_any (s : ByteArray) (hs : s.size ≤ 200000) (w : World) : Calls Try.prog 12 #[.string s] w (GetR (getF s) w) := by
  obtain ⟨F, hF⟩ : ∃ F, F = getF s := ⟨_, rfl⟩
  rw [← hF]
  unfold getF at hF
  have HF := Lib.hid hF
  clear hF
  have BT := Lib.hid (Blk.new w 25 zeroC)
  have BB := Lib.hid ((Below.refl w.heap.size w).alloc (Nat.le_refl _) (.cells zeroC 25))
  unfold zeroC at BT BB
  by_cases h0 : s.size = 0
  · have hs0 : s.toList = [] := by
      have : s = ByteArray.mk #[] := ByteArray.ext (Array.eq_empty_of_size_eq_zero h0)
      subst this; simp
    have hs2 : s.toList.isEmpty = true := by rw [hs0]; rfl
    obtain rfl : F = (zeroT, 6) := by rw [HF.out, if_neg (by omega)]
    clear HF
    go_enter Try.func12, Try.ntmps12
    go_upto_region 1 with fail
    generalize w.alloc (.cells #[.int .i64 0, .int .i64 0, .int .i64 0, .string ⟨#[]⟩, .string ⟨#[]⟩, .int .i64 0, .slice none 0 0, .string ⟨#[]⟩, .int .i64 0] 25) = v0 at BT BB ⊢
    go_wp2_with (refine wpList_store_blk rfl 25 _ _ rfl rfl w.heap.size zeroC _ 25 rfl rfl BT.out rfl info25 (by simp [zeroC, Value.oneCell']) ?_; intro v1 b1 o1)
    exact bodyPost_ret (results_ct (a := 2) (b := 3) rfl _ _ w.heap.size _ _ (.int .i64 6) rfl rfl b1 Try.underlying25 rfl info25) rfl (getR_zero (BB.out.trans (o1.below (by simp) BB.out.size)))
  · have hs0 : ¬ s.toList = [] := by
      intro h
      have h2 : s.toList.length = 0 := by rw [h]; rfl
      rw [ByteArray.toList_eq] at h2
      exact h0 h2
    have hs2 : s.toList.isEmpty = false := by rw [List.isEmpty_eq_false_iff]; exact hs0
    have h0' : 0 < s.size := by omega
    have hat := atB_get s 0 h0'
    have hc0 : s[0].toNat < 256 := s[0].toNat_lt
    by_cases hl : s[0].toNat = 131
    · have hne : ((s[0].toNat : Int) != 131) = false := by rw [bne_eq_false_iff_eq]; omega
      have hsl : ∀ W, (Instr.slice 9 (.string s) (some (.int .i64 1)) none none).run Try.prog W = .ok (.string (tailB s)) W := fun W => by rw [run_slice_string_from_if W 9 s .i64 1 Try.underlying9, if_pos (by omega)]; rfl
      have HC : Hid (∀ W, Calls Try.prog 15 #[.string (tailB s)] W (TakeR (takeF (tailB s)) W)) := Lib.hid (fun W => take_any' (tailB s) (by rw [tailB_size]; omega) W)
      have hte := takeF_e (tailB s)
      obtain ⟨m, hm⟩ : ∃ m, m = s.size - 1 := ⟨_, rfl⟩
      have hF2 : F = if (takeF (tailB s)).2.2 = 0 ∧ (takeF (tailB s)).2.1 = m then ((takeF (tailB s)).1, 0) else (zeroT, 6) := by
        rw [HF.out, hm, hat, hl]
        simp [h0']
      have w1 : IntKind.i64.wrap ((s.size : Int) - 1) = (m : Int) := by rw [IntKind.wrap_i64]; omega
      obtain ⟨f, hf⟩ : ∃ f, f = takeF (tailB s) := ⟨_, rfl⟩
      rw [← hf] at HC hte hF2
      obtain ⟨t, n, e⟩ := f
      dsimp only at HC hte hF2
      have HF2 := Lib.hid hF2
      have HTE := Lib.hid hte
      clear hf hm HF hF2 hte hat
      generalize tailB s = s' at hsl HC
      go_enter Try.func12, Try.ntmps12
      go_upto_region 3 with fail
      generalize w.alloc (.cells #[.int .i64 0, .int .i64 0, .int .i64 0, .string ⟨#[]⟩, .string ⟨#[]⟩, .int .i64 0, .slice none 0 0, .string ⟨#[]⟩, .int .i64 0] 25) = v0 at BT BB ⊢
      go_wp2_with fail
      refine (HC.out v0).mono ?_
      rintro e1 v1 ⟨b1, x, rfl, tx⟩
      dsimp only at tx
      obtain ⟨_, sx, cx, vx⟩ := tx.its.2.form
      obtain ⟨xf, xv⟩ := x
      dsimp only at vx
      subst vx
      have BT1 := Lib.hid (BT.out.below b1 BT.out.lt)
      have BB1 := Lib.hid (BB.out.trans (b1.mono BB.out.size))
      have HL : Hid (w.heap.size < v0.heap.size) := Lib.hid BT.out.lt
      obtain ⟨li, hli⟩ : ∃ li, li = t.l.length := ⟨_, rfl⟩
      rw [← hli] at tx ⊢
      have BT2 := Lib.hid (BT1.out.alloc (.cells #[.int .i64 xf.k, .int .i64 xf.n, .int .i64 xf.g, .string xf.nm, .string xf.fn, .int .i64 xf.ar, .slice sx li cx, .string xf.bs, .int .i64 xf.bt] 25))
      have BB2 := Lib.hid (BB1.out.alloc BB1.out.size (.cells #[.int .i64 xf.k, .int .i64 xf.n, .int .i64 xf.g, .string xf.nm, .string xf.fn, .int .i64 xf.ar, .slice sx li cx, .string xf.bs, .int .i64 xf.bt] 25))
      have X2 := Lib.hid (Blk.new v1 25 #[.int .i64 xf.k, .int .i64 xf.n, .int .i64 xf.g, .string xf.nm, .string xf.fn, .int .i64 xf.ar, .slice sx li cx, .string xf.bs, .int .i64 xf.bt])
      have T2 := Lib.hid (tx.below ((Below.refl _ _).alloc (Nat.le_refl _) (.cells #[.int .i64 xf.k, .int .i64 xf.n, .int .i64 xf.g, .string xf.nm, .string xf.fn, .int .i64 xf.ar, .slice sx li cx, .string xf.bs, .int .i64 xf.bt] 25)) (fun _ _ h => h))
      have HG : Hid (v0.heap.size ≤ v1.heap.size) := Lib.hid b1.size
      clear b1 tx hli BT1 BB1 BT BB HC hsl
      unfold ftV
      dsimp only
      go_upto_region 4 with fail
      generalize v1.alloc (.cells #[.int .i64 xf.k, .int .i64 xf.n, .int .i64 xf.g, .string xf.nm, .string xf.fn, .int .i64 xf.ar, .slice sx li cx, .string xf.bs, .int .i64 xf.bt] 25) = v2 at BT2 BB2 X2 T2 ⊢
      generalize v1.heap.size = g at HG X2 ⊢
      by_cases he : e = 0
      · subst he
        by_cases hn : n = m
        · subst hn
          obtain rfl : F = (t, 0) := by rw [HF2.out, if_pos ⟨rfl, rfl⟩]
          have d1 : ((n : Int) != (n : Int)) = false := by simp
          clear HF2 HTE
          go_wp2_with (first
            | (refine wpList_load_blk rfl 25 _ rfl g rfl _ 25 _ X2.out Try.underlying25 rfl info25 ?_)
            | (refine wpList_store_blk rfl 25 _ _ rfl rfl w.heap.size #[.int .i64 xf.k, .int .i64 xf.n, .int .i64 xf.g, .string xf.nm, .string xf.fn, .int .i64 xf.ar, .slice sx li cx, .string xf.bs, .int .i64 xf.bt] _ 25 rfl rfl BT2.out rfl info25 (by simp [Value.oneCell']) ?_; intro v3 b3 o3))
          refine bodyPost_ret (results_ct (a := 2) (b := 3) rfl _ _ w.heap.size _ _ (.int .i64 0) rfl rfl b3 Try.underlying25 rfl info25) rfl ?_
          refine ⟨BB2.out.trans (o3.below (by simp) BB2.out.size), ⟨xf, .slice sx li cx⟩, rfl, ?_⟩
          exact (T2.out.only o3 (fun b hb _ => by have := HL.out; simp; omega)).mono (fun b hb _ => by have := HL.out; show w.heap.size ≤ b; omega)
        · obtain rfl : F = (zeroT, 6) := by rw [HF2.out, if_neg (by simp [hn])]
          have d1 : ((n : Int) != (m : Int)) = true := by rw [bne_iff_ne]; omega
          clear HF2 HTE hn
          go_wp2_with (refine wpList_store_blk rfl 25 _ _ rfl rfl w.heap.size zeroC _ 25 rfl rfl BT2.out rfl info25 (by simp [zeroC, Value.oneCell']) ?_; intro v3 b3 o3)
          exact bodyPost_ret (results_ct (a := 2) (b := 3) rfl _ _ w.heap.size _ _ (.int .i64 6) rfl rfl b3 Try.underlying25 rfl info25) rfl (getR_zero (BB2.out.trans (o3.below (by simp) BB2.out.size)))
      · obtain rfl : F = (zeroT, 6) := by rw [HF2.out, if_neg (by simp [he])]
        obtain ⟨rfl, rfl, rfl⟩ : t = zeroT ∧ n = 0 ∧ e = 6 := by
          rcases HTE.out with h | h
          · exact absurd h he
          · cases h; exact ⟨rfl, rfl, rfl⟩
        clear HF2 HTE he
        go_wp2_with (refine wpList_store_blk rfl 25 _ _ rfl rfl w.heap.size zeroC _ 25 rfl rfl BT2.out rfl info25 (by simp [zeroC, Value.oneCell']) ?_; intro v3 b3 o3)
        exact bodyPost_ret (results_ct (a := 2) (b := 3) rfl _ _ w.heap.size _ _ (.int .i64 6) rfl rfl b3 Try.underlying25 rfl info25) rfl (getR_zero (BB2.out.trans (o3.below (by simp) BB2.out.size)))
    · obtain rfl : F = (zeroT, 6) := by rw [HF.out, if_neg (by rw [hat]; omega)]
      have hne : ((s[0].toNat : Int) != 131) = true := by rw [bne_iff_ne]; omega
      clear HF hat
      go_enter Try.func12, Try.ntmps12
      go_upto_region 1 with fail
      generalize w.alloc (.cells #[.int .i64 0, .int .i64 0, .int .i64 0, .string ⟨#[]⟩, .string ⟨#[]⟩, .int .i64 0, .slice none 0 0, .string ⟨#[]⟩, .int .i64 0] 25) = v0 at BT BB ⊢
      go_wp2_with (refine wpList_store_blk rfl 25 _ _ rfl rfl w.heap.size zeroC _ 25 rfl rfl BT.out rfl info25 (by simp [zeroC, Value.oneCell']) ?_; intro v1 b1 o1)
      exact bodyPost_ret (results_ct (a := 2) (b := 3) rfl _ _ w.heap.size _ _ (.int .i64 6) rfl rfl b1 Try.underlying25 rfl info25) rfl (getR_zero (BB.out.trans (o1.below (by simp) BB.out.size)))
end Go.Proofs.Ytcpdmlnodhokmaa
