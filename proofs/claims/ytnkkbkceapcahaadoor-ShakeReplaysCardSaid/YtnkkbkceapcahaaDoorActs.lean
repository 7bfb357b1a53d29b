/- Lists of calls of a side: as an argument, and what long says of them. No condition beyond the premises of each theorem. -/
import Derived.Test.YtnkkbkceapcahaaDoorMeetsR
import Derived.Test.YtnkkbkceapcahaaDoorArgsD
namespace Go.Proofs.YtnkkbkceapcahaaDoor
open Go.RowKit Go.Rt Go.Rw

/-- A call of a side. -/
structure Ac where
  kind : Int
  how : Int
  text : ByteArray
def acC (a : Ac) : List Value := [.int .i64 a.kind, .int .i64 a.how, .string a.text]
def acD {H : Type} (a : Ac) : DataW H := .agg [.lit (.int .i64 a.kind), .lit (.int .i64 a.how), .lit (.string a.text.data.toList)]
theorem acC_len (a : Ac) : (acC a).length = 3 := rfl
theorem size69 : Tryd.prog.cellsOf 69 = 3 := by kernel_rfl
theorem list3 {α : Type} {l : List α} (h : l.length = 3) : ∃ a b c, l = [a, b, c] := by
  match l, h with
  | [a, b, c], _ => exact ⟨a, b, c, rfl⟩
section
open Go.ChangeShapes Go.WideShapes Go.ChangeAt
variable {H : Type} {enc : TypeId × Value → H} {w : World} {base : Nat} {spare : Nat → Bool} {held : Bool} {fuel : Nat}
theorem trod_struct3 {P : Program} {t : TypeId} {f0 f1 f2 : Field} {cs : List Value} {x : DataW H × List MemPlace} (ht : P.underlying t = some (.struct #[f0, f1, f2])) (h : DataW.trod enc P w base spare held fuel t cs = some x) :
    ∃ y0 y1 y2 n, x = (.agg [y0.1, y1.1, y2.1], y0.2 ++ (y1.2 ++ y2.2)) ∧ cs.length = P.cellsOf t ∧ DataW.trod enc P w base spare held n f0.type ((cs.drop f0.offset).take (P.cellsOf f0.type)) = some y0 ∧
      DataW.trod enc P w base spare held n f1.type ((cs.drop f1.offset).take (P.cellsOf f1.type)) = some y1 ∧ DataW.trod enc P w base spare held n f2.type ((cs.drop f2.offset).take (P.cellsOf f2.type)) = some y2 := by
  obtain ⟨xs, n, _, rfl, hl, hlen, hf⟩ := DataW.trod_struct ht h
  match xs, hlen with
  | [y0, y1, y2], _ => exact ⟨y0, y1, y2, n, by simp, hl, by simpa using hf 0 f0 rfl, by simpa using hf 1 f1 rfl, by simpa using hf 2 f2 rfl⟩
theorem act_trod {cs : List Value} {x : DataW H × List MemPlace} (h : DataW.trod enc Tryd.prog w base spare held fuel 69 cs = some x) : ∃ a : Ac, cs = acC a ∧ x.1 = acD a := by
  obtain ⟨y0, y1, y2, n, hx, hl, h0, h1, h2⟩ := trod_struct3 Tryd.underlying69 h
  rw [size69] at hl
  obtain ⟨c0, c1, c2, rfl⟩ := list3 hl
  · simp only [size9, show Tryd.prog.cellsOf 3 = 1 by kernel_rfl, List.drop_zero, List.take_succ_cons, List.take_zero, List.drop_succ_cons] at h0 h1 h2
    obtain ⟨k, e0, rfl, _⟩ := DataW.trod_int Tryd.underlying3 h0
    obtain ⟨g, e1, rfl, _⟩ := DataW.trod_int Tryd.underlying3 h1
    obtain ⟨s, e2, rfl, _⟩ := DataW.trod_string Tryd.underlying9 h2
    simp only [List.cons.injEq, and_true] at e0 e1 e2
    subst e0 e1 e2
    exact ⟨⟨k, g, s⟩, rfl, by rw [hx]; rfl⟩
theorem acts_open {v : Value} {x : DataW H × List MemPlace} (h : DataW.trod enc Tryd.prog w base spare held fuel 60 [v] = some x) :
    ∃ As, SlAt w 3 acC v As ∧ As.length ≤ 9223372036854775807 ∧ ∀ a ∈ As, ∃ d, InSlice d x.1 ∧ d = acD a :=
  slice_atD acC (fun d a => d = acD a) Tryd.underlying60 size69 (by omega) (fun _ _ _ h => by obtain ⟨a, h1, h2⟩ := act_trod h; exact ⟨a, h1, h2⟩) h
theorem acts_sizes {ts : List TypeId} {ds : List (DataW H)} (hd : (DataW.weightsEach Tryd.prog ts ds).all (· ≤ reachBytes) = true) {j : Nat} {x : DataW H} (ht : ts[j]? = some 60) (hj : ds[j]? = some x) {a : Ac} (h : ∃ d, InSlice d x ∧ d = acD a) :
    a.text.size ≤ 140737488355328 := by
  obtain ⟨d, h1, rfl⟩ := h
  have hm : a.text.data.toList.length ∈ (acD (H := H) a).weights Tryd.prog 69 := by simp [acD, DataW.weights, DataW.weightsEach, Tryd.underlying69]
  have := List.all_eq_true.1 hd _ (DataW.weights_mem_each ht hj _ (h1.weights Tryd.underlying60 hm))
  have h2 : reachBytes = 140737488351232 := rfl
  simp only [decide_eq_true_eq, Array.length_toList, h2, ByteArray.size_data] at this
  omega
end

def tot (L : List Ac) : Nat := (L.map fun a => a.text.size + 1).sum
theorem tot_succ (L : List Ac) (k : Nat) (h : k < L.length) : tot (L.take (k + 1)) = tot (L.take k) + L[k].text.size + 1 := by
  unfold tot
  rw [List.take_succ_eq_append_getElem h, List.map_append, List.sum_append]
  simp
  omega
theorem tot_le (L : List Ac) (h : ∀ a ∈ L, a.text.size ≤ 140737488355328) : tot L ≤ L.length * 140737488355329 := by
  induction L with
  | nil => simp [tot]
  | cons b r ih =>
    have h1 := h b (by simp)
    have h2 := ih fun a ha => h a (by simp [ha])
    unfold tot at h2 ⊢
    simp only [List.map_cons, List.sum_cons, List.length_cons, Nat.succ_mul]
    omega
theorem tot_mem {L : List Ac} {a : Ac} (h : a ∈ L) : a.text.size ≤ tot L := by
  induction L with
  | nil => cases h
  | cons b r ih =>
    unfold tot at *
    simp only [List.map_cons, List.sum_cons]
    rcases List.mem_cons.1 h with rfl | h
    · omega
    · have := ih h; omega
/-- What long says. -/
def longA (x : Stg) (L : List Ac) : Bool := decide (6000 < x.want.size + x.cookie.size + x.name.size + tot L) || decide (40 < L.length)

theorem tot_take_le (L : List Ac) (k : Nat) : tot (L.take k) ≤ tot L := by
  unfold tot
  conv => rhs; rw [← List.take_append_drop k L, List.map_append, List.sum_append]
  omega
abbrev stgC (x : Stg) : Array Value := #[.bool x.dials, .string x.name, .int .i64 x.gen, .string x.want, .string x.cookie, .int .u64 x.chal]
theorem sl_below {α : Type} {c : α → List Value} {w w' : World} {m : Nat} {v : Value} {L : List α} (h : SlAt w m c v L) (hb : Below w.heap.size w w') : SlAt w' m c v L := by
  rcases h with h | ⟨b, o, cap, h1, h2, h3, h4⟩
  · exact .inl h
  · have hz := hb.size
    exact .inr ⟨b, o, cap, h1, h2, by omega, fun i j hi hj => (hb.cell (p := ⟨b, _, none⟩) h3).trans (h4 i j hi hj)⟩
set_option maxRecDepth 100000 in
set_option maxHeartbeats 1000000 in
theorem longA_few (x : Stg) (sx : StgSz x) (v : Value) (L : List Ac) (w : World) (hv : SlAt w 3 acC v L) (hs : ∀ a ∈ L, a.text.size ≤ 140737488355328) (h40 : L.length ≤ 40) :
    Calls Tryd.prog 10 #[.agg #[.bool x.dials, .string x.name, .int .i64 x.gen, .string x.want, .string x.cookie, .int .u64 x.chal], v] w fun e w' => e = .returned (.bool (longA x L)) ∧ Below w.heap.size w w' := by
  have hb1 : Below w.heap.size w (w.alloc (.cells (stgC x) 26)) := (Below.refl _ _).alloc (Nat.le_refl _) _
  have HV := Lib.hid (sl_below hv hb1)
  obtain ⟨sa, cap, rfl⟩ := hv.len.2
  have HS := Lib.hid hs
  have ht := tot_le L hs
  have h1 := sx.n
  have h2 := sx.w
  have h3 := sx.c
  obtain ⟨t, htt⟩ : ∃ t, t = tot L := ⟨_, rfl⟩
  have hL : longA x L = decide ((6000 : Int) < (x.want.size : Int) + x.cookie.size + x.name.size + (t : Int)) := by
    unfold longA
    rw [decide_eq_false (p := 40 < L.length) (by omega), Bool.or_false, htt]
    congr 1
    apply propext
    omega
  rw [hL]
  have HT := Lib.hid htt
  have htl : t ≤ 40 * 140737488355329 := by
    have : L.length * 140737488355329 ≤ 40 * 140737488355329 := Nat.mul_le_mul_right _ h40
    omega
  clear hv hs sx hL htt ht hb1
  go_enter Tryd.func10, Tryd.ntmps10
  go_wp2_with fail
  go_loop [5, 6] (fun n i => ∃ k : Nat, k ≤ L.length ∧ i = .int .i64 k ∧ n = .int .i64 ((x.want.size : Int) + x.cookie.size + x.name.size + (tot (L.take k) : Int))) (fun _ i => L.length - (intOf i).toNat)
  case atStart => exact ⟨0, Nat.zero_le _, rfl, by simp [tot]⟩
  case round =>
    obtain ⟨k, hk, rfl, rfl⟩ := hrel
    have hts := tot_take_le L k
    rw [← HT.out] at hts
    by_cases hlt : k < L.length
    · have hq := tot_succ L k hlt
      have hz := HS.out _ (List.getElem_mem hlt)
      obtain ⟨b, o, rfl, hbl, hc⟩ := HV.out.get (by omega)
      have c2 := hc k 2 hlt (by omega)
      simp only [acC, List.getElem?_cons_succ, List.getElem?_cons_zero] at c2
      have HQ := Lib.hid hq
      clear hq hc
      obtain ⟨T, hT⟩ : ∃ T, T = tot (L.take k) := ⟨_, rfl⟩
      rw [← hT] at hts HQ ⊢
      have HTT := Lib.hid hT
      clear hT
      go_wp2
      go_round
      case rel => exact ⟨k + 1, by omega, by go_num, by rw [HQ.out]; go_num⟩
      case measure => simp [intOf]; omega
    · have e : L.take k = L := List.take_of_length_le (by omega)
      rw [e, ← HT.out]
      clear e hts
      by_cases hbig : (6000 : Int) < (x.want.size : Int) + x.cookie.size + x.name.size + (t : Int)
      · have hd := decide_eq_true hbig
        go_wp2
        go_ret
        exact ⟨rfl, (Below.refl _ _).alloc (Nat.le_refl _) _⟩
      · have hd := decide_eq_false hbig
        have h4 : decide ((40 : Int) < (L.length : Int)) = false := decide_eq_false (by omega)
        go_wp2
        go_ret
        exact ⟨rfl, (Below.refl _ _).alloc (Nat.le_refl _) _⟩
set_option maxRecDepth 100000 in
set_option maxHeartbeats 1000000 in
theorem longA_many (x : Stg) (sx : StgSz x) (v : Value) (L : List Ac) (w : World) (hv : SlAt w 3 acC v L) (h40 : 40 < L.length) :
    Calls Tryd.prog 10 #[.agg #[.bool x.dials, .string x.name, .int .i64 x.gen, .string x.want, .string x.cookie, .int .u64 x.chal], v] w fun e w' => e = .returned (.bool (longA x L)) ∧ Below w.heap.size w w' := by
  have hb1 : Below w.heap.size w (w.alloc (.cells (stgC x) 26)) := (Below.refl _ _).alloc (Nat.le_refl _) _
  have HV := Lib.hid (sl_below hv hb1)
  obtain ⟨hl, sa, cap, rfl⟩ := hv.len
  have h1 := sx.n
  have h2 := sx.w
  have h3 := sx.c
  have hL : longA x L = true := by
    unfold longA
    rw [decide_eq_true (p := 40 < L.length) h40, Bool.or_true]
  rw [hL]
  clear hv sx hL hb1
  go_enter Tryd.func10, Tryd.ntmps10
  go_wp2_with fail
  go_loop [5, 6] (fun n i => ∃ (k : Nat) (z : Int), k ≤ L.length ∧ i = .int .i64 k ∧ n = .int .i64 z) (fun _ i => L.length - (intOf i).toNat)
  case atStart => exact ⟨0, _, Nat.zero_le _, rfl, rfl⟩
  case round =>
    obtain ⟨k, z, hk, rfl, rfl⟩ := hrel
    by_cases hlt : k < L.length
    · obtain ⟨b, o, rfl, hbl, hc⟩ := HV.out.get (by omega)
      have c2 := hc k 2 hlt (by omega)
      simp only [acC, List.getElem?_cons_succ, List.getElem?_cons_zero] at c2
      clear hc
      go_wp2
      go_round
      case rel => exact ⟨k + 1, _, by omega, by go_num, rfl⟩
      case measure => simp [intOf]; omega
    · by_cases hbig : (6000 : Int) < z
      · have hd := decide_eq_true hbig
        go_wp2
        go_ret
        exact ⟨rfl, (Below.refl _ _).alloc (Nat.le_refl _) _⟩
      · have hd := decide_eq_false hbig
        have h4 : decide ((40 : Int) < (L.length : Int)) = true := decide_eq_true (by omega)
        go_wp2
        go_ret
        exact ⟨rfl, (Below.refl _ _).alloc (Nat.le_refl _) _⟩
theorem longA_any (x : Stg) (sx : StgSz x) (v : Value) (L : List Ac) (w : World) (hv : SlAt w 3 acC v L) (hs : ∀ a ∈ L, a.text.size ≤ 140737488355328) :
    Calls Tryd.prog 10 #[.agg #[.bool x.dials, .string x.name, .int .i64 x.gen, .string x.want, .string x.cookie, .int .u64 x.chal], v] w fun e w' => e = .returned (.bool (longA x L)) ∧ Below w.heap.size w w' := by
  by_cases h : L.length ≤ 40
  · exact longA_few x sx v L w hv hs h
  · exact longA_many x sx v L w hv (by omega)
/-- Any call of both sides. -/
theorem act_any {w W : World} {B C : Nat} {s : Sd} (S : Ss w W [(B, 46, s), (C, 83, s)]) (hs : Fine s) (a : Ac) (ht : a.text.size ≤ 100000) :
    Calls Tryd.prog 27 #[.pointer (some ⟨B, 0, none⟩), .pointer (some ⟨C, 0, none⟩), .agg #[.int .i64 a.kind, .int .i64 a.how, .string a.text]] W fun e W' => e = .returned (.bool true) ∧ ∃ s', Fine s' ∧ Ss w W' [(B, 46, s'), (C, 83, s')] := by
  cases hk : (a.kind == 1) with
  | true => exact (act_answer S 0 1 (by decide) rfl rfl hs a.kind a.how a.text ht hk).mono fun _ _ ⟨e, h⟩ => ⟨e, _, hs.answer a.how, h⟩
  | false => exact (act_take S 0 1 (by decide) rfl rfl hs a.kind a.how a.text ht hk).mono fun _ _ ⟨e, h⟩ => ⟨e, _, hs.take a.text, h⟩
end Go.Proofs.YtnkkbkceapcahaaDoor
