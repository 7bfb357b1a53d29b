/- steps: a map from what a side waits for to what it does, as a list of entries. -/
import Derived.Test.YtnkkbkceapcahaaDoorOffer
import Derived.MapKept
import Derived.Deep.RegionLaw
namespace Go.Proofs.YtnkkbkceapcahaaDoor
open Go.RowKit Go.Rt Go.Rw Go.MapKept

abbrev KE := Bool × Bool × Nat × Nat
def fnV (f : Nat) : Value := .func (.func f) #[] #[]
def ent (p : KE) : MapEntry := { key := .agg #[.bool p.1, .bool p.2.1], val := fnV p.2.2.1, born := p.2.2.2 }
def MB (w : World) (B : Nat) (L : List KE) : Prop := ∃ c, w.heap[B]? = some (.map (L.map ent).toArray c)
def findK (x y : Bool) : List KE → Nat → Option (Nat × Value)
  | [], _ => none
  | p :: r, i => if (x == p.1 && y == p.2.1) = true then some (i, fnV p.2.2.1) else findK x y r (i + 1)
theorem und77 : Tryd.prog.underlying 77 = some (.map 44 76) := by kernel_rfl
theorem eq44 (a b c d : Bool) (w : World) : (Op.equal 44 (.agg #[.bool a, .bool b]) (.agg #[.bool c, .bool d])).run Tryd.prog w = .ok (a == c && b == d) w := by
  cases a <;> cases b <;> cases c <;> cases d <;> kernel_rfl
theorem ck44 (e a b : Bool) (w : World) : (Instr.checkKey e 10000 44 (.agg #[.bool a, .bool b])).run Tryd.prog w = .ok () w := by
  cases e <;> cases a <;> cases b <;> kernel_rfl
theorem asking44 (x y : Bool) (w : World) : ∀ (L : List KE) (i : Nat), (Instr.findAsking 44 (.agg #[.bool x, .bool y]) (L.map ent) i).run Tryd.prog w = .ok (findK x y L i) w
  | [], i => by simp [Instr.findAsking, findK]
  | p :: r, i => by
    have ih := asking44 x y w r (i + 1)
    have e : (Op.equal 44 (.agg #[.bool x, .bool y]) (ent p).key).run Tryd.prog w = .ok (x == p.1 && y == p.2.1) w := eq44 x y p.1 p.2.1 w
    simp only [List.map_cons, Instr.findAsking, Sem.run_bind, e, Result.andThen, findK]
    split
    · rfl
    · exact ih
theorem st44 : (match Tryd.prog.underlying 44 with | some (.struct _) => true | _ => false) = true := by kernel_rfl
theorem now44 : ∃ fs, Tryd.prog.underlying 44 = some (.struct fs) := by
  have h := st44
  generalize Tryd.prog.underlying 44 = u at h ⊢
  match u, h with
  | some (.struct fs), _ => exact ⟨fs, rfl⟩
theorem find44 (x y : Bool) (w : World) (L : List KE) : (Instr.findKey 44 (.agg #[.bool x, .bool y]) (L.map ent)).run Tryd.prog w = .ok (findK x y L 0) w := by
  cases L with
  | nil =>
    obtain ⟨fs, hd⟩ := now44
    simp [Instr.findKey, run_underlying hd, Instr.findNow, findK, Result.andThen]
  | cons p r =>
    obtain ⟨fs, hd⟩ := now44
    have := asking44 x y w (p :: r) 0
    have hn : Instr.findNow (.struct fs) (.agg #[.bool x, .bool y]) ((p :: r).map ent) 0 = none := rfl
    simp only [Instr.findKey, Sem.run_bind, run_underlying hd, Result.andThen, hn]
    exact this
/-- An entry that is not there yet is laid behind the others. -/
theorem insert44 {w : World} {B : Nat} {L : List KE} (h : MB w B L) (x y : Bool) (f : Nat) (hf : findK x y L 0 = none) :
    ∃ (c : Nat) (w' : World), (Instr.mapUpdate 77 (.map (some B)) (.agg #[.bool x, .bool y]) (fnV f)).run Tryd.prog w = .ok () w' ∧ MB w' B (L ++ [(x, y, f, c)]) ∧ Only [B] w w' := by
  obtain ⟨c, hb⟩ := h
  have hlt := (Array.getElem?_eq_some_iff.1 hb).1
  refine ⟨c, w.putObj B (.map ((L ++ [(x, y, f, c)]).map ent).toArray (c + 1)), ?_, ⟨c + 1, World.putObj_heap_same hlt⟩, ⟨rfl, rfl, rfl, by simp, fun k _ hk => World.putObj_heap_other (fun q => hk (by simp [q]))⟩⟩
  have hk := find44 x y w L
  rw [hf] at hk
  have hl : ((L.map ent).toArray).toList = L.map ent := by simp
  simp only [Instr.mapUpdate, Sem.run_bind, run_underlying und77, MapKept.run_getObj_map hb, ck44, hk, Result.andThen, run_setObj_map _ hb, World.putObj]
  simp [ent]
theorem lookup44 {w : World} {B : Nat} {L : List KE} (h : MB w B L) (x y : Bool) (i : Nat) (v : Value) (hf : findK x y L 0 = some (i, v)) :
    (Instr.lookup 77 (.map (some B)) (.agg #[.bool x, .bool y]) false).run Tryd.prog w = .ok v w := by
  obtain ⟨c, hb⟩ := h
  have hk := find44 x y w L
  rw [hf] at hk
  have hl : ((L.map ent).toArray).toList = L.map ent := by simp
  simp only [Instr.lookup, Sem.run_bind, run_underlying und77, MapKept.run_getObj_map hb, ck44, hk, Result.andThen, Sem.run_pure]
  simp

def stepK (x y : Bool) : Nat := if x then (if y then 51 else 49) else (if y then 50 else 48)
/-- What steps leaves. -/
def Table (w : World) (e : Ending) (w' : World) : Prop :=
  ∃ (B : Nat) (L : List KE), e = .returned (.map (some B)) ∧ MB w' B L ∧ (∀ x y, ∃ i, findK x y L 0 = some (i, fnV (stepK x y))) ∧ Below w.heap.size w w'
theorem MB.new (w : World) : MB (w.alloc (.map #[] 0)) w.heap.size [] := ⟨0, World.alloc_heap_new w _⟩
theorem MB.drew {w : World} {B : Nat} {L : List KE} (h : MB w B L) : MB w.drew B L := h
/-- The map in the making: all else is as it was. -/
def MBB (w0 w : World) (B : Nat) (L : List KE) : Prop := MB w B L ∧ Below B w0 w
/-- The map's block with one entry more; its clock. -/
def clk (w : World) (B : Nat) : Nat := match w.heap[B]? with
  | some (.map _ c) => c
  | _ => 0
def insW (B : Nat) (w : World) (x y : Bool) (f : Nat) : World := match w.heap[B]? with
  | some (.map es c) => w.putObj B (.map (es.push (ent (x, y, f, c))) (c + 1))
  | _ => w
theorem MBB.ins {w0 w : World} {B : Nat} {L : List KE} (h : MBB w0 w B L) (x y : Bool) (f : Nat) : MBB w0 (insW B w x y f) B (L ++ [(x, y, f, clk w B)]) := by
  obtain ⟨⟨c, hb⟩, hbel⟩ := h
  have hlt := (Array.getElem?_eq_some_iff.1 hb).1
  have e : insW B w x y f = w.putObj B (.map ((L ++ [(x, y, f, clk w B)]).map ent).toArray (c + 1)) := by
    unfold insW clk
    rw [hb]
    simp
  rw [e]
  exact ⟨⟨c + 1, World.putObj_heap_same hlt⟩, hbel.trans ⟨rfl, rfl, rfl, by simp, fun k hk => World.putObj_heap_other (by omega)⟩⟩
/-- There is no entry at a key. -/
def Free (w0 : World) (B : Nat) (w : World) (x y : Bool) : Prop := ∃ L, MBB w0 w B L ∧ findK x y L 0 = none
theorem findK_none (x y : Bool) (L : List KE) (i j : Nat) : findK x y L i = none → findK x y L j = none := by
  induction L generalizing i j with
  | nil => simp [findK]
  | cons p r ih =>
    unfold findK
    split
    · intro h; cases h
    · exact ih _ _
theorem findK_snoc (x y : Bool) (p : KE) (hp : ¬ (x = p.1 ∧ y = p.2.1)) : ∀ (L : List KE) (i : Nat), findK x y L i = none → findK x y (L ++ [p]) i = none
  | [], i, _ => by
    have : (x == p.1 && y == p.2.1) = false := by
      rw [Bool.eq_false_iff]
      intro h
      simp only [Bool.and_eq_true, beq_iff_eq] at h
      exact hp h
    simp [findK, this]
  | q :: r, i, h => by
    simp only [findK, List.cons_append] at h ⊢
    split at h
    · cases h
    · rename_i hq
      rw [if_neg hq]
      exact findK_snoc x y p hp r (i + 1) h
theorem Free.ins {w0 w : World} {B : Nat} {x' y' : Bool} (h : Free w0 B w x' y') (x y : Bool) (f : Nat) (hne : ¬ (x' = x ∧ y' = y)) : Free w0 B (insW B w x y f) x' y' := by
  obtain ⟨L, h1, h2⟩ := h
  exact ⟨_, h1.ins x y f, findK_snoc x' y' _ hne L 0 h2⟩
theorem Free.run {w0 w : World} {B : Nat} {x y : Bool} (h : Free w0 B w x y) (f : Nat) : (Instr.mapUpdate 77 (.map (some B)) (.agg #[.bool x, .bool y]) (.func (.func f) #[] #[])).run Tryd.prog w = .ok () (insW B w x y f) := by
  obtain ⟨L, ⟨⟨c, hb⟩, _⟩, h2⟩ := h
  have hk := find44 x y w L
  rw [h2] at hk
  have hl : ((L.map ent).toArray).toList = L.map ent := by simp
  have e : insW B w x y f = w.putObj B (.map ((L.map ent).toArray.push (ent (x, y, f, c))) (c + 1)) := by
    unfold insW
    rw [hb]
  rw [e]
  simp only [Instr.mapUpdate, Sem.run_bind, run_underlying und77, MapKept.run_getObj_map hb, ck44, hk, Result.andThen, run_setObj_map _ hb, World.putObj]
  simp [ent, fnV]
set_option maxRecDepth 100000 in
set_option maxHeartbeats 8000000 in
theorem steps_any (w : World) : Calls Tryd.prog 36 #[] w (Table w) := by
  have hmm := @run_makeMap Tryd.prog
  have M0 : MBB w (w.alloc (.map #[] 0)).drew w.heap.size [] := ⟨(MB.new w).drew, ((Below.refl _ _).alloc (Nat.le_refl _) _).drew⟩
  have f00 : Free w w.heap.size (w.alloc (.map #[] 0)).drew false false := ⟨_, M0, rfl⟩
  have f01 : Free w w.heap.size (w.alloc (.map #[] 0)).drew false true := ⟨_, M0, rfl⟩
  have f10 : Free w w.heap.size (w.alloc (.map #[] 0)).drew true false := ⟨_, M0, rfl⟩
  have f11 : Free w w.heap.size (w.alloc (.map #[] 0)).drew true true := ⟨_, M0, rfl⟩
  have hI := fun (W : World) (x y : Bool) (f : Nat) (h : Free w w.heap.size W x y) => h.run f
  have hF := fun (W : World) (x y : Bool) (f : Nat) (x' y' : Bool) (hne : ¬ (x' = x ∧ y' = y)) (h : Free w w.heap.size W x' y') => h.ins x y f hne
  have hF2 := fun (W : World) (x y : Bool) (f : Nat) (a b : Bool) (g : Nat) (x' y' : Bool) (hne : ¬ (x' = x ∧ y' = y)) (hn2 : ¬ (x' = a ∧ y' = b)) (h : Free w w.heap.size W x' y') => (h.ins x y f hne).ins a b g hn2
  have hF3 := fun (W : World) (x y : Bool) (f : Nat) (a b : Bool) (g : Nat) (c d : Bool) (k : Nat) (x' y' : Bool) (hne : ¬ (x' = x ∧ y' = y)) (hn2 : ¬ (x' = a ∧ y' = b)) (hn3 : ¬ (x' = c ∧ y' = d)) (h : Free w w.heap.size W x' y') => ((h.ins x y f hne).ins a b g hn2).ins c d k hn3
  have HM := Lib.hid M0
  clear M0
  go_enter Tryd.func36, Tryd.ntmps36
  go_wp2
  go_region_held3 (fun _ => True) (trivial) (fail)
  all_goals
    go_wp2
    go_ret
    exact ⟨w.heap.size, _, rfl, ((((HM.out.ins _ _ _).ins _ _ _).ins _ _ _).ins _ _ _).1, fun x y => by cases x <;> cases y <;> exact ⟨_, rfl⟩, ((((HM.out.ins _ _ _).ins _ _ _).ins _ _ _).ins _ _ _).2⟩
end Go.Proofs.YtnkkbkceapcahaaDoor
