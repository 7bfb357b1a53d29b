/- A region that draws its order, inside a round of a range over a function: what holds of it outside holds there, if nothing lets out. flow.Live's search for the least sets: what its rounds keep, in memory and plain. -/
import Derived.Test.YtekfnonjhcfdmaaDoorBase1
import Derived.Test.YtekfnonjhcfdmaaDoorNests
import Derived.Test.YtekfnonjhcfdmaaDoorFam1
import Derived.Test.YtekfnonjhcfdmaaDoorNext1
import Derived.Test.YtekfnonjhcfdmaaDoorWalk1
namespace Go.Proofs.YtekfnonjhcfdmaaDoor
open Go Go.RowKit Go.Rt

/-- No operation of a list defers. -/
def noDefer (ops : Array Oper) : Bool := ops.toList.all fun o => match o.op with | .defer _ => false | _ => true
theorem noDefer_spec {ops : Array Oper} (h : noDefer ops = true) {i : Nat} {o : Oper} (ho : ops[i]? = some o) : ∀ c, o.op ≠ .defer c := by
  intro c hc
  unfold noDefer at h
  rw [List.all_eq_true] at h
  have := h o (by rw [← Array.getElem?_toList] at ho; exact List.mem_of_getElem? ho)
  rw [hc] at this
  cases this
theorem round_oper {P : Program} {o : Oper} {a : Act} {w : World} {l n : Nat} {K K' : Act → World → Prop} {Q : Exit → Act → World → Prop} (ho : ∀ c, o.op ≠ .defer c) (hK : ∀ a w, K a w → K' a w) (h : o.wp P a w K Q) : o.wpIn (Fence.wide.inRound l) n P a w K' Q := by
  refine ⟨fun _ _ => trivial, ?_⟩
  rw [Fence.inRound_round, Oper.semAt_some l a.eval o ho]
  unfold Oper.wp at h
  generalize (execOp a.eval o).run P w = r at *
  cases r with
  | ok x w' =>
    cases x with
    | value v => exact hK _ _ h
    | skip => exact hK _ _ h
    | defer d => exact hK _ _ h
    | enter f args =>
      refine ⟨fun hd => (by cases hd), ?_⟩
      refine CallsIn.inRound (F := Fence.wide) l (callsIn_wide.2 (Calls.mono h fun e w'' he => ?_))
      cases e with
      | returned v => exact hK _ _ he
      | panicked c => exact he
      | outgrown => exact he
    | row row args =>
      refine ⟨fun hd => (by cases hd), ?_⟩
      intro c cs _
      obtain ⟨v, w'', hr, hs⟩ := h c cs
      exact ⟨v, w'', hK _ _ hr, stepsIn_wide.2 hs⟩
    | _ => exact h.elim
  | halt x w' => cases x <;> first | exact h | exact h.elim
theorem round_ops {P : Program} {ops : Array Oper} {l n : Nat} {Q : Exit → Act → World → Prop} (hd : noDefer ops = true) (hQ : ¬ LetsOut Q) : ∀ (s : List Nat) (a : Act) (w : World), wpOps P ops Q s a w → wpOpsIn (Fence.wide.inRound l) n P ops Q s a w
  | [], _, _, h => h
  | i :: r, a, w, h => by
    unfold wpOps at h
    unfold wpOpsIn
    cases ho : ops[i]? with
    | none =>
      rw [ho] at h
      exact round_ops hd hQ r a w h
    | some o =>
      rw [ho] at h
      dsimp only at h ⊢
      split
      · rename_i hw
        rw [if_pos hw] at h
        rcases h with h | ⟨_, h⟩
        · exact round_oper (noDefer_spec hd ho) (fun a w => round_ops hd hQ r a w) h
        · exact absurd h hQ
      · rename_i hw
        rw [if_neg hw] at h
        exact ⟨fun _ _ => trivial, round_ops hd hQ r _ _ h⟩
/-- The beginning of a drawn region in a round. -/
theorem round_region_held {P : Program} {ops : Array Oper} {Q : Exit → Act → World → Prop} {S : World → Prop} {id l n : Nat} {a : Act} {w : World} (hm : P.follows .mixedOrders = true) (hd : noDefer ops = true) (hQ : ¬ LetsOut Q) (hS : S w.drew)
    (h : S w.drew → wpAnyH P .any ops Q S ops.size (Array.replicate ops.size false) a w.drew) : (Code.region id ops true).wpIn (Fence.wide.inRound l) n P Q a w :=
  wpIn_region_draw fun t => by
    simp only [Region.schedule, hm, Bool.true_or, if_true]
    exact round_ops hd hQ _ _ _ (wpAny_sound ops.size t _ a _ (wpAny_of_held _ _ _ _ (h hS)))
section
variable {P : Program} {md : Region.Mode} {ops : Array Oper} {Q : Exit → Act → World → Prop} {S : World → Prop}
/-- An operation that only reads is taken first. -/
theorem tk {i : Nat} {oi : Oper} {v : Value} {fuel : Nat} {listed : Array Bool} {a : Act} {w : World} (hi : ops[i]? = some oi) (hw : Region.wanted oi (yielded ops a.tmps) = true) (hv : ∀ w, S w → (execOp a.eval oi).run P w = .ok (.value v) w) (hS : S w)
    (h : wpAnyH P md ops Q S fuel (listed.setIfInBounds i true) (a.put oi.dst v) w) (hs : Region.noSelect ops = true := by kernel_rfl) (hf : Region.free md ops listed i = true := by kernel_rfl) (hr : (Region.ready md ops listed).contains i = true := by kernel_rfl)
    (hQ : ∀ c a w, Q (.panic c) (a.put oi.dst v) w → Q (.panic c) a w := by exact fun _ _ _ h => h) : wpAnyH P md ops Q S (fuel + 1) listed a w :=
  wpAnyH_take hi hs hf hr hQ (Or.inl ⟨hw, hv⟩) hS h
/-- An operation that a guard passes over. -/
theorem tks {i : Nat} {oi : Oper} {fuel : Nat} {listed : Array Bool} {a : Act} {w : World} (hi : ops[i]? = some oi) (hw : Region.wanted oi (yielded ops a.tmps) = false) (hS : S w)
    (h : wpAnyH P md ops Q S fuel (listed.setIfInBounds i true) (a.put oi.dst undef) w) (hs : Region.noSelect ops = true := by kernel_rfl) (hf : Region.free md ops listed i = true := by kernel_rfl) (hr : (Region.ready md ops listed).contains i = true := by kernel_rfl)
    (hQ : ∀ c a w, Q (.panic c) (a.put oi.dst undef) w → Q (.panic c) a w := by exact fun _ _ _ h => h) : wpAnyH P md ops Q S (fuel + 1) listed a w :=
  wpAnyH_take hi hs hf hr hQ (Or.inr ⟨hw, rfl⟩) hS h
end
end Go.Proofs.YtekfnonjhcfdmaaDoor
namespace Go.Proofs.YtekfnonjhcfdmaaDoor
open Go Go.RowKit Go.Rt Go.Rw

theorem LD.only {m1 n k p1 p2 g1 g2 : Nat} {L D : Row} {W W' : World} (h : LD m1 n k p1 p2 g1 g2 L D W) {bs : List Nat} (ho : Only bs W W') (h1 : p1 ∉ bs ∧ p2 ∉ bs ∧ g1 ∉ bs ∧ g2 ∉ bs) (hL : ∀ j, j < k → ∀ r ∈ own (L.b j) (L.o j), r ∉ bs) (hD : ∀ j, j < k → ∀ r ∈ own (D.b j) (D.o j), r ∉ bs) : LD m1 n k p1 p2 g1 g2 L D W' :=
  ⟨h.x1.only ho h1.1, h.x2.only ho h1.2.1, Fam.only h.fl ho h1.2.2.1 hL, Fam.only h.fd ho h1.2.2.2 hD, h.ap, h.lo⟩
/-- The state of the search. -/
structure LZ (l : List In) (fr : List Int) (kd : Int) (all : List Int) (T : Nat → List Int) (m1 n p1 p2 g1 g2 : Nat) (D : Row) (V1 : World) (L : Row) (Ds : List Nat) (c : Nat) (ch : Bool) (W : World) : Prop where
  nd : Ds.Nodup
  lo : ∀ d ∈ Ds, m1 ≤ d
  ds : ∀ d ∈ Ds, W.heap[d]? = some (.deferred (some []))
  bc : Blk W c 4 #[.bool ch]
  cl : m1 ≤ c ∧ m1 ≤ V1.heap.size
  ld : LD m1 n n p1 p2 g1 g2 L D W
  bl : Below m1 V1 W
  li : LI l fr T kd all L.s
section
variable {l : List In} {fr : List Int} {kd : Int} {all : List Int} {T : Nat → List Int} {m1 n p1 p2 g1 g2 : Nat} {D : Row} {V1 : World} {L : Row} {Ds : List Nat} {c : Nat} {ch : Bool} {W W' : World}
theorem LZ.sz (h : LZ l fr kd all T m1 n p1 p2 g1 g2 D V1 L Ds c ch W) : m1 ≤ W.heap.size := Nat.le_trans h.cl.2 h.bl.size
theorem LZ.only (h : LZ l fr kd all T m1 n p1 p2 g1 g2 D V1 L Ds c ch W) {bs : List Nat} (ho : Only bs W W') (hlo : ∀ r ∈ bs, m1 ≤ r) (h1 : p1 ∉ bs ∧ p2 ∉ bs ∧ g1 ∉ bs ∧ g2 ∉ bs) (hL : ∀ j, j < n → ∀ r ∈ own (L.b j) (L.o j), r ∉ bs) (hD : ∀ j, j < n → ∀ r ∈ own (D.b j) (D.o j), r ∉ bs) (hc : c ∉ bs) (hd : ∀ d ∈ Ds, d ∉ bs) :
    LZ l fr kd all T m1 n p1 p2 g1 g2 D V1 L Ds c ch W' :=
  ⟨h.nd, h.lo, fun d hm => (ho.block d (Array.getElem?_eq_some_iff.1 (h.ds d hm)).1 (hd d hm)).trans (h.ds d hm), h.bc.only ho hc, h.cl, h.ld.only ho h1 hL hD, h.bl.trans (ho.below hlo h.sz), h.li⟩
theorem LZ.grow (h : LZ l fr kd all T m1 n p1 p2 g1 g2 D V1 L Ds c ch W) {m : Nat} (hb : Below m W W') (hm : W.heap.size ≤ m) : LZ l fr kd all T m1 n p1 p2 g1 g2 D V1 L Ds c ch W' :=
  h.only (bs := []) (Only.of_below (hb.mono hm)) (by simp) (by simp) (by simp) (by simp) (by simp) (by simp)
/-- A cell of a block of numbers is set. -/
theorem LZ.far (h : LZ l fr kd all T m1 n p1 p2 g1 g2 D V1 L Ds c ch W) {b : Nat} {t : TypeId} {cs : Array Value} (hb : Blk W b t cs) (ht : t ≠ 58 ∧ t ≠ 59 ∧ t ≠ 62 ∧ t ≠ 95 ∧ t ≠ 4) (hlo : m1 ≤ b) (v : Value) : LZ l fr kd all T m1 n p1 p2 g1 g2 D V1 L Ds c ch (W.setCell ⟨b, 0, none⟩ v) := by
  have ho : Only [b] W (W.setCell ⟨b, 0, none⟩ v) := Only.setCell W _ v (by simp)
  have hne : ∀ {g : Nat} {t' : TypeId} {cs' : Array Value}, Blk W g t' cs' → t ≠ t' → g ∉ [b] := fun hg htt hm => by
    rw [List.mem_singleton] at hm
    exact blk_ne hg hb (Ne.symm htt) hm
  have hs : ∀ {b2 : Nat} {o : Option Nat} {s : List Nat}, SetAt W m1 b2 o s → ∀ r ∈ own b2 o, r ∉ [b] := fun hs r hr hm => by
    rw [List.mem_singleton] at hm
    subst hm
    exact hs.not hb ht.2.2.1 ht.2.2.2.1 hr
  exact h.only ho (by simpa using hlo) ⟨hne h.ld.x1 ht.1, hne h.ld.x2 ht.1, hne h.ld.fl.arr ht.2.1, hne h.ld.fd.arr ht.2.1⟩ (fun j hj => hs (h.ld.fl.set j hj)) (fun j hj => hs (h.ld.fd.set j hj)) (hne h.bc ht.2.2.2.2) (fun d hd hm => by
    rw [List.mem_singleton] at hm
    subst hm
    exact not_mark (h.ds _ hd) hb rfl)
/-- 'changed' is set. -/
theorem LZ.note (h : LZ l fr kd all T m1 n p1 p2 g1 g2 D V1 L Ds c ch W) (ch' : Bool) : LZ l fr kd all T m1 n p1 p2 g1 g2 D V1 L Ds c ch' (W.setCell ⟨c, 0, none⟩ (.bool ch')) := by
  have ho : Only [c] W (W.setCell ⟨c, 0, none⟩ (.bool ch')) := Only.setCell W _ _ (by simp)
  refine ⟨h.nd, h.lo, fun d hm => ?_, ?_, h.cl, h.ld.cell h.bc (by decide) _, h.bl.trans (ho.below (by simpa using h.cl.1) h.sz), h.li⟩
  · refine (ho.block d (Array.getElem?_eq_some_iff.1 (h.ds d hm)).1 (fun e => ?_)).trans (h.ds d hm)
    rw [List.mem_singleton] at e
    subst e
    exact not_mark (h.ds _ hm) h.bc rfl
  · have := h.bc.set_ 0 (.bool ch')
    simpa using this
/-- 'changed' lies anew. -/
theorem LZ.anew (h : LZ l fr kd all T m1 n p1 p2 g1 g2 D V1 L Ds c ch W) {c' : Nat} {ch' : Bool} (hc : Blk W c' 4 #[.bool ch']) (hl : m1 ≤ c') : LZ l fr kd all T m1 n p1 p2 g1 g2 D V1 L Ds c' ch' W :=
  ⟨h.nd, h.lo, h.ds, hc, ⟨hl, h.cl.2⟩, h.ld, h.bl, h.li⟩
/-- A mark more. -/
theorem LZ.mark (h : LZ l fr kd all T m1 n p1 p2 g1 g2 D V1 L Ds c ch W) {d : Nat} (hd : d ∉ Ds) (hl : m1 ≤ d) (hm : W.heap[d]? = some (.deferred (some []))) : LZ l fr kd all T m1 n p1 p2 g1 g2 D V1 L (d :: Ds) c ch W :=
  ⟨List.nodup_cons.2 ⟨hd, h.nd⟩, fun e he => (List.mem_cons.1 he).elim (fun q => by rw [q]; exact hl) (h.lo e), fun e he => (List.mem_cons.1 he).elim (fun q => by rw [q]; exact hm) (h.ds e), h.bc, h.cl, h.ld, h.bl, h.li⟩
theorem LZ.words (h : LZ l fr kd all T m1 n p1 p2 g1 g2 D V1 L Ds c ch W) (hn : n = l.length) (ha : all.length ≤ 1000000000) {i : Nat} (hi : i < n) : (L.s i).length ≤ 1000000000 := by
  have := h.li.size i (by omega)
  omega
/-- One join. -/
theorem LZ.join (h : LZ l fr kd all T m1 n p1 p2 g1 g2 D V1 L Ds c ch W) {i : Nat} (hi : i < n) {o' : Option Nat} {s' : List Nat} (hs : SetAt W' m1 (L.b i) o' s') (hm : Same W (L.o i) o') (ho : Only (own (L.b i) (L.o i)) W W') (hl : LI l fr T kd all (upd L.s i s')) : LZ l fr kd all T m1 n p1 p2 g1 g2 D V1 (L.turn i o' s') Ds c ch W' := by
  have hset := h.ld.fl.set i hi
  refine ⟨h.nd, h.lo, fun d hd => ?_, h.bc.only ho (hset.not h.bc (by decide) (by decide)), h.cl, h.ld.join hi hs hm ho, h.bl.trans (ho.below (fun r hr => (hset.lt r hr).1) h.sz), hl⟩
  refine (ho.block d (Array.getElem?_eq_some_iff.1 (h.ds d hd)).1 (fun e => ?_)).trans (h.ds d hd)
  obtain ⟨_, _, sa, co, h2, h3, h4⟩ := hset
  unfold own at e
  rw [List.mem_cons, Option.mem_toList] at e
  rcases e with rfl | e
  · exact not_mark (h.ds _ hd) h2 rfl
  · rw [← h4] at e
    rcases h3.2 with ⟨q, _⟩ | ⟨g, cap, cur, q, _, q3, _⟩
    · rw [q] at e
      simp [Value.ownBlock] at e
    · rw [q] at e
      simp only [Value.ownBlock, Option.some.injEq] at e
      subst e
      exact not_mark (h.ds _ hd) (show Blk W g 95 cur from q3) rfl
end
/-- Plain: one step along a target. -/
theorem fix_step {l : List In} {fr : List Int} {T : Nat → List Int} {kd : Int} {all : List Int} {L D : Row} (h : LI l fr T kd all L.s) (hd : DI l kd all D.s) {i j : Nat} (hi : i < l.length) (hj : j < l.length) (hr : Rch l fr i) (ht : (j : Int) ∈ targF l[i] i) (hw : ∀ x ∈ L.s j, x < 18446744073709551616) :
    LI l fr T kd all (upd L.s i (joinS (L.s j) (D.s i) (L.s i))) ∧ JoinR l.length all.length L.s (upd L.s i (joinS (L.s j) (D.s i) (L.s i))) (joinB (L.s j) (D.s i) (L.s i)) ∧ (joinB (L.s j) (D.s i) (L.s i) = false → ClT l D.s L.s i j) := by
  refine join_all h hi hj (D.s i) hw (fun k n hk _ h2 hL => ?_)
  refine Lv.step i j hi n hr hj ht (fun hm => ?_) hL
  rw [(hd.is i hi k n hk).2 hm] at h2
  cases h2
/-- Plain: one step to a handler. -/
theorem fix_hand {l : List In} {fr : List Int} {T : Nat → List Int} {kd : Int} {all : List Int} {L : Row} (h : LI l fr T kd all L.s) {i j : Nat} (hi : i < l.length) (hj : j < l.length) (hr : Rch l fr i) (ht : (T i).getLast? = some (j : Int)) (hw : ∀ x ∈ L.s j, x < 18446744073709551616) :
    LI l fr T kd all (upd L.s i (joinS (L.s j) [] (L.s i))) ∧ JoinR l.length all.length L.s (upd L.s i (joinS (L.s j) [] (L.s i))) (joinB (L.s j) [] (L.s i)) ∧ (joinB (L.s j) [] (L.s i) = false → ClH L.s i j) := by
  obtain ⟨h1, h2, h3⟩ := join_all h hi hj [] hw (fun k n _ _ _ hL => Lv.hand i j hi n hr hj ht hL)
  exact ⟨h1, h2, fun e k hk => h3 e k hk (has_nil k)⟩
theorem JoinR.self (n N : Nat) (s : Nat → List Nat) : JoinR n N s s false := ⟨fun _ _ _ => rfl, fun h => by cases h⟩
/-- What a pass has seen: the instructions behind, and of this one's targets the first k. -/
def SeenT (l : List In) (fr : List Int) (T : Nat → List Int) (d s : Nat → List Nat) (xs : List Int) (i k : Nat) : Prop := (∀ j, i < j → j < l.length → Cl l fr T d s j) ∧ ∀ (a : Nat) (h : a < xs.length) (j : Nat), a < k → xs[a] = j → j < l.length → ClT l d s i j
theorem SeenT.next {l : List In} {fr : List Int} {T : Nat → List Int} {d s s' : Nat → List Nat} {xs : List Int} {i k : Nat} (h : SeenT l fr T d s xs i k) (e : EqS s s') (hk : k < xs.length) (hj : ∀ j : Nat, xs[k] = j → j < l.length → ClT l d s i j) : SeenT l fr T d s' xs i (k + 1) :=
  ⟨fun j h1 h2 => (h.1 j h1 h2).eq e, fun a ha j hak he hjl => by
    rcases Nat.lt_succ_iff_lt_or_eq.1 hak with q | q
    · exact (h.2 a ha j q he hjl).eq e
    · subst q
      exact (hj j he hjl).eq e⟩
theorem SeenT.all {l : List In} {fr : List Int} {T : Nat → List Int} {d s : Nat → List Nat} {i : Nat} (hi : i < l.length) (h : SeenT l fr T d s (targF l[i] i) i (targF l[i] i).length) : (∀ j, i < j → j < l.length → Cl l fr T d s j) ∧ AllT l d s i :=
  ⟨h.1, fun _ j hj hm => by
    obtain ⟨a, ha, e⟩ := List.getElem_of_mem hm
    exact h.2 a ha j ha e hj⟩
/-- Inside the range over the targets: what memory says of 'changed' (cm), what is so (ch). -/
structure RLJ (l : List In) (fr : List Int) (kd : Int) (all : List Int) (T : Nat → List Int) (m1 n p1 p2 g1 g2 : Nat) (D : Row) (V1 : World) (Ds : List Nat) (c M Dd ib b o i : Nat) (f : Im) (k : Nat) (L : Row) (ch cm : Bool) (W : World) : Prop where
  z : LZ l fr kd all T m1 n p1 p2 g1 g2 D V1 L Ds c cm W
  bi : Blk W ib 3 #[.int .i64 i]
  pre : TPre (Dd - 2) (Dd - 1) b o f i W
  offL : ∀ j, j < n → ∀ r ∈ own (L.b j) (L.o j), r ∉ [Dd, Dd + 1]
  pi : PI l.length all.length M L.s ch (SeenT l fr T D.s L.s (targF f.x i) i k)
/-- What lies below the loop's records. -/
structure LowD (p1 p2 g1 g2 c ib Dd m1 n : Nat) (D : Row) (Ds : List Nat) : Prop where
  lt : p1 < Dd ∧ p2 < Dd ∧ g1 < Dd ∧ g2 < Dd ∧ c < Dd ∧ ib < Dd ∧ m1 + 2 ≤ Dd ∧ m1 ≤ ib
  ds : ∀ d ∈ Ds, d < Dd
  offD : ∀ j, j < n → ∀ r ∈ own (D.b j) (D.o j), r < Dd
section
variable {l : List In} {fr : List Int} {kd : Int} {all : List Int} {T : Nat → List Int} {m1 n p1 p2 g1 g2 : Nat} {D : Row} {V1 : World} {L : Row} {Ds : List Nat} {c M Dd ib b o i k : Nat} {f : Im} {ch cm : Bool} {W W' w : World}
theorem RLJ.abide (h : RLJ l fr kd all T m1 n p1 p2 g1 g2 D V1 Ds c M Dd ib b o i f k L ch cm W) (ho : Only [Dd, Dd + 1] W W') (hl : LowD p1 p2 g1 g2 c ib Dd m1 n D Ds) (hc : SlAt w 2 csC f.cv f.x.cases) (hb : b < w.heap.size) (hw : w.heap.size ≤ m1) : RLJ l fr kd all T m1 n p1 p2 g1 g2 D V1 Ds c M Dd ib b o i f k L ch cm W' := by
  have hlt := hl.lt
  have hn : ∀ r, r < Dd → r ∉ [Dd, Dd + 1] := fun r hr => nin2 hr
  have hlo : ∀ r ∈ [Dd, Dd + 1], m1 ≤ r := by intro r hr; simp at hr; omega
  exact ⟨h.z.only ho hlo ⟨hn _ hlt.1, hn _ hlt.2.1, hn _ hlt.2.2.1, hn _ hlt.2.2.2.1⟩ h.offL (fun j hj r hr => hn _ (hl.offD j hj r hr)) (hn _ hlt.2.2.2.2.1) (fun d hd => hn _ (hl.ds d hd)), h.bi.only ho (hn _ hlt.2.2.2.2.2.1),
    h.pre.later hc hb (Nat.le_trans hw h.z.sz) ho (fun r hr => Nat.le_trans hw (hlo r hr)) (hn _ (by omega)) (hn _ (by omega)), h.offL, h.pi⟩
theorem RLJ.skip (h : RLJ l fr kd all T m1 n p1 p2 g1 g2 D V1 Ds c M Dd ib b o i f k L ch cm W) (hk : k < (targF f.x i).length) (hj : ∀ j : Nat, (targF f.x i)[k] = j → j < l.length → ClT l D.s L.s i j) : RLJ l fr kd all T m1 n p1 p2 g1 g2 D V1 Ds c M Dd ib b o i f (k + 1) L ch cm W :=
  ⟨h.z, h.bi, h.pre, h.offL, h.pi.keep (fun hs => hs.next (fun _ _ => rfl) hk hj)⟩
theorem RLJ.join (h : RLJ l fr kd all T m1 n p1 p2 g1 g2 D V1 Ds c M Dd ib b o i f k L ch cm W) (hc : SlAt w 2 csC f.cv f.x.cases) (hb : b < w.heap.size) (hw : w.heap.size ≤ m1) (hi : i < n) (hk : k < (targF f.x i).length) {j : Nat} (hkj : (targF f.x i)[k] = (j : Int))
    {o' : Option Nat} {s' : List Nat} {r : Bool} (hs : SetAt W' m1 (L.b i) o' s') (hm : Same W (L.o i) o') (ho : Only (own (L.b i) (L.o i)) W W') (hz : Dd + 2 ≤ W.heap.size) (hL : LI l fr T kd all (upd L.s i s')) (hJ : JoinR l.length all.length L.s (upd L.s i s') r) (hC : r = false → ClT l D.s L.s i j) :
    RLJ l fr kd all T m1 n p1 p2 g1 g2 D V1 Ds c M Dd ib b o i f (k + 1) (L.turn i o' s') (ch || r) cm W' := by
  have hset := h.z.ld.fl.set i hi
  refine ⟨h.z.join hi hs hm ho hL, h.bi.only ho (hset.not h.bi (by decide) (by decide)), h.pre.later hc hb (Nat.le_trans hw h.z.sz) ho (fun r hr => Nat.le_trans hw (hset.lt r hr).1) (hset.not (show Blk W (Dd - 2) 67 _ from h.pre.b1) (by decide) (by decide)) (hset.not (show Blk W (Dd - 1) 3 _ from h.pre.b2) (by decide) (by decide)), fun a ha q hq hm2 => ?_, h.pi.step hJ (fun hr hs => hs.next (hJ.no hr) hk (fun j2 e _ => by
    rw [hkj] at e
    have : j = j2 := by omega
    subst this
    exact hC hr))⟩
  by_cases e : a = i
  · subst e
    simp only [Row.turn, upd_at] at hq
    unfold own at hq
    rw [List.mem_cons, Option.mem_toList] at hq
    have h1 := h.offL a ha
    rcases hq with rfl | hq
    · exact h1 _ (by simp [own]) hm2
    · rcases hm with rfl | ⟨g, rfl, hg⟩
      · exact h1 q (by unfold own; rw [List.mem_cons, Option.mem_toList]; exact .inr hq) hm2
      · simp only [Option.some.injEq] at hq
        simp at hm2
        omega
  · simp only [Row.turn, upd_ne _ _ e] at hq
    exact h.offL a ha q hq hm2
theorem RLJ.note (h : RLJ l fr kd all T m1 n p1 p2 g1 g2 D V1 Ds c M Dd ib b o i f k L ch cm W) (hc : SlAt w 2 csC f.cv f.x.cases) (hb : b < w.heap.size) (hw : w.heap.size ≤ m1) (v : Bool) : RLJ l fr kd all T m1 n p1 p2 g1 g2 D V1 Ds c M Dd ib b o i f k L ch v (W.setCell ⟨c, 0, none⟩ (.bool v)) := by
  have ho : Only [c] W (W.setCell ⟨c, 0, none⟩ (.bool v)) := Only.setCell W _ _ (by simp)
  have hne : ∀ {g : Nat} {t' : TypeId} {cs' : Array Value}, Blk W g t' cs' → t' ≠ 4 → g ∉ [c] := fun hg ht hm => by
    rw [List.mem_singleton] at hm
    exact blk_ne hg h.z.bc ht hm
  exact ⟨h.z.note v, h.bi.only ho (hne h.bi (by decide)), h.pre.later hc hb (Nat.le_trans hw h.z.sz) ho (by intro r hr; rw [List.mem_singleton] at hr; have := h.z.cl.1; omega) (hne (show Blk W (Dd - 2) 67 _ from h.pre.b1) (by decide)) (hne (show Blk W (Dd - 1) 3 _ from h.pre.b2) (by decide)), h.offL, h.pi⟩
end
/-- A frame as a list of its slots. -/
theorem tm_in {N : Nat} {T : Array Value} (h : T.size = N) : T = ((List.range N).map fun k => T.getD k undef).toArray := by
  subst h
  apply Array.ext
  · simp
  · intro i h1 h2
    simp [Array.getD, h1]
/-- What the drawn regions of a round read. -/
structure SZ (m1 n p1 p2 g1 g2 ib i : Nat) (T1 T2 : List Value) (V1 W : World) : Prop where
  bl : Below m1 V1 W
  x1 : Blk W p1 58 #[.slice (some ⟨g1, 0, none⟩) n n]
  x2 : Blk W p2 58 #[.slice (some ⟨g2, 0, none⟩) n n]
  a1 : Blk W g1 59 T1.toArray
  a2 : Blk W g2 59 T2.toArray
  bi : Blk W ib 3 #[.int .i64 i]
section
variable {l : List In} {fr : List Int} {kd : Int} {all : List Int} {T : Nat → List Int} {m1 n p1 p2 g1 g2 : Nat} {D : Row} {V1 : World} {L : Row} {Ds : List Nat} {c ib i : Nat} {ch : Bool} {W W' : World}
theorem LZ.reads (h : LZ l fr kd all T m1 n p1 p2 g1 g2 D V1 L Ds c ch W) (hb : Blk W ib 3 #[.int .i64 i]) : SZ m1 n p1 p2 g1 g2 ib i L.T D.T V1 W := ⟨h.bl, h.ld.x1, h.ld.x2, h.ld.fl.arr, h.ld.fd.arr, hb⟩
theorem SZ.joined (h : SZ m1 n p1 p2 g1 g2 ib i L.T D.T V1 W) (hz : m1 ≤ W.heap.size) {b : Nat} {o : Option Nat} {s : List Nat} (hs : SetAt W m1 b o s) (ho : Only (own b o) W W') : SZ m1 n p1 p2 g1 g2 ib i L.T D.T V1 W' :=
  ⟨h.bl.trans (ho.below (fun r hr => (hs.lt r hr).1) hz), h.x1.only ho (hs.not h.x1 (by decide) (by decide)), h.x2.only ho (hs.not h.x2 (by decide) (by decide)), h.a1.only ho (hs.not h.a1 (by decide) (by decide)), h.a2.only ho (hs.not h.a2 (by decide) (by decide)), h.bi.only ho (hs.not h.bi (by decide) (by decide))⟩
/-- What a join answers. -/
def JoR (m1 b : Nat) (o : Option Nat) (s : List Nat) (r : Bool) (W : World) (e : Ending) (w' : World) : Prop := e = .returned (.bool r) ∧ ∃ o', SetAt w' m1 b o' s ∧ Same W o o' ∧ Only (own b o) W w'
theorem LZ.calls (h : LZ l fr kd all T m1 n p1 p2 g1 g2 D V1 L Ds c ch W) (hn : n = l.length) (ha : all.length ≤ 1000000000) (hi : i < n) {j : Nat} (hj : j < n) (hji : j ≠ i) : Calls Tryd.prog 37 #[.pointer (some ⟨L.b i, 0, none⟩), .pointer (some ⟨L.b j, 0, none⟩), .pointer (some ⟨D.b i, 0, none⟩)] W (JoR m1 (L.b i) (L.o i) (joinS (L.s j) (D.s i) (L.s i)) (joinB (L.s j) (D.s i) (L.s i)) W) :=
  join37 (L.b i) (L.b j) m1 m1 (L.o i) (L.o j) (L.s i) (L.s j) (D.s i) _ W (h.ld.fl.set i hi) (h.ld.fl.set j hj) (fun w' ho => .inr ⟨D.b i, m1, D.o i, rfl, (h.ld.fd.set i hi).only ho (fun r hr hr2 => h.ld.ap i i hi hi r hr2 hr)⟩)
    (fun g hg hm => h.ld.fl.ne j i hj hi hji g (by unfold own; exact List.mem_cons_of_mem _ hg) hm) (h.words hn ha hj) (h.words hn ha hi) h.sz
theorem LZ.callh (h : LZ l fr kd all T m1 n p1 p2 g1 g2 D V1 L Ds c ch W) (hn : n = l.length) (ha : all.length ≤ 1000000000) (hi : i < n) {j : Nat} (hj : j < n) (hji : j ≠ i) : Calls Tryd.prog 37 #[.pointer (some ⟨L.b i, 0, none⟩), .pointer (some ⟨L.b j, 0, none⟩), .pointer none] W (JoR m1 (L.b i) (L.o i) (joinS (L.s j) [] (L.s i)) (joinB (L.s j) [] (L.s i)) W) :=
  join37 (L.b i) (L.b j) m1 m1 (L.o i) (L.o j) (L.s i) (L.s j) [] _ W (h.ld.fl.set i hi) (h.ld.fl.set j hj) (fun _ _ => .inl ⟨rfl, rfl⟩)
    (fun g hg hm => h.ld.fl.ne j i hj hi hji g (by unfold own; exact List.mem_cons_of_mem _ hg) hm) (h.words hn ha hj) (h.words hn ha hi) h.sz
theorem LZ.selfs (h : LZ l fr kd all T m1 n p1 p2 g1 g2 D V1 L Ds c ch W) (hn : n = l.length) (ha : all.length ≤ 1000000000) (hi : i < n) : Calls Tryd.prog 37 #[.pointer (some ⟨L.b i, 0, none⟩), .pointer (some ⟨L.b i, 0, none⟩), .pointer (some ⟨D.b i, 0, none⟩)] W fun e w' => e = .returned (.bool false) ∧ w' = W :=
  join37s (L.b i) m1 (L.o i) (L.s i) (D.s i) _ W (h.ld.fl.set i hi) (.inr ⟨D.b i, m1, D.o i, rfl, h.ld.fd.set i hi⟩) (h.words hn ha hi)
theorem LZ.selfh (h : LZ l fr kd all T m1 n p1 p2 g1 g2 D V1 L Ds c ch W) (hn : n = l.length) (ha : all.length ≤ 1000000000) (hi : i < n) : Calls Tryd.prog 37 #[.pointer (some ⟨L.b i, 0, none⟩), .pointer (some ⟨L.b i, 0, none⟩), .pointer none] W fun e w' => e = .returned (.bool false) ∧ w' = W :=
  join37s (L.b i) m1 (L.o i) (L.s i) [] _ W (h.ld.fl.set i hi) (.inl ⟨rfl, rfl⟩) (h.words hn ha hi)
theorem LZ.w64 (h : LZ l fr kd all T m1 n p1 p2 g1 g2 D V1 L Ds c ch W) (hi : i < n) : ∀ x ∈ L.s i, x < 18446744073709551616 := (h.ld.fl.set i hi).2.1
end
section
variable {l : List In} {fr : List Int} {T : Nat → List Int} {d s s' : Nat → List Nat} {n N M i : Nat} {ch r : Bool}
theorem PI.hand0 (h : PI n N M s ch ((∀ j, i < j → j < l.length → Cl l fr T d s j) ∧ AllT l d s i)) (hH : AllH l T s i) : PI n N M s ch (∀ j : Nat, ((i : Int) - 1) < j → j < l.length → Cl l fr T d s j) :=
  h.keep fun ⟨h1, h2⟩ j hj hjl => by
    by_cases e : j = i
    · subst e
      exact fun _ => ⟨h2, hH⟩
    · exact h1 j (by omega) hjl
theorem PI.hand1 (h : PI n N M s ch ((∀ j, i < j → j < l.length → Cl l fr T d s j) ∧ AllT l d s i)) (hJ : JoinR n N s s' r) (hH : r = false → AllH l T s i) : PI n N M s' (ch || r) (∀ j : Nat, ((i : Int) - 1) < j → j < l.length → Cl l fr T d s' j) :=
  h.step hJ fun hr ⟨h1, h2⟩ j hj hjl => by
    by_cases e : j = i
    · subst e
      exact Cl.eq (fun _ => ⟨h2, hH hr⟩) (hJ.no hr)
    · exact (h1 j (by omega) hjl).eq (hJ.no hr)
theorem PI.blind (h : PI n N M s ch (∀ j : Nat, (i : Int) < j → j < l.length → Cl l fr T d s j)) (hr : ¬ Rch l fr i) : PI n N M s ch (∀ j : Nat, ((i : Int) - 1) < j → j < l.length → Cl l fr T d s j) :=
  h.keep fun h1 j hj hjl => by
    by_cases e : j = i
    · subst e
      exact fun h => absurd h hr
    · exact h1 j (by omega) hjl
end
/-- A block of another type turns. -/
theorem LZ.farO {l : List In} {fr : List Int} {kd : Int} {all : List Int} {T : Nat → List Int} {m1 n p1 p2 g1 g2 : Nat} {D : Row} {V1 : World} {L : Row} {Ds : List Nat} {c : Nat} {ch : Bool} {W W' : World} (h : LZ l fr kd all T m1 n p1 p2 g1 g2 D V1 L Ds c ch W) {b : Nat} {t : TypeId} {cs : Array Value} (hb : Blk W b t cs) (ht : t ≠ 58 ∧ t ≠ 59 ∧ t ≠ 62 ∧ t ≠ 95 ∧ t ≠ 4) (hlo : m1 ≤ b) (ho : Only [b] W W') : LZ l fr kd all T m1 n p1 p2 g1 g2 D V1 L Ds c ch W' := by
  have hne : ∀ {g : Nat} {t' : TypeId} {cs' : Array Value}, Blk W g t' cs' → t ≠ t' → g ∉ [b] := fun hg htt hm => by
    rw [List.mem_singleton] at hm
    exact blk_ne hg hb (Ne.symm htt) hm
  have hs : ∀ {b2 : Nat} {o : Option Nat} {s : List Nat}, SetAt W m1 b2 o s → ∀ r ∈ own b2 o, r ∉ [b] := fun hs r hr hm => by
    rw [List.mem_singleton] at hm
    subst hm
    exact hs.not hb ht.2.2.1 ht.2.2.2.1 hr
  exact h.only ho (by simpa using hlo) ⟨hne h.ld.x1 ht.1, hne h.ld.x2 ht.1, hne h.ld.fl.arr ht.2.1, hne h.ld.fd.arr ht.2.1⟩ (fun j hj => hs (h.ld.fl.set j hj)) (fun j hj => hs (h.ld.fd.set j hj)) (hne h.bc ht.2.2.2.2) (fun d hd hm => by
    rw [List.mem_singleton] at hm
    subst hm
    exact not_mark (h.ds _ hd) hb rfl)
theorem sl_off_blk {α : Type} {W : World} {B m g : Nat} {t t2 : TypeId} {c : α → List Value} {v : Value} {L : List α} {cs : Array Value} (h : Sl W B t m c v L) (k : Blk W g t2 cs) (ht : t ≠ t2) : Off v [g] := by
  intro x hx hm
  rw [List.mem_singleton] at hm
  subst hm
  rcases h.2 with ⟨q, _⟩ | ⟨g2, cap2, cur, q, _, q3, _⟩
  · rw [q] at hx
    simp [Value.ownBlock] at hx
  · rw [q] at hx
    simp only [Value.ownBlock, Option.some.injEq] at hx
    subst hx
    exact blk_ne (show Blk W _ t cur from q3) k ht rfl
/-- The lists that are returned, the first i of n. -/
structure OutI (all : List Int) (s : Nat → List Nat) (n go i : Nat) (Vs : List Value) (W : World) : Prop where
  len : Vs.length = n
  arr : Blk W go 23 Vs.toArray
  done : ∀ j, j < i → ∃ v, Vs[j]? = some v ∧ Sl W 0 3 1 inC v (namesF all (s j))
  rest : ∀ j, i ≤ j → j < n → Vs[j]? = some (.slice none 0 0)
theorem OutI.start (all : List Int) (s : Nat → List Nat) {n go : Nat} {W : World} (h : Blk W go 23 (Array.replicate n (.slice none 0 0))) : OutI all s n go 0 (List.replicate n (.slice none 0 0)) W :=
  ⟨by simp, by simpa using h, fun j h => by omega, fun j _ h => by rw [List.getElem?_replicate, if_pos h]⟩
theorem OutI.below {all : List Int} {s : Nat → List Nat} {n go i : Nat} {Vs : List Value} {W W' : World} (h : OutI all s n go i Vs W) (hb : Below W.heap.size W W') : OutI all s n go i Vs W' :=
  ⟨h.len, h.arr.below hb h.arr.lt, fun j hj => by obtain ⟨v, h1, h2⟩ := h.done j hj; exact ⟨v, h1, h2.below hb (fun g hg => (h2.lt g hg).2)⟩, h.rest⟩
theorem OutI.next {all : List Int} {s : Nat → List Nat} {n go i z : Nat} {Vs : List Value} {W W' : World} (h : OutI all s n go i Vs W) (ho : Only [go] W W') (hi : i < n) {v : Value} (ha : Blk W' go 23 (Vs.set i v).toArray) (hv : Sl W' z 3 1 inC v (namesF all (s i))) : OutI all s n go (i + 1) (Vs.set i v) W' := by
  refine ⟨by rw [List.length_set]; exact h.len, ha, fun j hj => ?_, fun j hj hjn => ?_⟩
  · by_cases e : j = i
    · subst e
      exact ⟨v, List.getElem?_set_self (by rw [h.len]; exact hi), hv.mono (Nat.zero_le _)⟩
    · obtain ⟨u, h1, h2⟩ := h.done j (by omega)
      exact ⟨u, by rw [List.getElem?_set_ne (Ne.symm e)]; exact h1, h2.only ho (sl_off_blk h2 h.arr (by decide))⟩
  · rw [List.getElem?_set_ne (by omega)]
    exact h.rest j (by omega) hjn
theorem OutI.same {all : List Int} {s : Nat → List Nat} {n go i : Nat} {Vs : List Value} {W : World} (h : OutI all s n go i Vs W) (hi : i < n) : Vs.set i (.slice none 0 0) = Vs := by
  apply List.ext_getElem?
  intro j
  by_cases e : j = i
  · subst e
    rw [List.getElem?_set_self (by rw [h.len]; exact hi), h.rest j (Nat.le_refl _) hi]
  · rw [List.getElem?_set_ne (Ne.symm e)]
theorem blk_slAt {W : World} {g cap : Nat} {t : TypeId} {Vs : List Value} (h : Blk W g t Vs.toArray) (hm : Vs.length ≤ 9223372036854775807) : SlAt W 1 vlC (.slice (some ⟨g, 0, none⟩) Vs.length cap) Vs := by
  refine .inr ⟨g, 0, cap, rfl, hm, h.lt, fun i j hi hj => ?_⟩
  obtain rfl : j = 0 := by omega
  rw [show 0 + i * 1 + 0 = i by omega, h.cell i, List.getElem?_toArray, List.getElem?_eq_getElem hi]
  rfl
theorem OutI.ls {all : List Int} {s : Nat → List Nat} {n go : Nat} {Vs : List Value} {W W' : World} (h : OutI all s n go n Vs W) {Ds : List Nat} (hds : ∀ d ∈ Ds, W.heap[d]? = some (.deferred (some []))) (ho : Only Ds W W') (hn : n ≤ 9223372036854775807) : LsAt W' ((List.range n).map fun i => namesF all (s i)) (.slice (some ⟨go, 0, none⟩) n n) := by
  have hk : ∀ {A : Nat} {t : TypeId} {cs : Array Value}, Blk W A t cs → A ∉ Ds := fun hb hm => not_mark (hds _ hm) hb rfl
  refine ⟨Vs, ?_, by rw [h.len]; simp, fun i a b => ?_⟩
  · have := blk_slAt (cap := n) (h.arr.only ho (hk h.arr)) (by rw [h.len]; exact hn)
    rwa [h.len] at this
  · have hin : i < n := by rw [← h.len]; exact a
    obtain ⟨v, h1, h2⟩ := h.done i hin
    rw [List.getElem?_eq_getElem a] at h1
    cases h1
    rw [List.getElem_map, List.getElem_range]
    refine (h2.only ho (fun g hg => ?_)).at in_len
    rcases h2.2 with ⟨q, _⟩ | ⟨g2, cap2, cur, q, _, q3, _⟩
    · rw [q] at hg
      simp [Value.ownBlock] at hg
    · rw [q] at hg
      simp only [Value.ownBlock, Option.some.injEq] at hg
      subst hg
      exact hk (show Blk W _ 3 cur from q3)
end Go.Proofs.YtekfnonjhcfdmaaDoor
